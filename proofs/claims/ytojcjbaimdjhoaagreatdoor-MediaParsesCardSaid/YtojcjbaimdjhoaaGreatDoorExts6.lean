
/- Layer 5: Own, Is, awake; ExtsParse, ExtsBack, ExtsApart, walked. Package exts: Find, Of, Into. Layer 5: ExtsHeaders, walked. -/
import Derived.Test.YtojcjbaimdjhoaaGreatDoorExts4
import Derived.Test.YtojcjbaimdjhoaaGreatDoorRtp6
import Derived.Test.YtojcjbaimdjhoaaGreatDoorRK
namespace Go.Proofs.YtojcjbaimdjhoaaGreatDoor
open Go.RowKit
set_option linter.unusedVariables false
set_option linter.unusedSimpArgs false

set_option maxRecDepth 100000 in
theorem ne5_ (a1 b1 : Int) (a2 b2 : List UInt8) (w : World) : (binOp .neq 71 (.agg [.int .i64 a1, str a2].toArray) (.agg [.int .i64 b1, str b2].toArray)).run Tryz.prog w = .ok (.bool (!decide (a1 = b1 ∧ a2 = b2))) w := by
  by_cases h1 : a1 = b1
  · by_cases h2 : a2 = b2
    · subst h1 h2; simp [go_sem]
    · have e : (a2 == b2) = false := by simpa using h2
      simp [go_sem, h1, h2, e]
  · simp [go_sem, h1]
def own5 (l : List E5) : List E5 := (l.take 8).map fun x => ⟨x.id, x.data.take 260⟩
theorem raw5_le (f : Nat) : ∀ (l : List E5) (k : Nat), (∀ x ∈ l, x.data.length ≤ k) → (raw5 f l).length ≤ l.length * (k + 2)
  | [], _, _ => by simp [raw5]
  | x :: l, k, h => by
    have ih := raw5_le f l k (fun y hy => h y (by simp [hy]))
    have hx := h x (by simp)
    have hh : (head5 f x).length ≤ 2 := by
      unfold head5
      split
      · rw [putZ_length]; omega
      · rw [List.length_append, putZ_length, putZ_length]; omega
    unfold raw5 at ih ⊢
    rw [List.flatMap_cons, List.length_append, List.length_cons, Nat.add_mul]
    unfold item5 at ih ⊢
    rw [List.length_append]
    omega
theorem raw5_count (f : Nat) : ∀ (l : List E5), l.length ≤ (raw5 f l).length
  | [] => by simp
  | x :: l => by
    have ih := raw5_count f l
    have hh : 1 ≤ (head5 f x).length := by
      unfold head5
      split
      · rw [putZ_length]; omega
      · rw [List.length_append, putZ_length, putZ_length]; omega
    unfold raw5 at ih ⊢
    rw [List.flatMap_cons, List.length_append, List.length_cons]
    unfold item5 at ih ⊢
    rw [List.length_append]
    omega
theorem own5_len (l : List E5) : (own5 l).length ≤ 8 := by unfold own5; rw [List.length_map, List.length_take]; omega
theorem own5_raw (f : Nat) (l : List E5) : (raw5 f (own5 l)).length ≤ 1000000000 := by
  have h1 := raw5_le f (own5 l) 260 (fun x hx => by
    unfold own5 at hx
    obtain ⟨y, _, rfl⟩ := List.mem_map.1 hx
    dsimp only
    rw [List.length_take]; omega)
  have h2 := own5_len l
  omega
/-- What was read has no more bytes than it was read from. -/
theorem parse5_raw (p : Int) (s : List UInt8) (h : (parse5 p s).2.2 = 0) : (raw5 (formOk (parse5 p s).1) (parse5 p s).2.1).length ≤ s.length := by
  unfold parse5 at h ⊢
  by_cases h1 : formN p = 0
  · rw [if_pos h1] at h; cases h
  rw [if_neg h1] at h ⊢
  by_cases h2 : s.length % 4 ≠ 0
  · rw [if_pos h2] at h; cases h
  rw [if_neg h2] at h ⊢
  by_cases h3 : (go5 (formN p) s).2 = 0
  · rw [if_pos h3]
    obtain ⟨q1, q2, q3⟩ := formN_12 p h1
    obtain ⟨g1, k, g2, g3⟩ := go5_bytes (formN p) q1 s.length s (Nat.le_refl _) h3
    dsimp only
    rw [q3]
    have := congrArg List.length g3
    rw [List.length_append] at this
    omega
  · rw [if_neg h3] at h
    exact absurd h h3
theorem parse5_err (p : Int) (s : List UInt8) (h : (parse5 p s).2.2 ≠ 0) : (parse5 p s).2.1 = [] := by
  unfold parse5 at h ⊢
  split
  · rfl
  split
  · rfl
  split
  · rename_i h1 h2 h3
    rw [if_neg h1, if_neg h2, if_pos h3] at h
    exact absurd rfl h
  · rfl
end Go.Proofs.YtojcjbaimdjhoaaGreatDoor
namespace Go.Proofs.YtojcjbaimdjhoaaGreatDoor
open Go.RowKit
set_option linter.unusedVariables false
set_option linter.unusedSimpArgs false

set_option maxRecDepth 100000 in
theorem clone_u32 (xs : List Int) (hl : xs.length ≤ 1099511627776) : Spec Tryz.prog 48 [.ca (.val (.lst 1 (xs.map u32El)))] [] (.ca (.val (.lst 1 (xs.map u32El)))) [] := by
  refine spec_of Tryz.func48 rfl Tryz.ntmps48 Tryz.results48 ⟨by decide, by simp⟩ fun C hC => ?_
  (repeat (first | refine aw_seq ?_ | refine aw_block ?_ | refine aw_reg hC (by kernel_rfl) ?_ | refine aw_regd hC Tryz.checked.mixed (by kernel_rfl) ?_ | refine chk_and (by kernel_rfl) ?_ | refine aw_skip ?_ | refine aw_if ?_ | refine And.intro (by first | omega | with_reducible assumption) ?_ | refine aw_exit ?_ | refine aw_ret ?_ | (simp (decide := true) (disch := omega) only [go_sem, ↓reduceIte, ↓put_at])))
  refine nil_s 1 (xs.map u32El) (by simp (decide := true) (disch := omega) only [go_sem, ↓reduceIte, ↓put_at]) (by simp (decide := true) (disch := omega) only [go_sem, ↓reduceIte, ↓put_at]) (fun b hb => ?_)
  cases b with
  | true =>
    have h0 := hb rfl
    rw [h0]
    (repeat (first | refine aw_seq ?_ | refine aw_block ?_ | refine aw_reg hC (by kernel_rfl) ?_ | refine aw_regd hC Tryz.checked.mixed (by kernel_rfl) ?_ | refine chk_and (by kernel_rfl) ?_ | refine aw_skip ?_ | refine aw_if ?_ | refine And.intro (by first | omega | with_reducible assumption) ?_ | refine aw_exit ?_ | refine aw_ret ?_ | (simp (decide := true) (disch := omega) only [go_sem, ↓reduceIte, ↓put_at])))
    (refine ret_s [] ?_; simp (decide := true) (disch := omega) only [go_sem, ↓reduceIte, ↓put_at])
  | false =>
    (repeat (first | refine aw_seq ?_ | refine aw_block ?_ | refine aw_reg hC (by kernel_rfl) ?_ | refine aw_regd hC Tryz.checked.mixed (by kernel_rfl) ?_ | refine chk_and (by kernel_rfl) ?_ | refine aw_skip ?_ | refine aw_if ?_ | refine And.intro (by first | omega | with_reducible assumption) ?_ | refine aw_exit ?_ | refine aw_ret ?_ | (simp (decide := true) (disch := omega) only [go_sem, ↓reduceIte, ↓put_at])))
    refine ⟨⟨⟨by omega, by omega, fun r hr => ?_, fun r hr y hy => ?_⟩, by kernel_rfl⟩, ?_⟩
    · obtain ⟨n, _, rfl⟩ := List.mem_map.1 hr
      rfl
    · obtain ⟨n, _, rfl⟩ := List.mem_map.1 hr
      simp [u32El] at hy
      subst hy
      rfl
    (repeat (first | refine aw_seq ?_ | refine aw_block ?_ | refine aw_reg hC (by kernel_rfl) ?_ | refine aw_regd hC Tryz.checked.mixed (by kernel_rfl) ?_ | refine chk_and (by kernel_rfl) ?_ | refine aw_skip ?_ | refine aw_if ?_ | refine And.intro (by first | omega | with_reducible assumption) ?_ | refine aw_exit ?_ | refine aw_ret ?_ | (simp (decide := true) (disch := omega) only [go_sem, ↓reduceIte, ↓put_at])))
    (refine ret_s [] ?_; simp (decide := true) (disch := omega) only [go_sem, ↓reduceIte, ↓put_at])
/-- The place of the first element of a number. -/
def at5 (l : List E5) (id : Int) : Nat := l.findIdx fun x => decide (x.id = id)
def find5 (l : List E5) (id : Int) : Option (List UInt8) := (l.find? fun x => decide (x.id = id)).map (·.data)
set_option maxRecDepth 100000 in
theorem exts_find1 (x : E5) (id : Int) : Spec Tryz.prog 61 [.ca (.val (.agg (e5L x))), .ptr 0 0] [[.val (vi id)]] (.ca (.val (vb (decide (x.id = id))))) [[.val (vi id)]] := by
  refine spec_of Tryz.func61 rfl Tryz.ntmps61 Tryz.results61 ⟨by decide, by simp⟩ fun C hC => ?_
  by_cases h : x.id = id
  · rw [decide_eq_true h]
    (repeat (first | refine aw_seq ?_ | refine aw_block ?_ | refine aw_reg hC (by kernel_rfl) ?_ | refine aw_regd hC Tryz.checked.mixed (by kernel_rfl) ?_ | refine chk_and (by kernel_rfl) ?_ | refine aw_skip ?_ | refine aw_if ?_ | refine And.intro (by first | omega | with_reducible assumption) ?_ | refine aw_exit ?_ | refine aw_ret ?_ | (simp (decide := true) (disch := omega) only [go_sem, ↓reduceIte, ↓put_at])))
    (refine ret_s [] ?_; simp (decide := true) (disch := omega) only [go_sem, ↓reduceIte, ↓put_at])
  · rw [decide_eq_false h]
    (repeat (first | refine aw_seq ?_ | refine aw_block ?_ | refine aw_reg hC (by kernel_rfl) ?_ | refine aw_regd hC Tryz.checked.mixed (by kernel_rfl) ?_ | refine chk_and (by kernel_rfl) ?_ | refine aw_skip ?_ | refine aw_if ?_ | refine And.intro (by first | omega | with_reducible assumption) ?_ | refine aw_exit ?_ | refine aw_ret ?_ | (simp (decide := true) (disch := omega) only [go_sem, ↓reduceIte, ↓put_at])))
    (refine ret_s [] ?_; simp (decide := true) (disch := omega) only [go_sem, ↓reduceIte, ↓put_at])
set_option maxRecDepth 100000 in
theorem index5 (l : List E5) (id : Int) (hl : l.length ≤ maxLen) : Spec Tryz.prog 60 [.ca (.val (.lst 2 (l.map e5El))), .fn 61 [.ptr 0 0]] [[.val (vi id)]] (.ca (.val (vi (if at5 l id < l.length then at5 l id else -1)))) [[.val (vi id)]] := by
  unfold maxLen at hl
  refine spec_of Tryz.func60 rfl Tryz.ntmps60 Tryz.results60 ⟨by decide, by simp⟩ fun C hC => ?_
  (repeat (first | refine aw_seq ?_ | refine aw_block ?_ | refine aw_reg hC (by kernel_rfl) ?_ | refine aw_regd hC Tryz.checked.mixed (by kernel_rfl) ?_ | refine chk_and (by kernel_rfl) ?_ | refine aw_skip ?_ | refine aw_if ?_ | refine And.intro (by first | omega | with_reducible assumption) ?_ | refine aw_exit ?_ | refine aw_ret ?_ | (simp (decide := true) (disch := omega) only [go_sem, ↓reduceIte, ↓put_at])))
  refine loop_s (α := {j : Nat // j ≤ l.length ∧ ∀ i, (h : i < l.length) → i < j → l[i].id ≠ id}) (fun j => [(.s 0, .av (.val (.lst 2 (l.map e5El)))), (.s 1, .av (.fn 61 [.ptr (1000, 0) 0 0])), (.o (1000, 0), .num 1), (.c (1000, 0) 0, .av (.val (vi id))), (.s 7, .av (.val (vi l.length))), (.s 8, .av (.val (vi j.1)))]) (fun j => l.length - j.1) ⟨0, Nat.zero_le _, fun i _ h => absurd h (by omega)⟩ ?_ (fun j => ?_)
  · simp (decide := true) (disch := omega) only [go_sem, ↓reduceIte, ↓put_at]
  · obtain ⟨j, hj, hn⟩ := j
    dsimp only at hj hn ⊢
    by_cases hlt : j < l.length
    · have c := exts_find1 l[j] id
      by_cases he : l[j].id = id
      · have ha : at5 l id = j := by
          unfold at5
          refine List.findIdx_eq hlt |>.2 ⟨decide_eq_true he, fun i hi => decide_eq_false (hn i (by omega) hi)⟩
        rw [decide_eq_true he] at c
        rw [ha, if_pos hlt]
        (repeat (first | refine aw_seq ?_ | refine aw_block ?_ | refine aw_reg hC (by kernel_rfl) ?_ | refine aw_regd hC Tryz.checked.mixed (by kernel_rfl) ?_ | refine chk_and (by kernel_rfl) ?_ | refine aw_skip ?_ | refine aw_if ?_ | refine And.intro (by first | omega | with_reducible assumption) ?_ | refine aw_exit ?_ | refine aw_ret ?_ | (simp (decide := true) (disch := omega) only [go_sem, ↓reduceIte, ↓put_at])))
        refine fcall_s Tryz.call61 c [(1000, 0)] [.ptr (1000, 0) 0 0] ?_
        (repeat (first | refine aw_seq ?_ | refine aw_block ?_ | refine aw_reg hC (by kernel_rfl) ?_ | refine aw_regd hC Tryz.checked.mixed (by kernel_rfl) ?_ | refine chk_and (by kernel_rfl) ?_ | refine aw_skip ?_ | refine aw_if ?_ | refine And.intro (by first | omega | with_reducible assumption) ?_ | refine aw_exit ?_ | refine aw_ret ?_ | (simp (decide := true) (disch := omega) only [go_sem, ↓reduceIte, ↓put_at])))
        (refine ret_s [] ?_; simp (decide := true) (disch := omega) only [go_sem, ↓reduceIte, ↓put_at])
      · rw [decide_eq_false he] at c
        (repeat (first | refine aw_seq ?_ | refine aw_block ?_ | refine aw_reg hC (by kernel_rfl) ?_ | refine aw_regd hC Tryz.checked.mixed (by kernel_rfl) ?_ | refine chk_and (by kernel_rfl) ?_ | refine aw_skip ?_ | refine aw_if ?_ | refine And.intro (by first | omega | with_reducible assumption) ?_ | refine aw_exit ?_ | refine aw_ret ?_ | (simp (decide := true) (disch := omega) only [go_sem, ↓reduceIte, ↓put_at])))
        refine fcall_s Tryz.call61 c [(1000, 0)] [.ptr (1000, 0) 0 0] ?_
        (repeat (first | refine aw_seq ?_ | refine aw_block ?_ | refine aw_reg hC (by kernel_rfl) ?_ | refine aw_regd hC Tryz.checked.mixed (by kernel_rfl) ?_ | refine chk_and (by kernel_rfl) ?_ | refine aw_skip ?_ | refine aw_if ?_ | refine And.intro (by first | omega | with_reducible assumption) ?_ | refine aw_exit ?_ | refine aw_ret ?_ | (simp (decide := true) (disch := omega) only [go_sem, ↓reduceIte, ↓put_at])))
        refine next_s (α := {j : Nat // j ≤ l.length ∧ ∀ i, (h : i < l.length) → i < j → l[i].id ≠ id}) ⟨j + 1, hlt, fun i h1 h2 => ?_⟩ ⟨?_, by dsimp only; omega⟩
        · by_cases hij : i = j
          · subst hij; exact he
          · exact hn i h1 (by omega)
        · simp (decide := true) (disch := omega) only [go_sem, ↓reduceIte, ↓put_at]
    · have ha : ¬ at5 l id < l.length := by
        intro h
        have h2 := List.findIdx_getElem (w := h)
        exact hn _ h (by omega) (of_decide_eq_true h2)
      rw [if_neg ha]
      (repeat (first | refine aw_seq ?_ | refine aw_block ?_ | refine aw_reg hC (by kernel_rfl) ?_ | refine aw_regd hC Tryz.checked.mixed (by kernel_rfl) ?_ | refine chk_and (by kernel_rfl) ?_ | refine aw_skip ?_ | refine aw_if ?_ | refine And.intro (by first | omega | with_reducible assumption) ?_ | refine aw_exit ?_ | refine aw_ret ?_ | (simp (decide := true) (disch := omega) only [go_sem, ↓reduceIte, ↓put_at])))
      (refine ret_s [] ?_; simp (decide := true) (disch := omega) only [go_sem, ↓reduceIte, ↓put_at])
theorem at5_find (l : List E5) (id : Int) : (at5 l id < l.length → ∃ h : at5 l id < l.length, find5 l id = some l[at5 l id].data) ∧ (¬ at5 l id < l.length → find5 l id = none) := by
  constructor
  · intro h
    refine ⟨h, ?_⟩
    unfold find5
    have h1 : l.find? (fun x => decide (x.id = id)) = some l[at5 l id] := by
      rw [List.find?_eq_some_iff_getElem]
      refine ⟨List.findIdx_getElem (w := h), at5 l id, h, rfl, fun j hj => ?_⟩
      simpa using List.not_of_lt_findIdx hj
    rw [h1]; rfl
  · intro h
    unfold find5
    have h1 : l.find? (fun x => decide (x.id = id)) = none := by
      rw [List.find?_eq_none]
      intro x hx he
      apply h
      unfold at5
      exact List.findIdx_lt_length_of_exists ⟨x, hx, he⟩
    rw [h1]; rfl
set_option maxRecDepth 100000 in
theorem exts_find (l : List E5) (id : Int) (hl : l.length ≤ maxLen) : Spec Tryz.prog 42 [.ca (.val (.lst 2 (l.map e5El))), .ca (.val (vi id))] [] (.ca (.val (.tup [vs ((find5 l id).getD []), vb (find5 l id).isSome]))) [] := by
  have c := index5 l id hl
  have ha := at5_find l id
  unfold maxLen at hl
  by_cases h : at5 l id < l.length
  · obtain ⟨_, hf⟩ := ha.1 h
    rw [if_pos h] at c
    rw [hf]
    generalize at5 l id = j at *
    refine spec_of Tryz.func42 rfl Tryz.ntmps42 Tryz.results42 ⟨by decide, by simp⟩ fun C hC => ?_
    (repeat (first | refine aw_seq ?_ | refine aw_block ?_ | refine aw_reg hC (by kernel_rfl) ?_ | refine aw_regd hC Tryz.checked.mixed (by kernel_rfl) ?_ | refine chk_and (by kernel_rfl) ?_ | refine aw_skip ?_ | refine aw_if ?_ | refine And.intro (by first | omega | with_reducible assumption) ?_ | refine aw_exit ?_ | refine aw_ret ?_ | (simp (decide := true) (disch := omega) only [go_sem, ↓reduceIte, ↓put_at])))
    refine call_s Tryz.call60 c [(3, 0)] ?_
    (repeat (first | refine aw_seq ?_ | refine aw_block ?_ | refine aw_reg hC (by kernel_rfl) ?_ | refine aw_regd hC Tryz.checked.mixed (by kernel_rfl) ?_ | refine chk_and (by kernel_rfl) ?_ | refine aw_skip ?_ | refine aw_if ?_ | refine And.intro (by first | omega | with_reducible assumption) ?_ | refine aw_exit ?_ | refine aw_ret ?_ | (simp (decide := true) (disch := omega) only [go_sem, ↓reduceIte, ↓put_at])))
    (refine ret_s [] ?_; simp (decide := true) (disch := omega) only [go_sem, ↓reduceIte, ↓put_at])
  · have hf := ha.2 h
    rw [if_neg h] at c
    rw [hf]
    refine spec_of Tryz.func42 rfl Tryz.ntmps42 Tryz.results42 ⟨by decide, by simp⟩ fun C hC => ?_
    (repeat (first | refine aw_seq ?_ | refine aw_block ?_ | refine aw_reg hC (by kernel_rfl) ?_ | refine aw_regd hC Tryz.checked.mixed (by kernel_rfl) ?_ | refine chk_and (by kernel_rfl) ?_ | refine aw_skip ?_ | refine aw_if ?_ | refine And.intro (by first | omega | with_reducible assumption) ?_ | refine aw_exit ?_ | refine aw_ret ?_ | (simp (decide := true) (disch := omega) only [go_sem, ↓reduceIte, ↓put_at])))
    refine call_s Tryz.call60 c [(3, 0)] ?_
    (repeat (first | refine aw_seq ?_ | refine aw_block ?_ | refine aw_reg hC (by kernel_rfl) ?_ | refine aw_regd hC Tryz.checked.mixed (by kernel_rfl) ?_ | refine chk_and (by kernel_rfl) ?_ | refine aw_skip ?_ | refine aw_if ?_ | refine And.intro (by first | omega | with_reducible assumption) ?_ | refine aw_exit ?_ | refine aw_ret ?_ | (simp (decide := true) (disch := omega) only [go_sem, ↓reduceIte, ↓put_at])))
    (refine ret_s [] ?_; simp (decide := true) (disch := omega) only [go_sem, ↓reduceIte, ↓put_at])
set_option maxRecDepth 100000 in
theorem exts_of (p : P4) (hl : p.ext.length ≤ 1000000) : Spec Tryz.prog 41 [.ca (.val (.agg (h4L p)))] [] (.ca (.val (.tup [vi (if p.hasExt = true then (parse5 p.profile p.ext).1 else 0), .lst 2 ((if p.hasExt = true then (parse5 p.profile p.ext).2.1 else []).map e5El), vi (if p.hasExt = true then (parse5 p.profile p.ext).2.2 else 0)]))) [] := by
  have c := exts_parse p.profile p.ext hl
  obtain ⟨mk, kd, sq, tm, sr, os, hx, pf, ex, da, pd⟩ := p
  dsimp only at *
  cases hx with
  | true =>
    simp only [if_true]
    refine spec_of Tryz.func41 rfl Tryz.ntmps41 Tryz.results41 ⟨by decide, by simp⟩ fun C hC => ?_
    (repeat (first | refine aw_seq ?_ | refine aw_block ?_ | refine aw_reg hC (by kernel_rfl) ?_ | refine aw_regd hC Tryz.checked.mixed (by kernel_rfl) ?_ | refine chk_and (by kernel_rfl) ?_ | refine aw_skip ?_ | refine aw_if ?_ | refine And.intro (by first | omega | with_reducible assumption) ?_ | refine aw_exit ?_ | refine aw_ret ?_ | (simp (decide := true) (disch := omega) only [go_sem, ↓reduceIte, ↓put_at])))
    refine call_s Tryz.call59 c [] ?_
    (repeat (first | refine aw_seq ?_ | refine aw_block ?_ | refine aw_reg hC (by kernel_rfl) ?_ | refine aw_regd hC Tryz.checked.mixed (by kernel_rfl) ?_ | refine chk_and (by kernel_rfl) ?_ | refine aw_skip ?_ | refine aw_if ?_ | refine And.intro (by first | omega | with_reducible assumption) ?_ | refine aw_exit ?_ | refine aw_ret ?_ | (simp (decide := true) (disch := omega) only [go_sem, ↓reduceIte, ↓put_at])))
    (refine ret_s [] ?_; simp (decide := true) (disch := omega) only [go_sem, ↓reduceIte, ↓put_at])
  | false =>
    simp only [Bool.false_eq_true, if_false, List.map_nil]
    refine spec_of Tryz.func41 rfl Tryz.ntmps41 Tryz.results41 ⟨by decide, by simp⟩ fun C hC => ?_
    (repeat (first | refine aw_seq ?_ | refine aw_block ?_ | refine aw_reg hC (by kernel_rfl) ?_ | refine aw_regd hC Tryz.checked.mixed (by kernel_rfl) ?_ | refine chk_and (by kernel_rfl) ?_ | refine aw_skip ?_ | refine aw_if ?_ | refine And.intro (by first | omega | with_reducible assumption) ?_ | refine aw_exit ?_ | refine aw_ret ?_ | (simp (decide := true) (disch := omega) only [go_sem, ↓reduceIte, ↓put_at])))
    (refine ret_s [] ?_; simp (decide := true) (disch := omega) only [go_sem, ↓reduceIte, ↓put_at])
/-- A header into which elements are put. -/
def into5 (p : P4) (n : Int) (l : List E5) : P4 := if (pack5 n l).2.2 = 0 then { p with hasExt := true, profile := (pack5 n l).1, ext := (pack5 n l).2.1 } else no4
set_option maxRecDepth 100000 in
set_option maxHeartbeats 4000000 in
theorem exts_into (p : P4) (n : Int) (l : List E5) (ho : p.others.length ≤ 1099511627776) (hl : l.length ≤ maxLen) (hr : (raw5 (formOk n) l).length ≤ 1000000000) : Spec Tryz.prog 27 [.ca (.val (.agg (h4L p))), .ca (.val (vi n)), .ca (.val (.lst 2 (l.map e5El)))] [] (.ca (.val (.tup [.agg (h4L (into5 p n l)), vi (pack5 n l).2.2]))) [] := by
  have c1 := exts_pack n l hl hr
  have c2 := clone_u32 p.others ho
  unfold into5
  generalize pack5 n l = R at *
  obtain ⟨q, s, e⟩ := R
  obtain ⟨mk, kd, sq, tm, sr, os, hx, pf, ex, da, pd⟩ := p
  dsimp only at *
  by_cases he : e = 0
  · subst he
    simp only [if_true]
    refine spec_of Tryz.func27 rfl Tryz.ntmps27 Tryz.results27 ⟨by decide, by simp⟩ fun C hC => ?_
    (repeat (first | refine aw_seq ?_ | refine aw_block ?_ | refine aw_reg hC (by kernel_rfl) ?_ | refine aw_regd hC Tryz.checked.mixed (by kernel_rfl) ?_ | refine chk_and (by kernel_rfl) ?_ | refine aw_skip ?_ | refine aw_if ?_ | refine And.intro (by first | omega | with_reducible assumption) ?_ | refine aw_exit ?_ | refine aw_ret ?_ | (simp (decide := true) (disch := omega) only [go_sem, ↓reduceIte, ↓put_at])))
    refine call_s Tryz.call47 c1 [] ?_
    (repeat (first | refine aw_seq ?_ | refine aw_block ?_ | refine aw_reg hC (by kernel_rfl) ?_ | refine aw_regd hC Tryz.checked.mixed (by kernel_rfl) ?_ | refine chk_and (by kernel_rfl) ?_ | refine aw_skip ?_ | refine aw_if ?_ | refine And.intro (by first | omega | with_reducible assumption) ?_ | refine aw_exit ?_ | refine aw_ret ?_ | (simp (decide := true) (disch := omega) only [go_sem, ↓reduceIte, ↓put_at])))
    refine call_s Tryz.call48 c2 [] ?_
    (repeat (first | refine aw_seq ?_ | refine aw_block ?_ | refine aw_reg hC (by kernel_rfl) ?_ | refine aw_regd hC Tryz.checked.mixed (by kernel_rfl) ?_ | refine chk_and (by kernel_rfl) ?_ | refine aw_skip ?_ | refine aw_if ?_ | refine And.intro (by first | omega | with_reducible assumption) ?_ | refine aw_exit ?_ | refine aw_ret ?_ | (simp (decide := true) (disch := omega) only [go_sem, ↓reduceIte, ↓put_at])))
    (refine ret_s [] ?_; simp (decide := true) (disch := omega) only [go_sem, ↓reduceIte, ↓put_at])
  · simp only [if_neg he]
    unfold no4
    refine spec_of Tryz.func27 rfl Tryz.ntmps27 Tryz.results27 ⟨by decide, by simp⟩ fun C hC => ?_
    (repeat (first | refine aw_seq ?_ | refine aw_block ?_ | refine aw_reg hC (by kernel_rfl) ?_ | refine aw_regd hC Tryz.checked.mixed (by kernel_rfl) ?_ | refine chk_and (by kernel_rfl) ?_ | refine aw_skip ?_ | refine aw_if ?_ | refine And.intro (by first | omega | with_reducible assumption) ?_ | refine aw_exit ?_ | refine aw_ret ?_ | (simp (decide := true) (disch := omega) only [go_sem, ↓reduceIte, ↓put_at])))
    refine call_s Tryz.call47 c1 [] ?_
    (repeat (first | refine aw_seq ?_ | refine aw_block ?_ | refine aw_reg hC (by kernel_rfl) ?_ | refine aw_regd hC Tryz.checked.mixed (by kernel_rfl) ?_ | refine chk_and (by kernel_rfl) ?_ | refine aw_skip ?_ | refine aw_if ?_ | refine And.intro (by first | omega | with_reducible assumption) ?_ | refine aw_exit ?_ | refine aw_ret ?_ | (simp (decide := true) (disch := omega) only [go_sem, ↓reduceIte, ↓put_at])))
    (refine ret_s [] ?_; simp (decide := true) (disch := omega) only [go_sem, ↓reduceIte, ↓put_at])
end Go.Proofs.YtojcjbaimdjhoaaGreatDoor
namespace Go.Proofs.YtojcjbaimdjhoaaGreatDoor
open Go.RowKit
set_option linter.unusedVariables false
set_option linter.unusedSimpArgs false

theorem find5_snoc (l : List E5) (x : E5) (id : Int) : find5 (l ++ [x]) id = (match find5 l id with | some d => some d | none => if x.id = id then some x.data else none) := by
  unfold find5
  rw [List.find?_append]
  cases l.find? (fun x => decide (x.id = id)) with
  | some y => rfl
  | none =>
    by_cases h : x.id = id
    · rw [if_pos h]; simp [h]
    · rw [if_neg h]; simp [h]
abbrev putL (p : P4) (n id : Int) (l : List E5) : List V := [vb p.marker, vi p.kind, vh p.seq, vu p.time, vu p.src, .lst 1 (p.others.map u32El), vb p.hasExt, vi p.profile, vs p.ext, vs p.data, vi p.pad, vi n, vi id, .lst 2 (l.map e5El)]
end Go.Proofs.YtojcjbaimdjhoaaGreatDoor
