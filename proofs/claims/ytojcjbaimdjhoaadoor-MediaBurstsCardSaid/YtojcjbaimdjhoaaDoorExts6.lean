
/- Layer 5: Own, Is, awake; ExtsParse, ExtsBack, ExtsApart, walked. Package exts: Find, Of, Into. Layer 5: ExtsHeaders, walked. -/
import Derived.Test.YtojcjbaimdjhoaaDoorExts4
import Derived.Test.YtojcjbaimdjhoaaDoorRtp6
import Derived.Test.YtojcjbaimdjhoaaDoorRK
namespace Go.Proofs.YtojcjbaimdjhoaaDoor
open Go.RowKit
set_option linter.unusedVariables false
set_option linter.unusedSimpArgs false

set_option maxRecDepth 100000 in
theorem ne5_ (a1 b1 : Int) (a2 b2 : List UInt8) (w : World) : (binOp .neq 61 (.agg [.int .i64 a1, str a2].toArray) (.agg [.int .i64 b1, str b2].toArray)).run Tryd.prog w = .ok (.bool (!decide (a1 = b1 ∧ a2 = b2))) w := by
  by_cases h1 : a1 = b1
  · by_cases h2 : a2 = b2
    · subst h1 h2; simp [go_sem]
    · have e : (a2 == b2) = false := by simpa using h2
      simp [go_sem, h1, h2, e]
  · simp [go_sem, h1]
def own5 (l : List E5) : List E5 := (l.take 8).map fun x => ⟨x.id, x.data.take 260⟩
theorem raw5_le (f : Nat) : ∀ (l : List E5) (k : Nat), (∀ x ∈ l, x.data.length ≤ k) → (raw5 f l).length ≤ l.length * (k + 2)
  | [], _, _ => by simp [raw5]
  | x :: l, k, h => by
    have ih := raw5_le f l k (fun y hy => h y (by simp [hy]))
    have hx := h x (by simp)
    have hh : (head5 f x).length ≤ 2 := by
      unfold head5
      split
      · rw [putZ_length]; omega
      · rw [List.length_append, putZ_length, putZ_length]; omega
    unfold raw5 at ih ⊢
    rw [List.flatMap_cons, List.length_append, List.length_cons, Nat.add_mul]
    unfold item5 at ih ⊢
    rw [List.length_append]
    omega
theorem raw5_count (f : Nat) : ∀ (l : List E5), l.length ≤ (raw5 f l).length
  | [] => by simp
  | x :: l => by
    have ih := raw5_count f l
    have hh : 1 ≤ (head5 f x).length := by
      unfold head5
      split
      · rw [putZ_length]; omega
      · rw [List.length_append, putZ_length, putZ_length]; omega
    unfold raw5 at ih ⊢
    rw [List.flatMap_cons, List.length_append, List.length_cons]
    unfold item5 at ih ⊢
    rw [List.length_append]
    omega
theorem own5_len (l : List E5) : (own5 l).length ≤ 8 := by unfold own5; rw [List.length_map, List.length_take]; omega
theorem own5_raw (f : Nat) (l : List E5) : (raw5 f (own5 l)).length ≤ 1000000000 := by
  have h1 := raw5_le f (own5 l) 260 (fun x hx => by
    unfold own5 at hx
    obtain ⟨y, _, rfl⟩ := List.mem_map.1 hx
    dsimp only
    rw [List.length_take]; omega)
  have h2 := own5_len l
  omega
/-- What was read has no more bytes than it was read from. -/
theorem parse5_raw (p : Int) (s : List UInt8) (h : (parse5 p s).2.2 = 0) : (raw5 (formOk (parse5 p s).1) (parse5 p s).2.1).length ≤ s.length := by
  unfold parse5 at h ⊢
  by_cases h1 : formN p = 0
  · rw [if_pos h1] at h; cases h
  rw [if_neg h1] at h ⊢
  by_cases h2 : s.length % 4 ≠ 0
  · rw [if_pos h2] at h; cases h
  rw [if_neg h2] at h ⊢
  by_cases h3 : (go5 (formN p) s).2 = 0
  · rw [if_pos h3]
    obtain ⟨q1, q2, q3⟩ := formN_12 p h1
    obtain ⟨g1, k, g2, g3⟩ := go5_bytes (formN p) q1 s.length s (Nat.le_refl _) h3
    dsimp only
    rw [q3]
    have := congrArg List.length g3
    rw [List.length_append] at this
    omega
  · rw [if_neg h3] at h
    exact absurd h h3
theorem parse5_err (p : Int) (s : List UInt8) (h : (parse5 p s).2.2 ≠ 0) : (parse5 p s).2.1 = [] := by
  unfold parse5 at h ⊢
  split
  · rfl
  split
  · rfl
  split
  · rename_i h1 h2 h3
    rw [if_neg h1, if_neg h2, if_pos h3] at h
    exact absurd rfl h
  · rfl
set_option maxRecDepth 100000 in
set_option maxHeartbeats 4000000 in
theorem law_awake5 : Spec Tryd.prog 9 [] [] (.ca (.val (vb true))) [] := by
  have c1 := exts_pack 1 [⟨1, [97]⟩, ⟨2, [98, 99]⟩] (by decide) (by decide +kernel)
  have e1 : pack5 1 [⟨1, [97]⟩, ⟨2, [98, 99]⟩] = (48862, [16, 97, 33, 98, 99, 0, 0, 0], 0) := by decide +kernel
  rw [e1] at c1
  refine spec_of Tryd.func9 rfl Tryd.ntmps9 Tryd.results9 ⟨by decide, by simp⟩ fun C hC => ?_
  (repeat (first | refine aw_seq ?_ | refine aw_block ?_ | refine aw_reg hC (by kernel_rfl) ?_ | refine aw_regd hC Tryd.checked.mixed (by kernel_rfl) ?_ | refine chk_and (by kernel_rfl) ?_ | refine aw_skip ?_ | refine aw_if ?_ | refine And.intro (by first | omega | with_reducible assumption) ?_ | refine aw_exit ?_ | refine aw_ret ?_ | (simp (decide := true) (disch := omega) only [go_sem, ↓reduceIte, ↓put_at])))
  refine call_s Tryd.call14 c1 [] ?_
  (repeat (first | refine aw_seq ?_ | refine aw_block ?_ | refine aw_reg hC (by kernel_rfl) ?_ | refine aw_regd hC Tryd.checked.mixed (by kernel_rfl) ?_ | refine chk_and (by kernel_rfl) ?_ | refine aw_skip ?_ | refine aw_if ?_ | refine And.intro (by first | omega | with_reducible assumption) ?_ | refine aw_exit ?_ | refine aw_ret ?_ | (simp (decide := true) (disch := omega) only [go_sem, ↓reduceIte, ↓put_at])))
  (refine ret_s [] ?_; simp (decide := true) (disch := omega) only [go_sem, ↓reduceIte, ↓put_at])
set_option maxRecDepth 100000 in
set_option maxHeartbeats 4000000 in
theorem law_own5 (l : List E5) (hl : l.length ≤ maxLen) (hd : ∀ x ∈ l, x.data.length ≤ maxLen) : Spec Tryd.prog 15 [.ca (.val (.lst 2 (l.map e5El)))] [] (.ca (.val (.tup [.lst 2 ((own5 l).map e5El), .lst 2 ((own5 l).map e5El)]))) [] := by
  unfold maxLen at hl
  refine spec_of Tryd.func15 rfl Tryd.ntmps15 Tryd.results15 ⟨by decide, by simp⟩ fun C hC => ?_
  (repeat ((fail_if_success (refine stop_reg 4 ?_)); (first | refine aw_seq ?_ | refine aw_block ?_ | refine aw_reg hC (by kernel_rfl) ?_ | refine aw_regd hC Tryd.checked.mixed (by kernel_rfl) ?_ | refine chk_and (by kernel_rfl) ?_ | refine aw_skip ?_ | refine aw_if ?_ | refine And.intro (by first | omega | with_reducible assumption) ?_ | refine aw_exit ?_ | refine aw_ret ?_ | (simp (decide := true) (disch := omega) only [go_sem, ↓reduceIte, ↓put_at]))))
  refine own_s 4 (4, 0) 85 2 ?_
  simp (decide := true) (disch := omega) only [go_sem, ↓reduceIte, ↓put_at]
  refine own_s 5 (5, 0) 61 2 ?_
  simp (decide := true) (disch := omega) only [go_sem, ↓reduceIte, ↓put_at]
  refine loop_s (α := {j : Nat // j ≤ l.length ∧ j ≤ 8}) (fun j => [(.s 0, .av (.val (.lst 2 (l.map e5El)))), (.s 4, .av (.own (4, 0) 0 85 2 ((own5 (l.take j.1)).map e5El))), (.k (4, 0), .row 85 2 ((own5 (l.take j.1)).map e5El).length), (.s 5, .av (.own (5, 0) 0 61 2 ((own5 (l.take j.1)).map e5El))), (.k (5, 0), .row 61 2 ((own5 (l.take j.1)).map e5El).length), (.s 6, .av (.val (vi j.1)))]) (fun j => l.length - j.1) ⟨0, Nat.zero_le _, by omega⟩ ?_ (fun j => ?_)
  · simp only [List.take_zero, own5, List.take_nil, List.map_nil]
    simp (decide := true) (disch := omega) only [go_sem, ↓reduceIte, ↓put_at]
  · obtain ⟨j, hj, hj8⟩ := j
    dsimp only at hj hj8 ⊢
    have hol := own5_len (l.take j)
    by_cases h8 : j < 8
    · by_cases hlt : j < l.length
      · have c1 := q_cut l[j].data 260 (hd _ (List.getElem_mem hlt)) (by decide)
        have e1 : own5 (l.take (j + 1)) = own5 (l.take j) ++ [⟨l[j].id, l[j].data.take 260⟩] := by
          unfold own5
          rw [List.take_take, List.take_take, show min 8 (j + 1) = j + 1 by omega, show min 8 j = j by omega, List.take_succ_eq_append_getElem hlt, List.map_append]
          rfl
        (repeat (first | refine aw_seq ?_ | refine aw_block ?_ | refine aw_reg hC (by kernel_rfl) ?_ | refine aw_regd hC Tryd.checked.mixed (by kernel_rfl) ?_ | refine chk_and (by kernel_rfl) ?_ | refine aw_skip ?_ | refine aw_if ?_ | refine And.intro (by first | omega | with_reducible assumption) ?_ | refine aw_exit ?_ | refine aw_ret ?_ | (simp (decide := true) (disch := omega) only [go_sem, ↓reduceIte, ↓put_at])))
        refine call_s Tryd.call10 c1 [] ?_
        (repeat (first | refine aw_seq ?_ | refine aw_block ?_ | refine aw_reg hC (by kernel_rfl) ?_ | refine aw_regd hC Tryd.checked.mixed (by kernel_rfl) ?_ | refine chk_and (by kernel_rfl) ?_ | refine aw_skip ?_ | refine aw_if ?_ | refine And.intro (by first | omega | with_reducible assumption) ?_ | refine aw_exit ?_ | refine aw_ret ?_ | (simp (decide := true) (disch := omega) only [go_sem, ↓reduceIte, ↓put_at])))
        refine next_s (α := {j : Nat // j ≤ l.length ∧ j ≤ 8}) ⟨j + 1, hlt, h8⟩ ⟨?_, by dsimp only; omega⟩
        rw [e1, List.map_append]
        simp (decide := true) (disch := omega) only [go_sem, ↓reduceIte, ↓put_at]
      · have e1 : l.take j = l := List.take_of_length_le (by omega)
        simp only [e1]
        (repeat (first | refine aw_seq ?_ | refine aw_block ?_ | refine aw_reg hC (by kernel_rfl) ?_ | refine aw_regd hC Tryd.checked.mixed (by kernel_rfl) ?_ | refine chk_and (by kernel_rfl) ?_ | refine aw_skip ?_ | refine aw_if ?_ | refine And.intro (by first | omega | with_reducible assumption) ?_ | refine aw_exit ?_ | refine aw_ret ?_ | (simp (decide := true) (disch := omega) only [go_sem, ↓reduceIte, ↓put_at])))
        (refine ret_s [] ?_; simp (decide := true) (disch := omega) only [go_sem, ↓reduceIte, ↓put_at])
    · have e1 : own5 (l.take j) = own5 l := by
        unfold own5
        rw [List.take_take, show min 8 j = 8 by omega]
      simp only [e1]
      by_cases hlt : j < l.length
      · (repeat (first | refine aw_seq ?_ | refine aw_block ?_ | refine aw_reg hC (by kernel_rfl) ?_ | refine aw_regd hC Tryd.checked.mixed (by kernel_rfl) ?_ | refine chk_and (by kernel_rfl) ?_ | refine aw_skip ?_ | refine aw_if ?_ | refine And.intro (by first | omega | with_reducible assumption) ?_ | refine aw_exit ?_ | refine aw_ret ?_ | (simp (decide := true) (disch := omega) only [go_sem, ↓reduceIte, ↓put_at])))
        (refine ret_s [] ?_; simp (decide := true) (disch := omega) only [go_sem, ↓reduceIte, ↓put_at])
      · (repeat (first | refine aw_seq ?_ | refine aw_block ?_ | refine aw_reg hC (by kernel_rfl) ?_ | refine aw_regd hC Tryd.checked.mixed (by kernel_rfl) ?_ | refine chk_and (by kernel_rfl) ?_ | refine aw_skip ?_ | refine aw_if ?_ | refine And.intro (by first | omega | with_reducible assumption) ?_ | refine aw_exit ?_ | refine aw_ret ?_ | (simp (decide := true) (disch := omega) only [go_sem, ↓reduceIte, ↓put_at])))
        (refine ret_s [] ?_; simp (decide := true) (disch := omega) only [go_sem, ↓reduceIte, ↓put_at])
set_option maxRecDepth 100000 in
set_option maxHeartbeats 4000000 in
theorem law_is5 (xs ys : List E5) (hx : xs.length ≤ maxLen) (hy : ys.length ≤ maxLen) : Spec Tryd.prog 13 [.ca (.val (.lst 2 (xs.map e5El))), .ca (.val (.lst 2 (ys.map e5El)))] [] (.ca (.val (vb (decide (xs = ys))))) [] := by
  unfold maxLen at hx hy
  refine spec_of Tryd.func13 rfl Tryd.ntmps13 Tryd.results13 ⟨by decide, by simp⟩ fun C hC => ?_
  by_cases hl : xs.length = ys.length
  · (repeat (first | refine aw_seq ?_ | refine aw_block ?_ | refine aw_reg hC (by kernel_rfl) ?_ | refine aw_regd hC Tryd.checked.mixed (by kernel_rfl) ?_ | refine chk_and (by kernel_rfl) ?_ | refine aw_skip ?_ | refine aw_if ?_ | refine And.intro (by first | omega | with_reducible assumption) ?_ | refine aw_exit ?_ | refine aw_ret ?_ | (simp (decide := true) (disch := omega) only [go_sem, ↓reduceIte, ↓put_at])))
    refine loop_s (α := {j : Nat // j ≤ ys.length ∧ xs.take j = ys.take j}) (fun j => [(.s 0, .av (.val (.lst 2 (xs.map e5El)))), (.s 1, .av (.val (.lst 2 (ys.map e5El)))), (.s 12, .av (.val (vi ys.length))), (.s 13, .av (.val (vi j.1)))]) (fun j => ys.length - j.1) ⟨0, Nat.zero_le _, rfl⟩ ?_ (fun j => ?_)
    · simp (decide := true) (disch := omega) only [go_sem, ↓reduceIte, ↓put_at]
    · obtain ⟨j, hj, ht⟩ := j
      dsimp only at hj ⊢
      by_cases hlt' : j < ys.length
      · have hlt : j < xs.length := by omega
        by_cases he : xs[j] = ys[j]
        · have hn : decide (xs[j].id = ys[j].id ∧ xs[j].data = ys[j].data) = true := decide_eq_true (by rw [he]; exact ⟨rfl, rfl⟩)
          (repeat (first | refine aw_seq ?_ | refine aw_block ?_ | refine aw_reg hC (by kernel_rfl) ?_ | refine aw_regd hC Tryd.checked.mixed (by kernel_rfl) ?_ | refine chk_and (by kernel_rfl) ?_ | refine aw_skip ?_ | refine aw_if ?_ | refine And.intro (by first | omega | with_reducible assumption) ?_ | refine aw_exit ?_ | refine aw_ret ?_ | (simp (decide := true) (disch := omega) only [go_sem, ↓reduceIte, ↓put_at])))
          refine cmpA_s _ _ _ (.inr rfl) (by simp (decide := true) (disch := omega) only [go_sem, ↓reduceIte, ↓put_at]) (by simp (decide := true) (disch := omega) only [go_sem, ↓reduceIte, ↓put_at]) (by kernel_rfl) (ne5_ xs[j].id ys[j].id xs[j].data ys[j].data) ?_
          simp only [hn]
          (repeat (first | refine aw_seq ?_ | refine aw_block ?_ | refine aw_reg hC (by kernel_rfl) ?_ | refine aw_regd hC Tryd.checked.mixed (by kernel_rfl) ?_ | refine chk_and (by kernel_rfl) ?_ | refine aw_skip ?_ | refine aw_if ?_ | refine And.intro (by first | omega | with_reducible assumption) ?_ | refine aw_exit ?_ | refine aw_ret ?_ | (simp (decide := true) (disch := omega) only [go_sem, ↓reduceIte, ↓put_at])))
          refine next_s (α := {j : Nat // j ≤ ys.length ∧ xs.take j = ys.take j}) ⟨j + 1, hlt', by rw [List.take_succ_eq_append_getElem hlt, List.take_succ_eq_append_getElem hlt', ht, he]⟩ ⟨?_, by dsimp only; omega⟩
          simp (decide := true) (disch := omega) only [go_sem, ↓reduceIte, ↓put_at]
        · have hn : decide (xs[j].id = ys[j].id ∧ xs[j].data = ys[j].data) = false := decide_eq_false (fun h => he (by
            cases h1 : xs[j]; cases h2 : ys[j]; rw [h1, h2] at h; dsimp only at h; rw [h.1, h.2]))
          have hd : decide (xs = ys) = false := decide_eq_false (fun e => he (by simp only [e]))
          rw [hd]
          (repeat (first | refine aw_seq ?_ | refine aw_block ?_ | refine aw_reg hC (by kernel_rfl) ?_ | refine aw_regd hC Tryd.checked.mixed (by kernel_rfl) ?_ | refine chk_and (by kernel_rfl) ?_ | refine aw_skip ?_ | refine aw_if ?_ | refine And.intro (by first | omega | with_reducible assumption) ?_ | refine aw_exit ?_ | refine aw_ret ?_ | (simp (decide := true) (disch := omega) only [go_sem, ↓reduceIte, ↓put_at])))
          refine cmpA_s _ _ _ (.inr rfl) (by simp (decide := true) (disch := omega) only [go_sem, ↓reduceIte, ↓put_at]) (by simp (decide := true) (disch := omega) only [go_sem, ↓reduceIte, ↓put_at]) (by kernel_rfl) (ne5_ xs[j].id ys[j].id xs[j].data ys[j].data) ?_
          simp only [hn]
          (repeat (first | refine aw_seq ?_ | refine aw_block ?_ | refine aw_reg hC (by kernel_rfl) ?_ | refine aw_regd hC Tryd.checked.mixed (by kernel_rfl) ?_ | refine chk_and (by kernel_rfl) ?_ | refine aw_skip ?_ | refine aw_if ?_ | refine And.intro (by first | omega | with_reducible assumption) ?_ | refine aw_exit ?_ | refine aw_ret ?_ | (simp (decide := true) (disch := omega) only [go_sem, ↓reduceIte, ↓put_at])))
          (refine ret_s [] ?_; simp (decide := true) (disch := omega) only [go_sem, ↓reduceIte, ↓put_at])
      · have e : xs = ys := by
          rw [List.take_of_length_le (by omega), List.take_of_length_le (by omega)] at ht
          exact ht
        rw [decide_eq_true e]
        (repeat (first | refine aw_seq ?_ | refine aw_block ?_ | refine aw_reg hC (by kernel_rfl) ?_ | refine aw_regd hC Tryd.checked.mixed (by kernel_rfl) ?_ | refine chk_and (by kernel_rfl) ?_ | refine aw_skip ?_ | refine aw_if ?_ | refine And.intro (by first | omega | with_reducible assumption) ?_ | refine aw_exit ?_ | refine aw_ret ?_ | (simp (decide := true) (disch := omega) only [go_sem, ↓reduceIte, ↓put_at])))
        (refine ret_s [] ?_; simp (decide := true) (disch := omega) only [go_sem, ↓reduceIte, ↓put_at])
  · have hd : decide (xs = ys) = false := decide_eq_false (fun e => hl (by rw [e]))
    rw [hd]
    (repeat (first | refine aw_seq ?_ | refine aw_block ?_ | refine aw_reg hC (by kernel_rfl) ?_ | refine aw_regd hC Tryd.checked.mixed (by kernel_rfl) ?_ | refine chk_and (by kernel_rfl) ?_ | refine aw_skip ?_ | refine aw_if ?_ | refine And.intro (by first | omega | with_reducible assumption) ?_ | refine aw_exit ?_ | refine aw_ret ?_ | (simp (decide := true) (disch := omega) only [go_sem, ↓reduceIte, ↓put_at])))
    (refine ret_s [] ?_; simp (decide := true) (disch := omega) only [go_sem, ↓reduceIte, ↓put_at])
set_option maxRecDepth 100000 in
set_option maxHeartbeats 4000000 in
theorem q_parse5 (p : Int) (s : List UInt8) (hl : s.length ≤ maxLen) : Spec Tryd.prog 3 [.ca (.val (vi p)), .ca (.val (vs s))] [] (.ca (.val (vb true))) [] := by
  have c0 := q_cut s 200 hl (by decide)
  rw [show (200 : Int).toNat = 200 by rfl] at c0
  have hsl : (s.take 200).length ≤ 200 := by rw [List.length_take]; omega
  generalize s.take 200 = u at *
  have c1 := exts_parse p u (by omega)
  have c2 := ref_parse5 p u (by omega)
  have hcnt := parse5_raw p u
  have herr := parse5_err p u
  have hpp := pack_parse5 p u (by omega)
  have hcnt2 := raw5_count (formOk (parse5 p u).1) (parse5 p u).2.1
  generalize parse5 p u = R at *
  obtain ⟨f, l, e⟩ := R
  dsimp only at *
  by_cases he : e = 0
  · have hr := hcnt he
    have c3 := law_is5 l l (by unfold maxLen; omega) (by unfold maxLen; omega)
    rw [decide_eq_true rfl] at c3
    have c4 := exts_pack f l (by unfold maxLen; omega) (by omega)
    rw [hpp he] at c4
    subst he
    refine spec_of Tryd.func3 rfl Tryd.ntmps3 Tryd.results3 ⟨by decide, by simp⟩ fun C hC => ?_
    (repeat (first | refine aw_seq ?_ | refine aw_block ?_ | refine aw_reg hC (by kernel_rfl) ?_ | refine aw_regd hC Tryd.checked.mixed (by kernel_rfl) ?_ | refine chk_and (by kernel_rfl) ?_ | refine aw_skip ?_ | refine aw_if ?_ | refine And.intro (by first | omega | with_reducible assumption) ?_ | refine aw_exit ?_ | refine aw_ret ?_ | (simp (decide := true) (disch := omega) only [go_sem, ↓reduceIte, ↓put_at])))
    refine call_s Tryd.call9 law_awake5 [] ?_
    (repeat (first | refine aw_seq ?_ | refine aw_block ?_ | refine aw_reg hC (by kernel_rfl) ?_ | refine aw_regd hC Tryd.checked.mixed (by kernel_rfl) ?_ | refine chk_and (by kernel_rfl) ?_ | refine aw_skip ?_ | refine aw_if ?_ | refine And.intro (by first | omega | with_reducible assumption) ?_ | refine aw_exit ?_ | refine aw_ret ?_ | (simp (decide := true) (disch := omega) only [go_sem, ↓reduceIte, ↓put_at])))
    refine call_s Tryd.call10 c0 [] ?_
    (repeat (first | refine aw_seq ?_ | refine aw_block ?_ | refine aw_reg hC (by kernel_rfl) ?_ | refine aw_regd hC Tryd.checked.mixed (by kernel_rfl) ?_ | refine chk_and (by kernel_rfl) ?_ | refine aw_skip ?_ | refine aw_if ?_ | refine And.intro (by first | omega | with_reducible assumption) ?_ | refine aw_exit ?_ | refine aw_ret ?_ | (simp (decide := true) (disch := omega) only [go_sem, ↓reduceIte, ↓put_at])))
    refine call_s Tryd.call11 c1 [] ?_
    (repeat (first | refine aw_seq ?_ | refine aw_block ?_ | refine aw_reg hC (by kernel_rfl) ?_ | refine aw_regd hC Tryd.checked.mixed (by kernel_rfl) ?_ | refine chk_and (by kernel_rfl) ?_ | refine aw_skip ?_ | refine aw_if ?_ | refine And.intro (by first | omega | with_reducible assumption) ?_ | refine aw_exit ?_ | refine aw_ret ?_ | (simp (decide := true) (disch := omega) only [go_sem, ↓reduceIte, ↓put_at])))
    refine call_s Tryd.call12 c2 [] ?_
    (repeat (first | refine aw_seq ?_ | refine aw_block ?_ | refine aw_reg hC (by kernel_rfl) ?_ | refine aw_regd hC Tryd.checked.mixed (by kernel_rfl) ?_ | refine chk_and (by kernel_rfl) ?_ | refine aw_skip ?_ | refine aw_if ?_ | refine And.intro (by first | omega | with_reducible assumption) ?_ | refine aw_exit ?_ | refine aw_ret ?_ | (simp (decide := true) (disch := omega) only [go_sem, ↓reduceIte, ↓put_at])))
    refine gcall_s Tryd.call13 c3 [] ?_
    (repeat (first | refine aw_seq ?_ | refine aw_block ?_ | refine aw_reg hC (by kernel_rfl) ?_ | refine aw_regd hC Tryd.checked.mixed (by kernel_rfl) ?_ | refine chk_and (by kernel_rfl) ?_ | refine aw_skip ?_ | refine aw_if ?_ | refine And.intro (by first | omega | with_reducible assumption) ?_ | refine aw_exit ?_ | refine aw_ret ?_ | (simp (decide := true) (disch := omega) only [go_sem, ↓reduceIte, ↓put_at])))
    refine call_s Tryd.call14 c4 [] ?_
    (repeat (first | refine aw_seq ?_ | refine aw_block ?_ | refine aw_reg hC (by kernel_rfl) ?_ | refine aw_regd hC Tryd.checked.mixed (by kernel_rfl) ?_ | refine chk_and (by kernel_rfl) ?_ | refine aw_skip ?_ | refine aw_if ?_ | refine And.intro (by first | omega | with_reducible assumption) ?_ | refine aw_exit ?_ | refine aw_ret ?_ | (simp (decide := true) (disch := omega) only [go_sem, ↓reduceIte, ↓put_at])))
    (refine ret_s [] ?_; simp (decide := true) (disch := omega) only [go_sem, ↓reduceIte, ↓put_at])
  · have hle := herr he
    subst hle
    have c3 := law_is5 [] [] (by decide) (by decide)
    rw [decide_eq_true rfl] at c3
    refine spec_of Tryd.func3 rfl Tryd.ntmps3 Tryd.results3 ⟨by decide, by simp⟩ fun C hC => ?_
    (repeat (first | refine aw_seq ?_ | refine aw_block ?_ | refine aw_reg hC (by kernel_rfl) ?_ | refine aw_regd hC Tryd.checked.mixed (by kernel_rfl) ?_ | refine chk_and (by kernel_rfl) ?_ | refine aw_skip ?_ | refine aw_if ?_ | refine And.intro (by first | omega | with_reducible assumption) ?_ | refine aw_exit ?_ | refine aw_ret ?_ | (simp (decide := true) (disch := omega) only [go_sem, ↓reduceIte, ↓put_at])))
    refine call_s Tryd.call9 law_awake5 [] ?_
    (repeat (first | refine aw_seq ?_ | refine aw_block ?_ | refine aw_reg hC (by kernel_rfl) ?_ | refine aw_regd hC Tryd.checked.mixed (by kernel_rfl) ?_ | refine chk_and (by kernel_rfl) ?_ | refine aw_skip ?_ | refine aw_if ?_ | refine And.intro (by first | omega | with_reducible assumption) ?_ | refine aw_exit ?_ | refine aw_ret ?_ | (simp (decide := true) (disch := omega) only [go_sem, ↓reduceIte, ↓put_at])))
    refine call_s Tryd.call10 c0 [] ?_
    (repeat (first | refine aw_seq ?_ | refine aw_block ?_ | refine aw_reg hC (by kernel_rfl) ?_ | refine aw_regd hC Tryd.checked.mixed (by kernel_rfl) ?_ | refine chk_and (by kernel_rfl) ?_ | refine aw_skip ?_ | refine aw_if ?_ | refine And.intro (by first | omega | with_reducible assumption) ?_ | refine aw_exit ?_ | refine aw_ret ?_ | (simp (decide := true) (disch := omega) only [go_sem, ↓reduceIte, ↓put_at])))
    refine call_s Tryd.call11 c1 [] ?_
    (repeat (first | refine aw_seq ?_ | refine aw_block ?_ | refine aw_reg hC (by kernel_rfl) ?_ | refine aw_regd hC Tryd.checked.mixed (by kernel_rfl) ?_ | refine chk_and (by kernel_rfl) ?_ | refine aw_skip ?_ | refine aw_if ?_ | refine And.intro (by first | omega | with_reducible assumption) ?_ | refine aw_exit ?_ | refine aw_ret ?_ | (simp (decide := true) (disch := omega) only [go_sem, ↓reduceIte, ↓put_at])))
    refine call_s Tryd.call12 c2 [] ?_
    (repeat (first | refine aw_seq ?_ | refine aw_block ?_ | refine aw_reg hC (by kernel_rfl) ?_ | refine aw_regd hC Tryd.checked.mixed (by kernel_rfl) ?_ | refine chk_and (by kernel_rfl) ?_ | refine aw_skip ?_ | refine aw_if ?_ | refine And.intro (by first | omega | with_reducible assumption) ?_ | refine aw_exit ?_ | refine aw_ret ?_ | (simp (decide := true) (disch := omega) only [go_sem, ↓reduceIte, ↓put_at])))
    refine gcall_s Tryd.call13 c3 [] ?_
    (repeat (first | refine aw_seq ?_ | refine aw_block ?_ | refine aw_reg hC (by kernel_rfl) ?_ | refine aw_regd hC Tryd.checked.mixed (by kernel_rfl) ?_ | refine chk_and (by kernel_rfl) ?_ | refine aw_skip ?_ | refine aw_if ?_ | refine And.intro (by first | omega | with_reducible assumption) ?_ | refine aw_exit ?_ | refine aw_ret ?_ | (simp (decide := true) (disch := omega) only [go_sem, ↓reduceIte, ↓put_at])))
    (refine ret_s [] ?_; simp (decide := true) (disch := omega) only [go_sem, ↓reduceIte, ↓put_at])
set_option maxRecDepth 100000 in
set_option maxHeartbeats 4000000 in
theorem q_back5 (n : Int) (l : List E5) (hl : l.length ≤ maxLen) (hd : ∀ x ∈ l, x.data.length ≤ maxLen) : Spec Tryd.prog 4 [.ca (.val (vi n)), .ca (.val (.lst 2 (l.map e5El)))] [] (.ca (.val (vb true))) [] := by
  have c0 := law_own5 l hl hd
  have hol := own5_len l
  have hor := own5_raw (formOk n) l
  generalize own5 l = m at *
  have c1 := exts_pack n m (by unfold maxLen; omega) hor
  have c2 := ref_pack5 n m (by unfold maxLen; omega) hor
  have hbk := parse_pack5 n m
  have hbl : (pack5 n m).2.1.length ≤ 1000000 := by
    unfold pack5
    split
    · simp
    split
    · rename_i h; exact Nat.le_trans h.2 (by decide)
    · simp
  generalize pack5 n m = R at *
  obtain ⟨p, s, e⟩ := R
  dsimp only at *
  by_cases he : e = 0
  · have c3 := exts_parse p s hbl
    rw [hbk he] at c3
    dsimp only at c3
    have c4 := law_is5 m m (by unfold maxLen; omega) (by unfold maxLen; omega)
    rw [decide_eq_true rfl] at c4
    subst he
    refine spec_of Tryd.func4 rfl Tryd.ntmps4 Tryd.results4 ⟨by decide, by simp⟩ fun C hC => ?_
    (repeat (first | refine aw_seq ?_ | refine aw_block ?_ | refine aw_reg hC (by kernel_rfl) ?_ | refine aw_regd hC Tryd.checked.mixed (by kernel_rfl) ?_ | refine chk_and (by kernel_rfl) ?_ | refine aw_skip ?_ | refine aw_if ?_ | refine And.intro (by first | omega | with_reducible assumption) ?_ | refine aw_exit ?_ | refine aw_ret ?_ | (simp (decide := true) (disch := omega) only [go_sem, ↓reduceIte, ↓put_at])))
    refine call_s Tryd.call9 law_awake5 [] ?_
    (repeat (first | refine aw_seq ?_ | refine aw_block ?_ | refine aw_reg hC (by kernel_rfl) ?_ | refine aw_regd hC Tryd.checked.mixed (by kernel_rfl) ?_ | refine chk_and (by kernel_rfl) ?_ | refine aw_skip ?_ | refine aw_if ?_ | refine And.intro (by first | omega | with_reducible assumption) ?_ | refine aw_exit ?_ | refine aw_ret ?_ | (simp (decide := true) (disch := omega) only [go_sem, ↓reduceIte, ↓put_at])))
    refine call_s Tryd.call15 c0 [] ?_
    (repeat (first | refine aw_seq ?_ | refine aw_block ?_ | refine aw_reg hC (by kernel_rfl) ?_ | refine aw_regd hC Tryd.checked.mixed (by kernel_rfl) ?_ | refine chk_and (by kernel_rfl) ?_ | refine aw_skip ?_ | refine aw_if ?_ | refine And.intro (by first | omega | with_reducible assumption) ?_ | refine aw_exit ?_ | refine aw_ret ?_ | (simp (decide := true) (disch := omega) only [go_sem, ↓reduceIte, ↓put_at])))
    refine call_s Tryd.call14 c1 [] ?_
    (repeat (first | refine aw_seq ?_ | refine aw_block ?_ | refine aw_reg hC (by kernel_rfl) ?_ | refine aw_regd hC Tryd.checked.mixed (by kernel_rfl) ?_ | refine chk_and (by kernel_rfl) ?_ | refine aw_skip ?_ | refine aw_if ?_ | refine And.intro (by first | omega | with_reducible assumption) ?_ | refine aw_exit ?_ | refine aw_ret ?_ | (simp (decide := true) (disch := omega) only [go_sem, ↓reduceIte, ↓put_at])))
    refine call_s Tryd.call16 c2 [] ?_
    (repeat (first | refine aw_seq ?_ | refine aw_block ?_ | refine aw_reg hC (by kernel_rfl) ?_ | refine aw_regd hC Tryd.checked.mixed (by kernel_rfl) ?_ | refine chk_and (by kernel_rfl) ?_ | refine aw_skip ?_ | refine aw_if ?_ | refine And.intro (by first | omega | with_reducible assumption) ?_ | refine aw_exit ?_ | refine aw_ret ?_ | (simp (decide := true) (disch := omega) only [go_sem, ↓reduceIte, ↓put_at])))
    refine call_s Tryd.call11 c3 [] ?_
    (repeat (first | refine aw_seq ?_ | refine aw_block ?_ | refine aw_reg hC (by kernel_rfl) ?_ | refine aw_regd hC Tryd.checked.mixed (by kernel_rfl) ?_ | refine chk_and (by kernel_rfl) ?_ | refine aw_skip ?_ | refine aw_if ?_ | refine And.intro (by first | omega | with_reducible assumption) ?_ | refine aw_exit ?_ | refine aw_ret ?_ | (simp (decide := true) (disch := omega) only [go_sem, ↓reduceIte, ↓put_at])))
    refine gcall_s Tryd.call13 c4 [] ?_
    (repeat (first | refine aw_seq ?_ | refine aw_block ?_ | refine aw_reg hC (by kernel_rfl) ?_ | refine aw_regd hC Tryd.checked.mixed (by kernel_rfl) ?_ | refine chk_and (by kernel_rfl) ?_ | refine aw_skip ?_ | refine aw_if ?_ | refine And.intro (by first | omega | with_reducible assumption) ?_ | refine aw_exit ?_ | refine aw_ret ?_ | (simp (decide := true) (disch := omega) only [go_sem, ↓reduceIte, ↓put_at])))
    (refine ret_s [] ?_; simp (decide := true) (disch := omega) only [go_sem, ↓reduceIte, ↓put_at])
  · refine spec_of Tryd.func4 rfl Tryd.ntmps4 Tryd.results4 ⟨by decide, by simp⟩ fun C hC => ?_
    (repeat (first | refine aw_seq ?_ | refine aw_block ?_ | refine aw_reg hC (by kernel_rfl) ?_ | refine aw_regd hC Tryd.checked.mixed (by kernel_rfl) ?_ | refine chk_and (by kernel_rfl) ?_ | refine aw_skip ?_ | refine aw_if ?_ | refine And.intro (by first | omega | with_reducible assumption) ?_ | refine aw_exit ?_ | refine aw_ret ?_ | (simp (decide := true) (disch := omega) only [go_sem, ↓reduceIte, ↓put_at])))
    refine call_s Tryd.call9 law_awake5 [] ?_
    (repeat (first | refine aw_seq ?_ | refine aw_block ?_ | refine aw_reg hC (by kernel_rfl) ?_ | refine aw_regd hC Tryd.checked.mixed (by kernel_rfl) ?_ | refine chk_and (by kernel_rfl) ?_ | refine aw_skip ?_ | refine aw_if ?_ | refine And.intro (by first | omega | with_reducible assumption) ?_ | refine aw_exit ?_ | refine aw_ret ?_ | (simp (decide := true) (disch := omega) only [go_sem, ↓reduceIte, ↓put_at])))
    refine call_s Tryd.call15 c0 [] ?_
    (repeat (first | refine aw_seq ?_ | refine aw_block ?_ | refine aw_reg hC (by kernel_rfl) ?_ | refine aw_regd hC Tryd.checked.mixed (by kernel_rfl) ?_ | refine chk_and (by kernel_rfl) ?_ | refine aw_skip ?_ | refine aw_if ?_ | refine And.intro (by first | omega | with_reducible assumption) ?_ | refine aw_exit ?_ | refine aw_ret ?_ | (simp (decide := true) (disch := omega) only [go_sem, ↓reduceIte, ↓put_at])))
    refine call_s Tryd.call14 c1 [] ?_
    (repeat (first | refine aw_seq ?_ | refine aw_block ?_ | refine aw_reg hC (by kernel_rfl) ?_ | refine aw_regd hC Tryd.checked.mixed (by kernel_rfl) ?_ | refine chk_and (by kernel_rfl) ?_ | refine aw_skip ?_ | refine aw_if ?_ | refine And.intro (by first | omega | with_reducible assumption) ?_ | refine aw_exit ?_ | refine aw_ret ?_ | (simp (decide := true) (disch := omega) only [go_sem, ↓reduceIte, ↓put_at])))
    refine call_s Tryd.call16 c2 [] ?_
    (repeat (first | refine aw_seq ?_ | refine aw_block ?_ | refine aw_reg hC (by kernel_rfl) ?_ | refine aw_regd hC Tryd.checked.mixed (by kernel_rfl) ?_ | refine chk_and (by kernel_rfl) ?_ | refine aw_skip ?_ | refine aw_if ?_ | refine And.intro (by first | omega | with_reducible assumption) ?_ | refine aw_exit ?_ | refine aw_ret ?_ | (simp (decide := true) (disch := omega) only [go_sem, ↓reduceIte, ↓put_at])))
    (refine ret_s [] ?_; simp (decide := true) (disch := omega) only [go_sem, ↓reduceIte, ↓put_at])
end Go.Proofs.YtojcjbaimdjhoaaDoor
namespace Go.Proofs.YtojcjbaimdjhoaaDoor
open Go.RowKit
set_option linter.unusedVariables false
set_option linter.unusedSimpArgs false

set_option maxRecDepth 100000 in
theorem clone_u32 (xs : List Int) (hl : xs.length ≤ 1099511627776) : Spec Tryd.prog 46 [.ca (.val (.lst 1 (xs.map u32El)))] [] (.ca (.val (.lst 1 (xs.map u32El)))) [] := by
  refine spec_of Tryd.func46 rfl Tryd.ntmps46 Tryd.results46 ⟨by decide, by simp⟩ fun C hC => ?_
  (repeat (first | refine aw_seq ?_ | refine aw_block ?_ | refine aw_reg hC (by kernel_rfl) ?_ | refine aw_regd hC Tryd.checked.mixed (by kernel_rfl) ?_ | refine chk_and (by kernel_rfl) ?_ | refine aw_skip ?_ | refine aw_if ?_ | refine And.intro (by first | omega | with_reducible assumption) ?_ | refine aw_exit ?_ | refine aw_ret ?_ | (simp (decide := true) (disch := omega) only [go_sem, ↓reduceIte, ↓put_at])))
  refine nil_s 1 (xs.map u32El) (by simp (decide := true) (disch := omega) only [go_sem, ↓reduceIte, ↓put_at]) (by simp (decide := true) (disch := omega) only [go_sem, ↓reduceIte, ↓put_at]) (fun b hb => ?_)
  cases b with
  | true =>
    have h0 := hb rfl
    rw [h0]
    (repeat (first | refine aw_seq ?_ | refine aw_block ?_ | refine aw_reg hC (by kernel_rfl) ?_ | refine aw_regd hC Tryd.checked.mixed (by kernel_rfl) ?_ | refine chk_and (by kernel_rfl) ?_ | refine aw_skip ?_ | refine aw_if ?_ | refine And.intro (by first | omega | with_reducible assumption) ?_ | refine aw_exit ?_ | refine aw_ret ?_ | (simp (decide := true) (disch := omega) only [go_sem, ↓reduceIte, ↓put_at])))
    (refine ret_s [] ?_; simp (decide := true) (disch := omega) only [go_sem, ↓reduceIte, ↓put_at])
  | false =>
    (repeat (first | refine aw_seq ?_ | refine aw_block ?_ | refine aw_reg hC (by kernel_rfl) ?_ | refine aw_regd hC Tryd.checked.mixed (by kernel_rfl) ?_ | refine chk_and (by kernel_rfl) ?_ | refine aw_skip ?_ | refine aw_if ?_ | refine And.intro (by first | omega | with_reducible assumption) ?_ | refine aw_exit ?_ | refine aw_ret ?_ | (simp (decide := true) (disch := omega) only [go_sem, ↓reduceIte, ↓put_at])))
    refine ⟨⟨⟨by omega, by omega, fun r hr => ?_, fun r hr y hy => ?_⟩, by kernel_rfl⟩, ?_⟩
    · obtain ⟨n, _, rfl⟩ := List.mem_map.1 hr
      rfl
    · obtain ⟨n, _, rfl⟩ := List.mem_map.1 hr
      simp [u32El] at hy
      subst hy
      rfl
    (repeat (first | refine aw_seq ?_ | refine aw_block ?_ | refine aw_reg hC (by kernel_rfl) ?_ | refine aw_regd hC Tryd.checked.mixed (by kernel_rfl) ?_ | refine chk_and (by kernel_rfl) ?_ | refine aw_skip ?_ | refine aw_if ?_ | refine And.intro (by first | omega | with_reducible assumption) ?_ | refine aw_exit ?_ | refine aw_ret ?_ | (simp (decide := true) (disch := omega) only [go_sem, ↓reduceIte, ↓put_at])))
    (refine ret_s [] ?_; simp (decide := true) (disch := omega) only [go_sem, ↓reduceIte, ↓put_at])
/-- The place of the first element of a number. -/
def at5 (l : List E5) (id : Int) : Nat := l.findIdx fun x => decide (x.id = id)
def find5 (l : List E5) (id : Int) : Option (List UInt8) := (l.find? fun x => decide (x.id = id)).map (·.data)
set_option maxRecDepth 100000 in
theorem exts_find1 (x : E5) (id : Int) : Spec Tryd.prog 48 [.ca (.val (.agg (e5L x))), .ptr 0 0] [[.val (vi id)]] (.ca (.val (vb (decide (x.id = id))))) [[.val (vi id)]] := by
  refine spec_of Tryd.func48 rfl Tryd.ntmps48 Tryd.results48 ⟨by decide, by simp⟩ fun C hC => ?_
  by_cases h : x.id = id
  · rw [decide_eq_true h]
    (repeat (first | refine aw_seq ?_ | refine aw_block ?_ | refine aw_reg hC (by kernel_rfl) ?_ | refine aw_regd hC Tryd.checked.mixed (by kernel_rfl) ?_ | refine chk_and (by kernel_rfl) ?_ | refine aw_skip ?_ | refine aw_if ?_ | refine And.intro (by first | omega | with_reducible assumption) ?_ | refine aw_exit ?_ | refine aw_ret ?_ | (simp (decide := true) (disch := omega) only [go_sem, ↓reduceIte, ↓put_at])))
    (refine ret_s [] ?_; simp (decide := true) (disch := omega) only [go_sem, ↓reduceIte, ↓put_at])
  · rw [decide_eq_false h]
    (repeat (first | refine aw_seq ?_ | refine aw_block ?_ | refine aw_reg hC (by kernel_rfl) ?_ | refine aw_regd hC Tryd.checked.mixed (by kernel_rfl) ?_ | refine chk_and (by kernel_rfl) ?_ | refine aw_skip ?_ | refine aw_if ?_ | refine And.intro (by first | omega | with_reducible assumption) ?_ | refine aw_exit ?_ | refine aw_ret ?_ | (simp (decide := true) (disch := omega) only [go_sem, ↓reduceIte, ↓put_at])))
    (refine ret_s [] ?_; simp (decide := true) (disch := omega) only [go_sem, ↓reduceIte, ↓put_at])
set_option maxRecDepth 100000 in
theorem index5 (l : List E5) (id : Int) (hl : l.length ≤ maxLen) : Spec Tryd.prog 47 [.ca (.val (.lst 2 (l.map e5El))), .fn 48 [.ptr 0 0]] [[.val (vi id)]] (.ca (.val (vi (if at5 l id < l.length then at5 l id else -1)))) [[.val (vi id)]] := by
  unfold maxLen at hl
  refine spec_of Tryd.func47 rfl Tryd.ntmps47 Tryd.results47 ⟨by decide, by simp⟩ fun C hC => ?_
  (repeat (first | refine aw_seq ?_ | refine aw_block ?_ | refine aw_reg hC (by kernel_rfl) ?_ | refine aw_regd hC Tryd.checked.mixed (by kernel_rfl) ?_ | refine chk_and (by kernel_rfl) ?_ | refine aw_skip ?_ | refine aw_if ?_ | refine And.intro (by first | omega | with_reducible assumption) ?_ | refine aw_exit ?_ | refine aw_ret ?_ | (simp (decide := true) (disch := omega) only [go_sem, ↓reduceIte, ↓put_at])))
  refine loop_s (α := {j : Nat // j ≤ l.length ∧ ∀ i, (h : i < l.length) → i < j → l[i].id ≠ id}) (fun j => [(.s 0, .av (.val (.lst 2 (l.map e5El)))), (.s 1, .av (.fn 48 [.ptr (1000, 0) 0 0])), (.o (1000, 0), .num 1), (.c (1000, 0) 0, .av (.val (vi id))), (.s 7, .av (.val (vi l.length))), (.s 8, .av (.val (vi j.1)))]) (fun j => l.length - j.1) ⟨0, Nat.zero_le _, fun i _ h => absurd h (by omega)⟩ ?_ (fun j => ?_)
  · simp (decide := true) (disch := omega) only [go_sem, ↓reduceIte, ↓put_at]
  · obtain ⟨j, hj, hn⟩ := j
    dsimp only at hj hn ⊢
    by_cases hlt : j < l.length
    · have c := exts_find1 l[j] id
      by_cases he : l[j].id = id
      · have ha : at5 l id = j := by
          unfold at5
          refine List.findIdx_eq hlt |>.2 ⟨decide_eq_true he, fun i hi => decide_eq_false (hn i (by omega) hi)⟩
        rw [decide_eq_true he] at c
        rw [ha, if_pos hlt]
        (repeat (first | refine aw_seq ?_ | refine aw_block ?_ | refine aw_reg hC (by kernel_rfl) ?_ | refine aw_regd hC Tryd.checked.mixed (by kernel_rfl) ?_ | refine chk_and (by kernel_rfl) ?_ | refine aw_skip ?_ | refine aw_if ?_ | refine And.intro (by first | omega | with_reducible assumption) ?_ | refine aw_exit ?_ | refine aw_ret ?_ | (simp (decide := true) (disch := omega) only [go_sem, ↓reduceIte, ↓put_at])))
        refine fcall_s Tryd.call48 c [(1000, 0)] [.ptr (1000, 0) 0 0] ?_
        (repeat (first | refine aw_seq ?_ | refine aw_block ?_ | refine aw_reg hC (by kernel_rfl) ?_ | refine aw_regd hC Tryd.checked.mixed (by kernel_rfl) ?_ | refine chk_and (by kernel_rfl) ?_ | refine aw_skip ?_ | refine aw_if ?_ | refine And.intro (by first | omega | with_reducible assumption) ?_ | refine aw_exit ?_ | refine aw_ret ?_ | (simp (decide := true) (disch := omega) only [go_sem, ↓reduceIte, ↓put_at])))
        (refine ret_s [] ?_; simp (decide := true) (disch := omega) only [go_sem, ↓reduceIte, ↓put_at])
      · rw [decide_eq_false he] at c
        (repeat (first | refine aw_seq ?_ | refine aw_block ?_ | refine aw_reg hC (by kernel_rfl) ?_ | refine aw_regd hC Tryd.checked.mixed (by kernel_rfl) ?_ | refine chk_and (by kernel_rfl) ?_ | refine aw_skip ?_ | refine aw_if ?_ | refine And.intro (by first | omega | with_reducible assumption) ?_ | refine aw_exit ?_ | refine aw_ret ?_ | (simp (decide := true) (disch := omega) only [go_sem, ↓reduceIte, ↓put_at])))
        refine fcall_s Tryd.call48 c [(1000, 0)] [.ptr (1000, 0) 0 0] ?_
        (repeat (first | refine aw_seq ?_ | refine aw_block ?_ | refine aw_reg hC (by kernel_rfl) ?_ | refine aw_regd hC Tryd.checked.mixed (by kernel_rfl) ?_ | refine chk_and (by kernel_rfl) ?_ | refine aw_skip ?_ | refine aw_if ?_ | refine And.intro (by first | omega | with_reducible assumption) ?_ | refine aw_exit ?_ | refine aw_ret ?_ | (simp (decide := true) (disch := omega) only [go_sem, ↓reduceIte, ↓put_at])))
        refine next_s (α := {j : Nat // j ≤ l.length ∧ ∀ i, (h : i < l.length) → i < j → l[i].id ≠ id}) ⟨j + 1, hlt, fun i h1 h2 => ?_⟩ ⟨?_, by dsimp only; omega⟩
        · by_cases hij : i = j
          · subst hij; exact he
          · exact hn i h1 (by omega)
        · simp (decide := true) (disch := omega) only [go_sem, ↓reduceIte, ↓put_at]
    · have ha : ¬ at5 l id < l.length := by
        intro h
        have h2 := List.findIdx_getElem (w := h)
        exact hn _ h (by omega) (of_decide_eq_true h2)
      rw [if_neg ha]
      (repeat (first | refine aw_seq ?_ | refine aw_block ?_ | refine aw_reg hC (by kernel_rfl) ?_ | refine aw_regd hC Tryd.checked.mixed (by kernel_rfl) ?_ | refine chk_and (by kernel_rfl) ?_ | refine aw_skip ?_ | refine aw_if ?_ | refine And.intro (by first | omega | with_reducible assumption) ?_ | refine aw_exit ?_ | refine aw_ret ?_ | (simp (decide := true) (disch := omega) only [go_sem, ↓reduceIte, ↓put_at])))
      (refine ret_s [] ?_; simp (decide := true) (disch := omega) only [go_sem, ↓reduceIte, ↓put_at])
theorem at5_find (l : List E5) (id : Int) : (at5 l id < l.length → ∃ h : at5 l id < l.length, find5 l id = some l[at5 l id].data) ∧ (¬ at5 l id < l.length → find5 l id = none) := by
  constructor
  · intro h
    refine ⟨h, ?_⟩
    unfold find5
    have h1 : l.find? (fun x => decide (x.id = id)) = some l[at5 l id] := by
      rw [List.find?_eq_some_iff_getElem]
      refine ⟨List.findIdx_getElem (w := h), at5 l id, h, rfl, fun j hj => ?_⟩
      simpa using List.not_of_lt_findIdx hj
    rw [h1]; rfl
  · intro h
    unfold find5
    have h1 : l.find? (fun x => decide (x.id = id)) = none := by
      rw [List.find?_eq_none]
      intro x hx he
      apply h
      unfold at5
      exact List.findIdx_lt_length_of_exists ⟨x, hx, he⟩
    rw [h1]; rfl
set_option maxRecDepth 100000 in
theorem exts_find (l : List E5) (id : Int) (hl : l.length ≤ maxLen) : Spec Tryd.prog 22 [.ca (.val (.lst 2 (l.map e5El))), .ca (.val (vi id))] [] (.ca (.val (.tup [vs ((find5 l id).getD []), vb (find5 l id).isSome]))) [] := by
  have c := index5 l id hl
  have ha := at5_find l id
  unfold maxLen at hl
  by_cases h : at5 l id < l.length
  · obtain ⟨_, hf⟩ := ha.1 h
    rw [if_pos h] at c
    rw [hf]
    generalize at5 l id = j at *
    refine spec_of Tryd.func22 rfl Tryd.ntmps22 Tryd.results22 ⟨by decide, by simp⟩ fun C hC => ?_
    (repeat (first | refine aw_seq ?_ | refine aw_block ?_ | refine aw_reg hC (by kernel_rfl) ?_ | refine aw_regd hC Tryd.checked.mixed (by kernel_rfl) ?_ | refine chk_and (by kernel_rfl) ?_ | refine aw_skip ?_ | refine aw_if ?_ | refine And.intro (by first | omega | with_reducible assumption) ?_ | refine aw_exit ?_ | refine aw_ret ?_ | (simp (decide := true) (disch := omega) only [go_sem, ↓reduceIte, ↓put_at])))
    refine call_s Tryd.call47 c [(3, 0)] ?_
    (repeat (first | refine aw_seq ?_ | refine aw_block ?_ | refine aw_reg hC (by kernel_rfl) ?_ | refine aw_regd hC Tryd.checked.mixed (by kernel_rfl) ?_ | refine chk_and (by kernel_rfl) ?_ | refine aw_skip ?_ | refine aw_if ?_ | refine And.intro (by first | omega | with_reducible assumption) ?_ | refine aw_exit ?_ | refine aw_ret ?_ | (simp (decide := true) (disch := omega) only [go_sem, ↓reduceIte, ↓put_at])))
    (refine ret_s [] ?_; simp (decide := true) (disch := omega) only [go_sem, ↓reduceIte, ↓put_at])
  · have hf := ha.2 h
    rw [if_neg h] at c
    rw [hf]
    refine spec_of Tryd.func22 rfl Tryd.ntmps22 Tryd.results22 ⟨by decide, by simp⟩ fun C hC => ?_
    (repeat (first | refine aw_seq ?_ | refine aw_block ?_ | refine aw_reg hC (by kernel_rfl) ?_ | refine aw_regd hC Tryd.checked.mixed (by kernel_rfl) ?_ | refine chk_and (by kernel_rfl) ?_ | refine aw_skip ?_ | refine aw_if ?_ | refine And.intro (by first | omega | with_reducible assumption) ?_ | refine aw_exit ?_ | refine aw_ret ?_ | (simp (decide := true) (disch := omega) only [go_sem, ↓reduceIte, ↓put_at])))
    refine call_s Tryd.call47 c [(3, 0)] ?_
    (repeat (first | refine aw_seq ?_ | refine aw_block ?_ | refine aw_reg hC (by kernel_rfl) ?_ | refine aw_regd hC Tryd.checked.mixed (by kernel_rfl) ?_ | refine chk_and (by kernel_rfl) ?_ | refine aw_skip ?_ | refine aw_if ?_ | refine And.intro (by first | omega | with_reducible assumption) ?_ | refine aw_exit ?_ | refine aw_ret ?_ | (simp (decide := true) (disch := omega) only [go_sem, ↓reduceIte, ↓put_at])))
    (refine ret_s [] ?_; simp (decide := true) (disch := omega) only [go_sem, ↓reduceIte, ↓put_at])
set_option maxRecDepth 100000 in
theorem exts_of (p : P4) (hl : p.ext.length ≤ 1000000) : Spec Tryd.prog 21 [.ca (.val (.agg (h4L p)))] [] (.ca (.val (.tup [vi (if p.hasExt = true then (parse5 p.profile p.ext).1 else 0), .lst 2 ((if p.hasExt = true then (parse5 p.profile p.ext).2.1 else []).map e5El), vi (if p.hasExt = true then (parse5 p.profile p.ext).2.2 else 0)]))) [] := by
  have c := exts_parse p.profile p.ext hl
  obtain ⟨mk, kd, sq, tm, sr, os, hx, pf, ex, da, pd⟩ := p
  dsimp only at *
  cases hx with
  | true =>
    simp only [if_true]
    refine spec_of Tryd.func21 rfl Tryd.ntmps21 Tryd.results21 ⟨by decide, by simp⟩ fun C hC => ?_
    (repeat (first | refine aw_seq ?_ | refine aw_block ?_ | refine aw_reg hC (by kernel_rfl) ?_ | refine aw_regd hC Tryd.checked.mixed (by kernel_rfl) ?_ | refine chk_and (by kernel_rfl) ?_ | refine aw_skip ?_ | refine aw_if ?_ | refine And.intro (by first | omega | with_reducible assumption) ?_ | refine aw_exit ?_ | refine aw_ret ?_ | (simp (decide := true) (disch := omega) only [go_sem, ↓reduceIte, ↓put_at])))
    refine call_s Tryd.call11 c [] ?_
    (repeat (first | refine aw_seq ?_ | refine aw_block ?_ | refine aw_reg hC (by kernel_rfl) ?_ | refine aw_regd hC Tryd.checked.mixed (by kernel_rfl) ?_ | refine chk_and (by kernel_rfl) ?_ | refine aw_skip ?_ | refine aw_if ?_ | refine And.intro (by first | omega | with_reducible assumption) ?_ | refine aw_exit ?_ | refine aw_ret ?_ | (simp (decide := true) (disch := omega) only [go_sem, ↓reduceIte, ↓put_at])))
    (refine ret_s [] ?_; simp (decide := true) (disch := omega) only [go_sem, ↓reduceIte, ↓put_at])
  | false =>
    simp only [Bool.false_eq_true, if_false, List.map_nil]
    refine spec_of Tryd.func21 rfl Tryd.ntmps21 Tryd.results21 ⟨by decide, by simp⟩ fun C hC => ?_
    (repeat (first | refine aw_seq ?_ | refine aw_block ?_ | refine aw_reg hC (by kernel_rfl) ?_ | refine aw_regd hC Tryd.checked.mixed (by kernel_rfl) ?_ | refine chk_and (by kernel_rfl) ?_ | refine aw_skip ?_ | refine aw_if ?_ | refine And.intro (by first | omega | with_reducible assumption) ?_ | refine aw_exit ?_ | refine aw_ret ?_ | (simp (decide := true) (disch := omega) only [go_sem, ↓reduceIte, ↓put_at])))
    (refine ret_s [] ?_; simp (decide := true) (disch := omega) only [go_sem, ↓reduceIte, ↓put_at])
/-- A header into which elements are put. -/
def into5 (p : P4) (n : Int) (l : List E5) : P4 := if (pack5 n l).2.2 = 0 then { p with hasExt := true, profile := (pack5 n l).1, ext := (pack5 n l).2.1 } else no4
set_option maxRecDepth 100000 in
set_option maxHeartbeats 4000000 in
theorem exts_into (p : P4) (n : Int) (l : List E5) (ho : p.others.length ≤ 1099511627776) (hl : l.length ≤ maxLen) (hr : (raw5 (formOk n) l).length ≤ 1000000000) : Spec Tryd.prog 18 [.ca (.val (.agg (h4L p))), .ca (.val (vi n)), .ca (.val (.lst 2 (l.map e5El)))] [] (.ca (.val (.tup [.agg (h4L (into5 p n l)), vi (pack5 n l).2.2]))) [] := by
  have c1 := exts_pack n l hl hr
  have c2 := clone_u32 p.others ho
  unfold into5
  generalize pack5 n l = R at *
  obtain ⟨q, s, e⟩ := R
  obtain ⟨mk, kd, sq, tm, sr, os, hx, pf, ex, da, pd⟩ := p
  dsimp only at *
  by_cases he : e = 0
  · subst he
    simp only [if_true]
    refine spec_of Tryd.func18 rfl Tryd.ntmps18 Tryd.results18 ⟨by decide, by simp⟩ fun C hC => ?_
    (repeat (first | refine aw_seq ?_ | refine aw_block ?_ | refine aw_reg hC (by kernel_rfl) ?_ | refine aw_regd hC Tryd.checked.mixed (by kernel_rfl) ?_ | refine chk_and (by kernel_rfl) ?_ | refine aw_skip ?_ | refine aw_if ?_ | refine And.intro (by first | omega | with_reducible assumption) ?_ | refine aw_exit ?_ | refine aw_ret ?_ | (simp (decide := true) (disch := omega) only [go_sem, ↓reduceIte, ↓put_at])))
    refine call_s Tryd.call14 c1 [] ?_
    (repeat (first | refine aw_seq ?_ | refine aw_block ?_ | refine aw_reg hC (by kernel_rfl) ?_ | refine aw_regd hC Tryd.checked.mixed (by kernel_rfl) ?_ | refine chk_and (by kernel_rfl) ?_ | refine aw_skip ?_ | refine aw_if ?_ | refine And.intro (by first | omega | with_reducible assumption) ?_ | refine aw_exit ?_ | refine aw_ret ?_ | (simp (decide := true) (disch := omega) only [go_sem, ↓reduceIte, ↓put_at])))
    refine call_s Tryd.call46 c2 [] ?_
    (repeat (first | refine aw_seq ?_ | refine aw_block ?_ | refine aw_reg hC (by kernel_rfl) ?_ | refine aw_regd hC Tryd.checked.mixed (by kernel_rfl) ?_ | refine chk_and (by kernel_rfl) ?_ | refine aw_skip ?_ | refine aw_if ?_ | refine And.intro (by first | omega | with_reducible assumption) ?_ | refine aw_exit ?_ | refine aw_ret ?_ | (simp (decide := true) (disch := omega) only [go_sem, ↓reduceIte, ↓put_at])))
    (refine ret_s [] ?_; simp (decide := true) (disch := omega) only [go_sem, ↓reduceIte, ↓put_at])
  · simp only [if_neg he]
    unfold no4
    refine spec_of Tryd.func18 rfl Tryd.ntmps18 Tryd.results18 ⟨by decide, by simp⟩ fun C hC => ?_
    (repeat (first | refine aw_seq ?_ | refine aw_block ?_ | refine aw_reg hC (by kernel_rfl) ?_ | refine aw_regd hC Tryd.checked.mixed (by kernel_rfl) ?_ | refine chk_and (by kernel_rfl) ?_ | refine aw_skip ?_ | refine aw_if ?_ | refine And.intro (by first | omega | with_reducible assumption) ?_ | refine aw_exit ?_ | refine aw_ret ?_ | (simp (decide := true) (disch := omega) only [go_sem, ↓reduceIte, ↓put_at])))
    refine call_s Tryd.call14 c1 [] ?_
    (repeat (first | refine aw_seq ?_ | refine aw_block ?_ | refine aw_reg hC (by kernel_rfl) ?_ | refine aw_regd hC Tryd.checked.mixed (by kernel_rfl) ?_ | refine chk_and (by kernel_rfl) ?_ | refine aw_skip ?_ | refine aw_if ?_ | refine And.intro (by first | omega | with_reducible assumption) ?_ | refine aw_exit ?_ | refine aw_ret ?_ | (simp (decide := true) (disch := omega) only [go_sem, ↓reduceIte, ↓put_at])))
    (refine ret_s [] ?_; simp (decide := true) (disch := omega) only [go_sem, ↓reduceIte, ↓put_at])
end Go.Proofs.YtojcjbaimdjhoaaDoor
namespace Go.Proofs.YtojcjbaimdjhoaaDoor
open Go.RowKit
set_option linter.unusedVariables false
set_option linter.unusedSimpArgs false

theorem find5_snoc (l : List E5) (x : E5) (id : Int) : find5 (l ++ [x]) id = (match find5 l id with | some d => some d | none => if x.id = id then some x.data else none) := by
  unfold find5
  rw [List.find?_append]
  cases l.find? (fun x => decide (x.id = id)) with
  | some y => rfl
  | none =>
    by_cases h : x.id = id
    · rw [if_pos h]; simp [h]
    · rw [if_neg h]; simp [h]
abbrev putL (p : P4) (n id : Int) (l : List E5) : List V := [vb p.marker, vi p.kind, vh p.seq, vu p.time, vu p.src, .lst 1 (p.others.map u32El), vb p.hasExt, vi p.profile, vs p.ext, vs p.data, vi p.pad, vi n, vi id, .lst 2 (l.map e5El)]
set_option maxRecDepth 100000 in
set_option maxHeartbeats 8000000 in
theorem q_headers5 (x : P4) (n id : Int) (l : List E5) (ho : x.Ok) (ha : x.others.length ≤ maxLen) (hb : x.ext.length ≤ maxLen) (hc : x.data.length ≤ maxLen) (hl : l.length ≤ maxLen) (hd : ∀ x ∈ l, x.data.length ≤ maxLen) :
    Spec Tryd.prog 5 [.ca (.val (.agg (putL x n id l)))] [] (.ca (.val (vb true))) [] := by
  have c1 := law_cut4 x ha hb hc
  have hok : (cut4 x).Ok := ⟨ho.seq, ho.time, ho.src, fun n hn => ho.others n (List.mem_of_mem_take hn)⟩
  have hol : (cut4 x).others.length ≤ 17 := by unfold cut4; simp; omega
  have c2 := law_own5 l hl hd
  have ol := own5_len l
  have or := own5_raw (formOk n) l
  generalize cut4 x = h at *
  generalize own5 l = m at *
  have c3 := exts_into h n m (by omega) (by unfold maxLen; omega) or
  have c4 := ref_pack5 n m (by unfold maxLen; omega) or
  have hbk := parse_pack5 n m
  have hbl : (pack5 n m).2.1.length ≤ 1000000 := by
    unfold pack5
    split
    · simp
    split
    · rename_i h; exact Nat.le_trans h.2 (by decide)
    · simp
  unfold into5 at c3
  generalize pack5 n m = R at *
  obtain ⟨p, s, e⟩ := R
  have k0 := law_told4 no4 ⟨by decide, by decide, by decide, by decide⟩ (by decide)
  have k1 := law_same4 no4 no4 (by decide) (by decide)
  rw [decide_eq_true rfl] at k1
  unfold no4 at k0 k1 c3
  obtain ⟨mk, kd, sq, tm, sr, os, hx, pf, ex, da, pd⟩ := h
  dsimp only at *
  by_cases he : e = 0
  · subst he
    rw [if_pos rfl] at c3
    have c5 := exts_of ⟨mk, kd, sq, tm, sr, os, true, p, s, [], 0⟩ hbl
    dsimp only at c5
    rw [if_pos rfl, if_pos rfl, if_pos rfl, hbk rfl] at c5
    dsimp only at c5
    have c6 := exts_find m id (by unfold maxLen; omega)
    have c7 := exts_of no4 (by decide)
    unfold no4 at c7
    dsimp only at c7
    rw [if_neg (by decide), if_neg (by decide), if_neg (by decide)] at c7
    have hgok : (⟨mk, kd, sq, tm, sr, os, true, p, s, [], 0⟩ : P4).Ok := ⟨hok.seq, hok.time, hok.src, hok.others⟩
    have k2 := law_told4 ⟨mk, kd, sq, tm, sr, os, true, p, s, [], 0⟩ hgok (by dsimp only; omega)
    have k3 := law_same4 ⟨mk, kd, sq, tm, sr, os, true, p, s, [], 0⟩ ⟨mk, kd, sq, tm, sr, os, true, p, s, [], 0⟩ (by dsimp only; omega) (by dsimp only; omega)
    rw [decide_eq_true rfl] at k3
    have k4 := law_is5 m m (by unfold maxLen; omega) (by unfold maxLen; omega)
    rw [decide_eq_true rfl] at k4
    refine spec_of Tryd.func5 rfl Tryd.ntmps5 Tryd.results5 ⟨by decide, by simp⟩ fun C hC => ?_
    (repeat (first | refine aw_seq ?_ | refine aw_block ?_ | refine aw_reg hC (by kernel_rfl) ?_ | refine aw_regd hC Tryd.checked.mixed (by kernel_rfl) ?_ | refine chk_and (by kernel_rfl) ?_ | refine aw_skip ?_ | refine aw_if ?_ | refine And.intro (by first | omega | with_reducible assumption) ?_ | refine aw_exit ?_ | refine aw_ret ?_ | (simp (decide := true) (disch := omega) only [go_sem, ↓reduceIte, ↓put_at])))
    refine call_s Tryd.call9 law_awake5 [] ?_
    (repeat (first | refine aw_seq ?_ | refine aw_block ?_ | refine aw_reg hC (by kernel_rfl) ?_ | refine aw_regd hC Tryd.checked.mixed (by kernel_rfl) ?_ | refine chk_and (by kernel_rfl) ?_ | refine aw_skip ?_ | refine aw_if ?_ | refine And.intro (by first | omega | with_reducible assumption) ?_ | refine aw_exit ?_ | refine aw_ret ?_ | (simp (decide := true) (disch := omega) only [go_sem, ↓reduceIte, ↓put_at])))
    refine call_s Tryd.call17 c1 [] ?_
    (repeat (first | refine aw_seq ?_ | refine aw_block ?_ | refine aw_reg hC (by kernel_rfl) ?_ | refine aw_regd hC Tryd.checked.mixed (by kernel_rfl) ?_ | refine chk_and (by kernel_rfl) ?_ | refine aw_skip ?_ | refine aw_if ?_ | refine And.intro (by first | omega | with_reducible assumption) ?_ | refine aw_exit ?_ | refine aw_ret ?_ | (simp (decide := true) (disch := omega) only [go_sem, ↓reduceIte, ↓put_at])))
    refine call_s Tryd.call15 c2 [] ?_
    (repeat (first | refine aw_seq ?_ | refine aw_block ?_ | refine aw_reg hC (by kernel_rfl) ?_ | refine aw_regd hC Tryd.checked.mixed (by kernel_rfl) ?_ | refine chk_and (by kernel_rfl) ?_ | refine aw_skip ?_ | refine aw_if ?_ | refine And.intro (by first | omega | with_reducible assumption) ?_ | refine aw_exit ?_ | refine aw_ret ?_ | (simp (decide := true) (disch := omega) only [go_sem, ↓reduceIte, ↓put_at])))
    refine call_s Tryd.call18 c3 [] ?_
    (repeat (first | refine aw_seq ?_ | refine aw_block ?_ | refine aw_reg hC (by kernel_rfl) ?_ | refine aw_regd hC Tryd.checked.mixed (by kernel_rfl) ?_ | refine chk_and (by kernel_rfl) ?_ | refine aw_skip ?_ | refine aw_if ?_ | refine And.intro (by first | omega | with_reducible assumption) ?_ | refine aw_exit ?_ | refine aw_ret ?_ | (simp (decide := true) (disch := omega) only [go_sem, ↓reduceIte, ↓put_at])))
    refine call_s Tryd.call16 c4 [] ?_
    (repeat (first | refine aw_seq ?_ | refine aw_block ?_ | refine aw_reg hC (by kernel_rfl) ?_ | refine aw_regd hC Tryd.checked.mixed (by kernel_rfl) ?_ | refine chk_and (by kernel_rfl) ?_ | refine aw_skip ?_ | refine aw_if ?_ | refine And.intro (by first | omega | with_reducible assumption) ?_ | refine aw_exit ?_ | refine aw_ret ?_ | (simp (decide := true) (disch := omega) only [go_sem, ↓reduceIte, ↓put_at])))
    refine call_s Tryd.call21 c5 [] ?_
    (repeat (first | refine aw_seq ?_ | refine aw_block ?_ | refine aw_reg hC (by kernel_rfl) ?_ | refine aw_regd hC Tryd.checked.mixed (by kernel_rfl) ?_ | refine chk_and (by kernel_rfl) ?_ | refine aw_skip ?_ | refine aw_if ?_ | refine And.intro (by first | omega | with_reducible assumption) ?_ | refine aw_exit ?_ | refine aw_ret ?_ | (simp (decide := true) (disch := omega) only [go_sem, ↓reduceIte, ↓put_at])))
    refine call_s Tryd.call22 c6 [] ?_
    (repeat (first | refine aw_seq ?_ | refine aw_block ?_ | refine aw_reg hC (by kernel_rfl) ?_ | refine aw_regd hC Tryd.checked.mixed (by kernel_rfl) ?_ | refine chk_and (by kernel_rfl) ?_ | refine aw_skip ?_ | refine aw_if ?_ | refine And.intro (by first | omega | with_reducible assumption) ?_ | refine aw_exit ?_ | refine aw_ret ?_ | (simp (decide := true) (disch := omega) only [go_sem, ↓reduceIte, ↓put_at])))
    refine loop_s (α := {j : Nat // j ≤ m.length}) (fun j => [(.s 4, .av (.val (vi n))), (.s 5, .av (.val (vi id))), (.s 7, .av (.val (.lst 2 (m.map e5El)))), (.s 8, .av (.ptr (8, 0) 0 0)), (.o (8, 0), .num 9), (.c (8, 0) 0, .av (.val (vb mk))), (.c (8, 0) 1, .av (.val (vi kd))), (.c (8, 0) 2, .av (.val (vh sq))), (.c (8, 0) 3, .av (.val (vu tm))), (.c (8, 0) 4, .av (.val (vu sr))), (.c (8, 0) 5, .av (.val (.lst 1 (os.map u32El)))), (.c (8, 0) 6, .av (.val (vb true))), (.c (8, 0) 7, .av (.val (vi p))), (.c (8, 0) 8, .av (.val (vs s))), (.s 13, .av (.ptr (13, 0) 0 0)), (.o (13, 0), .num 11), (.c (13, 0) 0, .av (.val (vb mk))), (.c (13, 0) 1, .av (.val (vi kd))), (.c (13, 0) 2, .av (.val (vh sq))), (.c (13, 0) 3, .av (.val (vu tm))), (.c (13, 0) 4, .av (.val (vu sr))), (.c (13, 0) 5, .av (.val (.lst 1 (os.map u32El)))), (.c (13, 0) 6, .av (.val (vb true))), (.c (13, 0) 7, .av (.val (vi p))), (.c (13, 0) 8, .av (.val (vs s))), (.c (13, 0) 9, .av (.val (vs []))), (.c (13, 0) 10, .av (.val (vi 0))), (.s 14, .av (.val (vi n))), (.s 15, .av (.val (.lst 2 (m.map e5El)))), (.s 16, .av (.val (vi 0))), (.s 17, .av (.val (vs ((find5 m id).getD [])))), (.s 18, .av (.val (vb (find5 m id).isSome))), (.s 19, .av (.val (vs ((find5 (m.take j.1) id).getD [])))), (.s 20, .av (.val (vb (find5 (m.take j.1) id).isSome))), (.s 90, .av (.val (.lst 2 (m.map e5El)))), (.s 91, .av (.val (vi m.length))), (.s 92, .av (.val (vi j.1)))]) (fun j => m.length - j.1) ⟨0, Nat.zero_le _⟩ ?_ (fun j => ?_)
    · have e0 : find5 (m.take 0) id = none := rfl
      rw [e0]
      simp (decide := true) (disch := omega) only [go_sem, ↓reduceIte, ↓put_at]
    · obtain ⟨j, hj⟩ := j
      dsimp only at hj ⊢
      by_cases hlt : j < m.length
      · have hs : m.take (j + 1) = m.take j ++ [m[j]] := List.take_succ_eq_append_getElem hlt
        have hsn := find5_snoc (m.take j) m[j] id
        rw [← hs] at hsn
        cases hfi : find5 (m.take j) id with
        | some d =>
          rw [hfi] at hsn
          dsimp only at hsn
          by_cases hid : m[j].id = id
          · (repeat (first | refine aw_seq ?_ | refine aw_block ?_ | refine aw_reg hC (by kernel_rfl) ?_ | refine aw_regd hC Tryd.checked.mixed (by kernel_rfl) ?_ | refine chk_and (by kernel_rfl) ?_ | refine aw_skip ?_ | refine aw_if ?_ | refine And.intro (by first | omega | with_reducible assumption) ?_ | refine aw_exit ?_ | refine aw_ret ?_ | (simp (decide := true) (disch := omega) only [go_sem, ↓reduceIte, ↓put_at])))
            refine next_s (α := {j : Nat // j ≤ m.length}) ⟨j + 1, hlt⟩ ⟨?_, by dsimp only; omega⟩
            rw [hsn]
            simp (decide := true) (disch := omega) only [go_sem, ↓reduceIte, ↓put_at]
          · (repeat (first | refine aw_seq ?_ | refine aw_block ?_ | refine aw_reg hC (by kernel_rfl) ?_ | refine aw_regd hC Tryd.checked.mixed (by kernel_rfl) ?_ | refine chk_and (by kernel_rfl) ?_ | refine aw_skip ?_ | refine aw_if ?_ | refine And.intro (by first | omega | with_reducible assumption) ?_ | refine aw_exit ?_ | refine aw_ret ?_ | (simp (decide := true) (disch := omega) only [go_sem, ↓reduceIte, ↓put_at])))
            refine next_s (α := {j : Nat // j ≤ m.length}) ⟨j + 1, hlt⟩ ⟨?_, by dsimp only; omega⟩
            rw [hsn]
            simp (decide := true) (disch := omega) only [go_sem, ↓reduceIte, ↓put_at]
        | none =>
          rw [hfi] at hsn
          dsimp only at hsn
          by_cases hid : m[j].id = id
          · rw [if_pos hid] at hsn
            (repeat (first | refine aw_seq ?_ | refine aw_block ?_ | refine aw_reg hC (by kernel_rfl) ?_ | refine aw_regd hC Tryd.checked.mixed (by kernel_rfl) ?_ | refine chk_and (by kernel_rfl) ?_ | refine aw_skip ?_ | refine aw_if ?_ | refine And.intro (by first | omega | with_reducible assumption) ?_ | refine aw_exit ?_ | refine aw_ret ?_ | (simp (decide := true) (disch := omega) only [go_sem, ↓reduceIte, ↓put_at])))
            refine next_s (α := {j : Nat // j ≤ m.length}) ⟨j + 1, hlt⟩ ⟨?_, by dsimp only; omega⟩
            rw [hsn]
            simp (decide := true) (disch := omega) only [go_sem, ↓reduceIte, ↓put_at]
          · rw [if_neg hid] at hsn
            (repeat (first | refine aw_seq ?_ | refine aw_block ?_ | refine aw_reg hC (by kernel_rfl) ?_ | refine aw_regd hC Tryd.checked.mixed (by kernel_rfl) ?_ | refine chk_and (by kernel_rfl) ?_ | refine aw_skip ?_ | refine aw_if ?_ | refine And.intro (by first | omega | with_reducible assumption) ?_ | refine aw_exit ?_ | refine aw_ret ?_ | (simp (decide := true) (disch := omega) only [go_sem, ↓reduceIte, ↓put_at])))
            refine next_s (α := {j : Nat // j ≤ m.length}) ⟨j + 1, hlt⟩ ⟨?_, by dsimp only; omega⟩
            rw [hsn]
            simp (decide := true) (disch := omega) only [go_sem, ↓reduceIte, ↓put_at]
      · have hjl : m.take j = m := List.take_of_length_le (by omega)
        simp only [hjl]
        generalize (find5 m id).getD [] = D at *
        generalize (find5 m id).isSome = B at *
        (repeat (first | refine aw_seq ?_ | refine aw_block ?_ | refine aw_reg hC (by kernel_rfl) ?_ | refine aw_regd hC Tryd.checked.mixed (by kernel_rfl) ?_ | refine chk_and (by kernel_rfl) ?_ | refine aw_skip ?_ | refine aw_if ?_ | refine And.intro (by first | omega | with_reducible assumption) ?_ | refine aw_exit ?_ | refine aw_ret ?_ | (simp (decide := true) (disch := omega) only [go_sem, ↓reduceIte, ↓put_at])))
        refine call_s Tryd.call21 c7 [] ?_
        (repeat (first | refine aw_seq ?_ | refine aw_block ?_ | refine aw_reg hC (by kernel_rfl) ?_ | refine aw_regd hC Tryd.checked.mixed (by kernel_rfl) ?_ | refine chk_and (by kernel_rfl) ?_ | refine aw_skip ?_ | refine aw_if ?_ | refine And.intro (by first | omega | with_reducible assumption) ?_ | refine aw_exit ?_ | refine aw_ret ?_ | (simp (decide := true) (disch := omega) only [go_sem, ↓reduceIte, ↓put_at])))
        refine call_s Tryd.call20 k2 [] ?_
        (repeat (first | refine aw_seq ?_ | refine aw_block ?_ | refine aw_reg hC (by kernel_rfl) ?_ | refine aw_regd hC Tryd.checked.mixed (by kernel_rfl) ?_ | refine chk_and (by kernel_rfl) ?_ | refine aw_skip ?_ | refine aw_if ?_ | refine And.intro (by first | omega | with_reducible assumption) ?_ | refine aw_exit ?_ | refine aw_ret ?_ | (simp (decide := true) (disch := omega) only [go_sem, ↓reduceIte, ↓put_at])))
        refine call_s Tryd.call20 k2 [] ?_
        (repeat (first | refine aw_seq ?_ | refine aw_block ?_ | refine aw_reg hC (by kernel_rfl) ?_ | refine aw_regd hC Tryd.checked.mixed (by kernel_rfl) ?_ | refine chk_and (by kernel_rfl) ?_ | refine aw_skip ?_ | refine aw_if ?_ | refine And.intro (by first | omega | with_reducible assumption) ?_ | refine aw_exit ?_ | refine aw_ret ?_ | (simp (decide := true) (disch := omega) only [go_sem, ↓reduceIte, ↓put_at])))
        refine call_s Tryd.call19 k3 [] ?_
        (repeat (first | refine aw_seq ?_ | refine aw_block ?_ | refine aw_reg hC (by kernel_rfl) ?_ | refine aw_regd hC Tryd.checked.mixed (by kernel_rfl) ?_ | refine chk_and (by kernel_rfl) ?_ | refine aw_skip ?_ | refine aw_if ?_ | refine And.intro (by first | omega | with_reducible assumption) ?_ | refine aw_exit ?_ | refine aw_ret ?_ | (simp (decide := true) (disch := omega) only [go_sem, ↓reduceIte, ↓put_at])))
        refine gcall_s Tryd.call13 k4 [] ?_
        (repeat (first | refine aw_seq ?_ | refine aw_block ?_ | refine aw_reg hC (by kernel_rfl) ?_ | refine aw_regd hC Tryd.checked.mixed (by kernel_rfl) ?_ | refine chk_and (by kernel_rfl) ?_ | refine aw_skip ?_ | refine aw_if ?_ | refine And.intro (by first | omega | with_reducible assumption) ?_ | refine aw_exit ?_ | refine aw_ret ?_ | (simp (decide := true) (disch := omega) only [go_sem, ↓reduceIte, ↓put_at])))
        (refine ret_s [] ?_; simp (decide := true) (disch := omega) only [go_sem, ↓reduceIte, ↓put_at])
  · rw [if_neg he] at c3
    refine spec_of Tryd.func5 rfl Tryd.ntmps5 Tryd.results5 ⟨by decide, by simp⟩ fun C hC => ?_
    (repeat (first | refine aw_seq ?_ | refine aw_block ?_ | refine aw_reg hC (by kernel_rfl) ?_ | refine aw_regd hC Tryd.checked.mixed (by kernel_rfl) ?_ | refine chk_and (by kernel_rfl) ?_ | refine aw_skip ?_ | refine aw_if ?_ | refine And.intro (by first | omega | with_reducible assumption) ?_ | refine aw_exit ?_ | refine aw_ret ?_ | (simp (decide := true) (disch := omega) only [go_sem, ↓reduceIte, ↓put_at])))
    refine call_s Tryd.call9 law_awake5 [] ?_
    (repeat (first | refine aw_seq ?_ | refine aw_block ?_ | refine aw_reg hC (by kernel_rfl) ?_ | refine aw_regd hC Tryd.checked.mixed (by kernel_rfl) ?_ | refine chk_and (by kernel_rfl) ?_ | refine aw_skip ?_ | refine aw_if ?_ | refine And.intro (by first | omega | with_reducible assumption) ?_ | refine aw_exit ?_ | refine aw_ret ?_ | (simp (decide := true) (disch := omega) only [go_sem, ↓reduceIte, ↓put_at])))
    refine call_s Tryd.call17 c1 [] ?_
    (repeat (first | refine aw_seq ?_ | refine aw_block ?_ | refine aw_reg hC (by kernel_rfl) ?_ | refine aw_regd hC Tryd.checked.mixed (by kernel_rfl) ?_ | refine chk_and (by kernel_rfl) ?_ | refine aw_skip ?_ | refine aw_if ?_ | refine And.intro (by first | omega | with_reducible assumption) ?_ | refine aw_exit ?_ | refine aw_ret ?_ | (simp (decide := true) (disch := omega) only [go_sem, ↓reduceIte, ↓put_at])))
    refine call_s Tryd.call15 c2 [] ?_
    (repeat (first | refine aw_seq ?_ | refine aw_block ?_ | refine aw_reg hC (by kernel_rfl) ?_ | refine aw_regd hC Tryd.checked.mixed (by kernel_rfl) ?_ | refine chk_and (by kernel_rfl) ?_ | refine aw_skip ?_ | refine aw_if ?_ | refine And.intro (by first | omega | with_reducible assumption) ?_ | refine aw_exit ?_ | refine aw_ret ?_ | (simp (decide := true) (disch := omega) only [go_sem, ↓reduceIte, ↓put_at])))
    refine call_s Tryd.call18 c3 [] ?_
    (repeat (first | refine aw_seq ?_ | refine aw_block ?_ | refine aw_reg hC (by kernel_rfl) ?_ | refine aw_regd hC Tryd.checked.mixed (by kernel_rfl) ?_ | refine chk_and (by kernel_rfl) ?_ | refine aw_skip ?_ | refine aw_if ?_ | refine And.intro (by first | omega | with_reducible assumption) ?_ | refine aw_exit ?_ | refine aw_ret ?_ | (simp (decide := true) (disch := omega) only [go_sem, ↓reduceIte, ↓put_at])))
    refine call_s Tryd.call16 c4 [] ?_
    (repeat (first | refine aw_seq ?_ | refine aw_block ?_ | refine aw_reg hC (by kernel_rfl) ?_ | refine aw_regd hC Tryd.checked.mixed (by kernel_rfl) ?_ | refine chk_and (by kernel_rfl) ?_ | refine aw_skip ?_ | refine aw_if ?_ | refine And.intro (by first | omega | with_reducible assumption) ?_ | refine aw_exit ?_ | refine aw_ret ?_ | (simp (decide := true) (disch := omega) only [go_sem, ↓reduceIte, ↓put_at])))
    refine call_s Tryd.call20 k0 [] ?_
    (repeat (first | refine aw_seq ?_ | refine aw_block ?_ | refine aw_reg hC (by kernel_rfl) ?_ | refine aw_regd hC Tryd.checked.mixed (by kernel_rfl) ?_ | refine chk_and (by kernel_rfl) ?_ | refine aw_skip ?_ | refine aw_if ?_ | refine And.intro (by first | omega | with_reducible assumption) ?_ | refine aw_exit ?_ | refine aw_ret ?_ | (simp (decide := true) (disch := omega) only [go_sem, ↓reduceIte, ↓put_at])))
    refine call_s Tryd.call20 k0 [] ?_
    (repeat (first | refine aw_seq ?_ | refine aw_block ?_ | refine aw_reg hC (by kernel_rfl) ?_ | refine aw_regd hC Tryd.checked.mixed (by kernel_rfl) ?_ | refine chk_and (by kernel_rfl) ?_ | refine aw_skip ?_ | refine aw_if ?_ | refine And.intro (by first | omega | with_reducible assumption) ?_ | refine aw_exit ?_ | refine aw_ret ?_ | (simp (decide := true) (disch := omega) only [go_sem, ↓reduceIte, ↓put_at])))
    refine call_s Tryd.call19 k1 [] ?_
    (repeat (first | refine aw_seq ?_ | refine aw_block ?_ | refine aw_reg hC (by kernel_rfl) ?_ | refine aw_regd hC Tryd.checked.mixed (by kernel_rfl) ?_ | refine chk_and (by kernel_rfl) ?_ | refine aw_skip ?_ | refine aw_if ?_ | refine And.intro (by first | omega | with_reducible assumption) ?_ | refine aw_exit ?_ | refine aw_ret ?_ | (simp (decide := true) (disch := omega) only [go_sem, ↓reduceIte, ↓put_at])))
    (refine ret_s [] ?_; simp (decide := true) (disch := omega) only [go_sem, ↓reduceIte, ↓put_at])
end Go.Proofs.YtojcjbaimdjhoaaDoor
