/- Layer 4: the references May and Pack, Told, Same, Cut. Layer 4: the reference Parse. Layer 4: Told, Same, Cut. -/
import Derived.Test.YtkclmofjlmeolaaGreatDoorRtp4z
import Derived.Test.YtkclmofjlmeolaaGreatDoorExts1z
import Derived.Test.YtkclmofjlmeolaaGreatDoorQRefZz
import Derived.Test.YtkclmofjlmeolaaGreatDoorRLz
namespace Go.Proofs.YtkclmofjlmeolaaGreatDoor
open Go.RowKit
set_option linter.unusedVariables false
set_option linter.unusedSimpArgs false

end Go.Proofs.YtkclmofjlmeolaaGreatDoor
namespace Go.Proofs.YtkclmofjlmeolaaGreatDoor
open Go.RowKit
set_option linter.unusedVariables false
set_option linter.unusedSimpArgs false

end Go.Proofs.YtkclmofjlmeolaaGreatDoor
namespace Go.Proofs.YtkclmofjlmeolaaGreatDoor
open Go.RowKit
set_option linter.unusedVariables false
set_option linter.unusedSimpArgs false

end Go.Proofs.YtkclmofjlmeolaaGreatDoor

namespace Go.Proofs.YtkclmofjlmeolaaGreatDoor
open Go.RowKit
set_option linter.unusedVariables false
set_option linter.unusedSimpArgs false

end Go.Proofs.YtkclmofjlmeolaaGreatDoor
namespace Go.Proofs.YtkclmofjlmeolaaGreatDoor
open Go.RowKit
set_option linter.unusedVariables false
set_option linter.unusedSimpArgs false

end Go.Proofs.YtkclmofjlmeolaaGreatDoor

namespace Go.Proofs.YtkclmofjlmeolaaGreatDoor
open Go.RowKit
set_option linter.unusedVariables false
set_option linter.unusedSimpArgs false

theorem raw5_count (f : Nat) : ∀ (l : List E5), l.length ≤ (raw5 f l).length
  | [] => by simp
  | x :: l => by
    have ih := raw5_count f l
    have hh : 1 ≤ (head5 f x).length := by
      unfold head5
      split
      · rw [putZ_length]; omega
      · rw [List.length_append, putZ_length, putZ_length]; omega
    unfold raw5 at ih ⊢
    rw [List.flatMap_cons, List.length_append, List.length_cons]
    unfold item5 at ih ⊢
    rw [List.length_append]
    omega
/-- What was read has no more bytes than it was read from. -/
theorem parse5_raw (p : Int) (s : List UInt8) (h : (parse5 p s).2.2 = 0) : (raw5 (formOk (parse5 p s).1) (parse5 p s).2.1).length ≤ s.length := by
  unfold parse5 at h ⊢
  by_cases h1 : formN p = 0
  · rw [if_pos h1] at h; cases h
  rw [if_neg h1] at h ⊢
  by_cases h2 : s.length % 4 ≠ 0
  · rw [if_pos h2] at h; cases h
  rw [if_neg h2] at h ⊢
  by_cases h3 : (go5 (formN p) s).2 = 0
  · rw [if_pos h3]
    obtain ⟨q1, q2, q3⟩ := formN_12 p h1
    obtain ⟨g1, k, g2, g3⟩ := go5_bytes (formN p) q1 s.length s (Nat.le_refl _) h3
    dsimp only
    rw [q3]
    have := congrArg List.length g3
    rw [List.length_append] at this
    omega
  · rw [if_neg h3] at h
    exact absurd h h3
end Go.Proofs.YtkclmofjlmeolaaGreatDoor
namespace Go.Proofs.YtkclmofjlmeolaaGreatDoor
open Go.RowKit
set_option linter.unusedVariables false
set_option linter.unusedSimpArgs false

set_option maxRecDepth 100000 in
set_option maxHeartbeats 8000000 in
theorem clone_u32 (xs : List Int) (hl : xs.length ≤ 1099511627776) : Spec Tryz.prog 38 [.ca (.val (.lst 1 (xs.map u32El)))] [] (.ca (.val (.lst 1 (xs.map u32El)))) [] := by
  refine spec_of Tryz.func38 rfl Tryz.ntmps38 Tryz.results38 ⟨by decide, by simp⟩ fun C hC => ?_
  (repeat (first | refine sp_ ?_ | exact ex0))
  refine nil_s 1 (xs.map u32El) (by simp (decide := true) (disch := omega) only [go_sem, ↓reduceIte, ↓put_at]) (by simp (decide := true) (disch := omega) only [go_sem, ↓reduceIte, ↓put_at]) (fun b hb => ?_)
  cases b with
  | true =>
    have h0 := hb rfl
    rw [h0]
    (repeat (first | refine sp_ ?_ | exact ex0))
    (refine ret_s [] ?_; simp (decide := true) (disch := omega) only [go_sem, ↓reduceIte, ↓put_at])
  | false =>
    (repeat (first | refine sp_ ?_ | exact ex0))
    refine ⟨⟨⟨by omega, by omega, fun r hr => ?_, fun r hr y hy => ?_⟩, by kernel_rfl⟩, ?_⟩
    · obtain ⟨n, _, rfl⟩ := List.mem_map.1 hr
      rfl
    · obtain ⟨n, _, rfl⟩ := List.mem_map.1 hr
      simp [u32El] at hy
      subst hy
      rfl
    (repeat (first | refine sp_ ?_ | exact ex0))
    (refine ret_s [] ?_; simp (decide := true) (disch := omega) only [go_sem, ↓reduceIte, ↓put_at])
/-- The place of the first element of a number. -/
def at5 (l : List E5) (id : Int) : Nat := l.findIdx fun x => decide (x.id = id)
def find5 (l : List E5) (id : Int) : Option (List UInt8) := (l.find? fun x => decide (x.id = id)).map (·.data)
set_option maxRecDepth 100000 in
set_option maxHeartbeats 8000000 in
theorem exts_find1 (x : E5) (id : Int) : Spec Tryz.prog 83 [.ca (.val (.agg (e5L x))), .ptr 0 0] [[.val (vi id)]] (.ca (.val (vb (decide (x.id = id))))) [[.val (vi id)]] := by
  refine spec_of Tryz.func83 rfl Tryz.ntmps83 Tryz.results83 ⟨by decide, by simp⟩ fun C hC => ?_
  by_cases h : x.id = id
  · rw [decide_eq_true h]
    (repeat (first | refine sp_ ?_ | exact ex0))
    (refine ret_s [] ?_; simp (decide := true) (disch := omega) only [go_sem, ↓reduceIte, ↓put_at])
  · rw [decide_eq_false h]
    (repeat (first | refine sp_ ?_ | exact ex0))
    (refine ret_s [] ?_; simp (decide := true) (disch := omega) only [go_sem, ↓reduceIte, ↓put_at])
set_option maxRecDepth 100000 in
set_option maxHeartbeats 8000000 in
theorem index5 (l : List E5) (id : Int) (hl : l.length ≤ maxLen) : Spec Tryz.prog 82 [.ca (.val (.lst 2 (l.map e5El))), .fn 83 [.ptr 0 0]] [[.val (vi id)]] (.ca (.val (vi (if at5 l id < l.length then at5 l id else -1)))) [[.val (vi id)]] := by
  unfold maxLen at hl
  refine spec_of Tryz.func82 rfl Tryz.ntmps82 Tryz.results82 ⟨by decide, by simp⟩ fun C hC => ?_
  (repeat (first | refine sp_ ?_ | exact ex0))
  refine loop_s (α := {j : Nat // j ≤ l.length ∧ ∀ i, (h : i < l.length) → i < j → l[i].id ≠ id}) (fun j => [(.s 0, .av (.val (.lst 2 (l.map e5El)))), (.s 1, .av (.fn 83 [.ptr (1000, 0) 0 0])), (.o (1000, 0), .num 1), (.c (1000, 0) 0, .av (.val (vi id))), (.s 7, .av (.val (vi l.length))), (.s 8, .av (.val (vi j.1)))]) (fun j => l.length - j.1) ⟨0, Nat.zero_le _, fun i _ h => absurd h (by omega)⟩ ?_ (fun j => ?_)
  · simp (decide := true) (disch := omega) only [go_sem, ↓reduceIte, ↓put_at]
  · obtain ⟨j, hj, hn⟩ := j
    dsimp only at hj hn ⊢
    by_cases hlt : j < l.length
    · have c := exts_find1 l[j] id
      by_cases he : l[j].id = id
      · have ha : at5 l id = j := by
          unfold at5
          refine List.findIdx_eq hlt |>.2 ⟨decide_eq_true he, fun i hi => decide_eq_false (hn i (by omega) hi)⟩
        rw [decide_eq_true he] at c
        rw [ha, if_pos hlt]
        (repeat (first | refine sp_ ?_ | exact ex0))
        refine fcall_s Tryz.call83 c [(1000, 0)] [.ptr (1000, 0) 0 0] ?_
        (repeat (first | refine sp_ ?_ | exact ex0))
        (refine ret_s [] ?_; simp (decide := true) (disch := omega) only [go_sem, ↓reduceIte, ↓put_at])
      · rw [decide_eq_false he] at c
        (repeat (first | refine sp_ ?_ | exact ex0))
        refine fcall_s Tryz.call83 c [(1000, 0)] [.ptr (1000, 0) 0 0] ?_
        (repeat (first | refine sp_ ?_ | exact ex0))
        refine next_s (α := {j : Nat // j ≤ l.length ∧ ∀ i, (h : i < l.length) → i < j → l[i].id ≠ id}) ⟨j + 1, hlt, fun i h1 h2 => ?_⟩ ⟨?_, by dsimp only; omega⟩
        · by_cases hij : i = j
          · subst hij; exact he
          · exact hn i h1 (by omega)
        · simp (decide := true) (disch := omega) only [go_sem, ↓reduceIte, ↓put_at]
    · have ha : ¬ at5 l id < l.length := by
        intro h
        have h2 := List.findIdx_getElem (w := h)
        exact hn _ h (by omega) (of_decide_eq_true h2)
      rw [if_neg ha]
      (repeat (first | refine sp_ ?_ | exact ex0))
      (refine ret_s [] ?_; simp (decide := true) (disch := omega) only [go_sem, ↓reduceIte, ↓put_at])
theorem at5_find (l : List E5) (id : Int) : (at5 l id < l.length → ∃ h : at5 l id < l.length, find5 l id = some l[at5 l id].data) ∧ (¬ at5 l id < l.length → find5 l id = none) := by
  constructor
  · intro h
    refine ⟨h, ?_⟩
    unfold find5
    have h1 : l.find? (fun x => decide (x.id = id)) = some l[at5 l id] := by
      rw [List.find?_eq_some_iff_getElem]
      refine ⟨List.findIdx_getElem (w := h), at5 l id, h, rfl, fun j hj => ?_⟩
      simpa using List.not_of_lt_findIdx hj
    rw [h1]; rfl
  · intro h
    unfold find5
    have h1 : l.find? (fun x => decide (x.id = id)) = none := by
      rw [List.find?_eq_none]
      intro x hx he
      apply h
      unfold at5
      exact List.findIdx_lt_length_of_exists ⟨x, hx, he⟩
    rw [h1]; rfl
set_option maxRecDepth 100000 in
set_option maxHeartbeats 8000000 in
theorem exts_find (l : List E5) (id : Int) (hl : l.length ≤ maxLen) : Spec Tryz.prog 56 [.ca (.val (.lst 2 (l.map e5El))), .ca (.val (vi id))] [] (.ca (.val (.tup [vs ((find5 l id).getD []), vb (find5 l id).isSome]))) [] := by
  have c := index5 l id hl
  have ha := at5_find l id
  unfold maxLen at hl
  by_cases h : at5 l id < l.length
  · obtain ⟨_, hf⟩ := ha.1 h
    rw [if_pos h] at c
    rw [hf]
    generalize at5 l id = j at *
    refine spec_of Tryz.func56 rfl Tryz.ntmps56 Tryz.results56 ⟨by decide, by simp⟩ fun C hC => ?_
    (repeat (first | refine sp_ ?_ | exact ex0))
    refine call_s Tryz.call82 c [(3, 0)] ?_
    (repeat (first | refine sp_ ?_ | exact ex0))
    (refine ret_s [] ?_; simp (decide := true) (disch := omega) only [go_sem, ↓reduceIte, ↓put_at])
  · have hf := ha.2 h
    rw [if_neg h] at c
    rw [hf]
    refine spec_of Tryz.func56 rfl Tryz.ntmps56 Tryz.results56 ⟨by decide, by simp⟩ fun C hC => ?_
    (repeat (first | refine sp_ ?_ | exact ex0))
    refine call_s Tryz.call82 c [(3, 0)] ?_
    (repeat (first | refine sp_ ?_ | exact ex0))
    (refine ret_s [] ?_; simp (decide := true) (disch := omega) only [go_sem, ↓reduceIte, ↓put_at])
set_option maxRecDepth 100000 in
set_option maxHeartbeats 8000000 in
theorem exts_of (p : P4) (hl : p.ext.length ≤ 1000000) : Spec Tryz.prog 55 [.ca (.val (.agg (h4L p)))] [] (.ca (.val (.tup [vi (if p.hasExt = true then (parse5 p.profile p.ext).1 else 0), .lst 2 ((if p.hasExt = true then (parse5 p.profile p.ext).2.1 else []).map e5El), vi (if p.hasExt = true then (parse5 p.profile p.ext).2.2 else 0)]))) [] := by
  have c := exts_parse p.profile p.ext hl
  obtain ⟨mk, kd, sq, tm, sr, os, hx, pf, ex, da, pd⟩ := p
  dsimp only at *
  cases hx with
  | true =>
    simp only [if_true]
    refine spec_of Tryz.func55 rfl Tryz.ntmps55 Tryz.results55 ⟨by decide, by simp⟩ fun C hC => ?_
    (repeat (first | refine sp_ ?_ | exact ex0))
    refine call_s Tryz.call81 c [] ?_
    (repeat (first | refine sp_ ?_ | exact ex0))
    (refine ret_s [] ?_; simp (decide := true) (disch := omega) only [go_sem, ↓reduceIte, ↓put_at])
  | false =>
    simp only [Bool.false_eq_true, if_false, List.map_nil]
    refine spec_of Tryz.func55 rfl Tryz.ntmps55 Tryz.results55 ⟨by decide, by simp⟩ fun C hC => ?_
    (repeat (first | refine sp_ ?_ | exact ex0))
    (refine ret_s [] ?_; simp (decide := true) (disch := omega) only [go_sem, ↓reduceIte, ↓put_at])
/-- A header into which elements are put. -/
def into5 (p : P4) (n : Int) (l : List E5) : P4 := if (pack5 n l).2.2 = 0 then { p with hasExt := true, profile := (pack5 n l).1, ext := (pack5 n l).2.1 } else no4
set_option maxRecDepth 100000 in
set_option maxHeartbeats 4000000 in
theorem exts_into (p : P4) (n : Int) (l : List E5) (ho : p.others.length ≤ 1099511627776) (hl : l.length ≤ maxLen) (hr : (raw5 (formOk n) l).length ≤ 1000000000) : Spec Tryz.prog 16 [.ca (.val (.agg (h4L p))), .ca (.val (vi n)), .ca (.val (.lst 2 (l.map e5El)))] [] (.ca (.val (.tup [.agg (h4L (into5 p n l)), vi (pack5 n l).2.2]))) [] := by
  have c1 := exts_pack n l hl hr
  have c2 := clone_u32 p.others ho
  unfold into5
  generalize pack5 n l = R at *
  obtain ⟨q, s, e⟩ := R
  obtain ⟨mk, kd, sq, tm, sr, os, hx, pf, ex, da, pd⟩ := p
  dsimp only at *
  by_cases he : e = 0
  · subst he
    simp only [if_true]
    refine spec_of Tryz.func16 rfl Tryz.ntmps16 Tryz.results16 ⟨by decide, by simp⟩ fun C hC => ?_
    (repeat (first | refine sp_ ?_ | exact ex0))
    refine call_s Tryz.call37 c1 [] ?_
    (repeat (first | refine sp_ ?_ | exact ex0))
    refine call_s Tryz.call38 c2 [] ?_
    (repeat (first | refine sp_ ?_ | exact ex0))
    (refine ret_s [] ?_; simp (decide := true) (disch := omega) only [go_sem, ↓reduceIte, ↓put_at])
  · simp only [if_neg he]
    unfold no4
    refine spec_of Tryz.func16 rfl Tryz.ntmps16 Tryz.results16 ⟨by decide, by simp⟩ fun C hC => ?_
    (repeat (first | refine sp_ ?_ | exact ex0))
    refine call_s Tryz.call37 c1 [] ?_
    (repeat (first | refine sp_ ?_ | exact ex0))
    (refine ret_s [] ?_; simp (decide := true) (disch := omega) only [go_sem, ↓reduceIte, ↓put_at])
end Go.Proofs.YtkclmofjlmeolaaGreatDoor
namespace Go.Proofs.YtkclmofjlmeolaaGreatDoor
open Go.RowKit
set_option linter.unusedVariables false
set_option linter.unusedSimpArgs false

end Go.Proofs.YtkclmofjlmeolaaGreatDoor

namespace Go.Proofs.YtkclmofjlmeolaaGreatDoor
open Go.RowKit
set_option linter.unusedVariables false
set_option linter.unusedSimpArgs false

abbrev m6L (m : M6) : List V := [vu m.src, vh m.seq, vu m.time, vi m.path, vh m.pseq, vi m.idx, vi m.cnt, vs m.data]
set_option maxRecDepth 100000 in
set_option maxHeartbeats 8000000 in
theorem media_may (p q : Int) : Spec Tryz.prog 34 [.ca (.val (.agg [vi p, vh q]))] [] (.ca (.val (vb (decide (1 ≤ p ∧ p ≤ 15))))) [] := by
  by_cases h1 : 1 ≤ p
  · by_cases h2 : p ≤ 15
    · rw [decide_eq_true ⟨h1, h2⟩]
      refine spec_of Tryz.func34 rfl Tryz.ntmps34 Tryz.results34 ⟨by decide, by simp⟩ fun C hC => ?_
      (repeat (first | refine sp_ ?_ | exact ex0))
      (refine ret_s [] ?_; simp (decide := true) (disch := omega) only [go_sem, ↓reduceIte, ↓put_at])
    · rw [decide_eq_false (fun h => h2 h.2)]
      refine spec_of Tryz.func34 rfl Tryz.ntmps34 Tryz.results34 ⟨by decide, by simp⟩ fun C hC => ?_
      (repeat (first | refine sp_ ?_ | exact ex0))
      (refine ret_s [] ?_; simp (decide := true) (disch := omega) only [go_sem, ↓reduceIte, ↓put_at])
  · rw [decide_eq_false (fun h => h1 h.1)]
    refine spec_of Tryz.func34 rfl Tryz.ntmps34 Tryz.results34 ⟨by decide, by simp⟩ fun C hC => ?_
    (repeat (first | refine sp_ ?_ | exact ex0))
    (refine ret_s [] ?_; simp (decide := true) (disch := omega) only [go_sem, ↓reduceIte, ↓put_at])
set_option maxRecDepth 100000 in
set_option maxHeartbeats 8000000 in
theorem media_fits (i c : Int) : Spec Tryz.prog 35 [.ca (.val (.agg [vi i, vi c]))] [] (.ca (.val (vb (decide ((1 ≤ c ∧ c ≤ 255) ∧ 0 ≤ i ∧ i < c))))) [] := by
  by_cases h1 : 1 ≤ c
  · by_cases h2 : c ≤ 255
    · by_cases h3 : 0 ≤ i
      · by_cases h4 : i < c
        · rw [decide_eq_true ⟨⟨h1, h2⟩, h3, h4⟩]
          refine spec_of Tryz.func35 rfl Tryz.ntmps35 Tryz.results35 ⟨by decide, by simp⟩ fun C hC => ?_
          (repeat (first | refine sp_ ?_ | exact ex0))
          (refine ret_s [] ?_; simp (decide := true) (disch := omega) only [go_sem, ↓reduceIte, ↓put_at])
        · rw [decide_eq_false (fun h => h4 h.2.2)]
          refine spec_of Tryz.func35 rfl Tryz.ntmps35 Tryz.results35 ⟨by decide, by simp⟩ fun C hC => ?_
          (repeat (first | refine sp_ ?_ | exact ex0))
          (refine ret_s [] ?_; simp (decide := true) (disch := omega) only [go_sem, ↓reduceIte, ↓put_at])
      · rw [decide_eq_false (fun h => h3 h.2.1)]
        refine spec_of Tryz.func35 rfl Tryz.ntmps35 Tryz.results35 ⟨by decide, by simp⟩ fun C hC => ?_
        (repeat (first | refine sp_ ?_ | exact ex0))
        (refine ret_s [] ?_; simp (decide := true) (disch := omega) only [go_sem, ↓reduceIte, ↓put_at])
    · rw [decide_eq_false (fun h => h2 h.1.2)]
      refine spec_of Tryz.func35 rfl Tryz.ntmps35 Tryz.results35 ⟨by decide, by simp⟩ fun C hC => ?_
      (repeat (first | refine sp_ ?_ | exact ex0))
      (refine ret_s [] ?_; simp (decide := true) (disch := omega) only [go_sem, ↓reduceIte, ↓put_at])
  · rw [decide_eq_false (fun h => h1 h.1.1)]
    refine spec_of Tryz.func35 rfl Tryz.ntmps35 Tryz.results35 ⟨by decide, by simp⟩ fun C hC => ?_
    (repeat (first | refine sp_ ?_ | exact ex0))
    (refine ret_s [] ?_; simp (decide := true) (disch := omega) only [go_sem, ↓reduceIte, ↓put_at])
set_option maxRecDepth 100000 in
set_option maxHeartbeats 8000000 in
theorem media_last (i c : Int) (h1 : -9223372036854775807 ≤ c) (h2 : c ≤ 9223372036854775807) : Spec Tryz.prog 17 [.ca (.val (.agg [vi i, vi c]))] [] (.ca (.val (vb (decide (i = c - 1))))) [] := by
  by_cases h : i = c - 1
  · rw [decide_eq_true h]
    refine spec_of Tryz.func17 rfl Tryz.ntmps17 Tryz.results17 ⟨by decide, by simp⟩ fun C hC => ?_
    (repeat (first | refine sp_ ?_ | exact ex0))
    (refine ret_s [] ?_; simp (decide := true) (disch := omega) only [go_sem, ↓reduceIte, ↓put_at])
  · rw [decide_eq_false h]
    refine spec_of Tryz.func17 rfl Tryz.ntmps17 Tryz.results17 ⟨by decide, by simp⟩ fun C hC => ?_
    (repeat (first | refine sp_ ?_ | exact ex0))
    (refine ret_s [] ?_; simp (decide := true) (disch := omega) only [go_sem, ↓reduceIte, ↓put_at])
set_option maxRecDepth 100000 in
set_option maxHeartbeats 8000000 in
theorem media_check (m : M6) (hl : m.data.length ≤ maxLen) : Spec Tryz.prog 13 [.ca (.val (.agg (m6L m)))] [] (.ca (.val (vi (if may6 m = true then 0 else 6)))) [] := by
  obtain ⟨M, hM⟩ : ∃ M, M = may6 m := ⟨_, rfl⟩
  rw [← hM]
  unfold may6 at hM
  unfold maxLen at hl
  have c1 := media_may m.path m.pseq
  have c2 := media_fits m.idx m.cnt
  obtain ⟨sr, sq, tm, pa, ps, ix, ct, da⟩ := m
  dsimp only at *
  by_cases h1 : 1 ≤ pa ∧ pa ≤ 15
  · rw [decide_eq_true h1] at c1
    by_cases h2 : (1 ≤ ct ∧ ct ≤ 255) ∧ 0 ≤ ix ∧ ix < ct
    · rw [decide_eq_true h2] at c2
      by_cases h3 : da.length ≤ 1472
      · rw [decide_eq_true ⟨h1, h2.1, h2.2, h3⟩] at hM
        subst hM
        rw [if_pos rfl]
        refine spec_of Tryz.func13 rfl Tryz.ntmps13 Tryz.results13 ⟨by decide, by simp⟩ fun C hC => ?_
        (repeat (first | refine sp_ ?_ | exact ex0))
        refine call_s Tryz.call34 c1 [] ?_
        (repeat (first | refine sp_ ?_ | exact ex0))
        refine gcall_s Tryz.call35 c2 [] ?_
        (repeat (first | refine sp_ ?_ | exact ex0))
        (refine ret_s [] ?_; simp (decide := true) (disch := omega) only [go_sem, ↓reduceIte, ↓put_at])
      · rw [decide_eq_false (fun h => h3 h.2.2.2)] at hM
        subst hM
        rw [if_neg (by decide)]
        refine spec_of Tryz.func13 rfl Tryz.ntmps13 Tryz.results13 ⟨by decide, by simp⟩ fun C hC => ?_
        (repeat (first | refine sp_ ?_ | exact ex0))
        refine call_s Tryz.call34 c1 [] ?_
        (repeat (first | refine sp_ ?_ | exact ex0))
        refine gcall_s Tryz.call35 c2 [] ?_
        (repeat (first | refine sp_ ?_ | exact ex0))
        (refine ret_s [] ?_; simp (decide := true) (disch := omega) only [go_sem, ↓reduceIte, ↓put_at])
    · rw [decide_eq_false h2] at c2
      rw [decide_eq_false (fun h => h2 ⟨h.2.1, h.2.2.1⟩)] at hM
      subst hM
      rw [if_neg (by decide)]
      refine spec_of Tryz.func13 rfl Tryz.ntmps13 Tryz.results13 ⟨by decide, by simp⟩ fun C hC => ?_
      (repeat (first | refine sp_ ?_ | exact ex0))
      refine call_s Tryz.call34 c1 [] ?_
      (repeat (first | refine sp_ ?_ | exact ex0))
      refine gcall_s Tryz.call35 c2 [] ?_
      (repeat (first | refine sp_ ?_ | exact ex0))
      (refine ret_s [] ?_; simp (decide := true) (disch := omega) only [go_sem, ↓reduceIte, ↓put_at])
  · rw [decide_eq_false h1] at c1
    rw [decide_eq_false (fun h => h1 h.1)] at hM
    subst hM
    rw [if_neg (by decide)]
    refine spec_of Tryz.func13 rfl Tryz.ntmps13 Tryz.results13 ⟨by decide, by simp⟩ fun C hC => ?_
    (repeat (first | refine sp_ ?_ | exact ex0))
    refine call_s Tryz.call34 c1 [] ?_
    (repeat (first | refine sp_ ?_ | exact ex0))
    (refine ret_s [] ?_; simp (decide := true) (disch := omega) only [go_sem, ↓reduceIte, ↓put_at])
set_option maxRecDepth 100000 in
set_option maxHeartbeats 4000000 in
theorem media_pack (m : M6) (ho : m.Ok) (hl : m.data.length ≤ maxLen) : Spec Tryz.prog 7 [.ca (.val (.agg (m6L m)))] [] (.ca (.val (vs (pack6 m)))) [] := by
  have c0 := media_check m hl
  cases hm : may6 m with
  | false =>
    rw [(pack6_nil m).2 hm]
    rw [hm, if_neg (by decide)] at c0
    obtain ⟨sr, sq, tm, pa, ps, ix, ct, da⟩ := m
    refine spec_of Tryz.func7 rfl Tryz.ntmps7 Tryz.results7 ⟨by decide, by simp⟩ fun C hC => ?_
    (repeat (first | refine sp_ ?_ | exact ex0))
    refine call_s Tryz.call13 c0 [] ?_
    (repeat (first | refine sp_ ?_ | exact ex0))
    (refine ret_s [] ?_; simp (decide := true) (disch := omega) only [go_sem, ↓reduceIte, ↓put_at])
  | true =>
    have hp : pack6 m = sealB (head6 m) m.data := by unfold pack6; rw [if_pos hm]
    rw [hm, if_pos rfl] at c0
    obtain ⟨⟨m1, m2⟩, ⟨m3, m4⟩, ⟨m5, m6⟩, m7⟩ := (may6_iff m).1 hm
    have ho' := ho
    obtain ⟨o1, o2, o3, o4⟩ := ho
    have k1 := out_u8 [] [m.path] (by simp)
    have k2 := out_u16 (putZ m.path 1) [m.pseq] (by rw [putZ_length]; simp)
    have k3 := out_u8 [] [m.idx, m.cnt] (by simp)
    have z1 : putZ m.path 1 ++ puts' 2 [m.pseq] = putZ m.path 1 ++ putZ m.pseq 2 := by simp [puts']
    have z2 : [] ++ puts' 1 [m.path] = putZ m.path 1 := by simp [puts']
    have z3 : [] ++ puts' 1 [m.idx, m.cnt] = putZ m.idx 1 ++ putZ m.cnt 1 := by simp [puts']
    rw [z2] at k1
    rw [z1] at k2
    rw [z3] at k3
    have k4 := media_last m.idx m.cnt (by omega) (by omega)
    have k5 := out_bytes (putZ m.path 1 ++ putZ m.pseq 2) (by rw [List.length_append, putZ_length, putZ_length]; omega)
    have k6 := out_bytes (putZ m.idx 1 ++ putZ m.cnt 1) (by rw [List.length_append, putZ_length, putZ_length]; omega)
    have k7 := exts_into ⟨decide (m.idx = m.cnt - 1), 96, m.seq, m.time, m.src, [], false, 0, [], [], 0⟩ 1 (els6 m [0, 0, 0, 0]) (by simp) (by unfold els6 maxLen; simp) (by
      have e : formOk 1 = 1 := rfl
      have := ext6_len m [0, 0, 0, 0] rfl
      unfold bytes5 at this
      rw [List.length_append] at this
      rw [e]; omega)
    unfold into5 at k7
    rw [packx6 m [0, 0, 0, 0] rfl] at k7
    dsimp only at k7
    rw [if_pos rfl] at k7
    have k8 := rtp_pack (pk6 m [0, 0, 0, 0]) (okp6 m _ ho') (by
      have h1 := ext6_len m [0, 0, 0, 0] rfl
      have h2 : (pk6 m [0, 0, 0, 0]).ext = bytes5 1 (els6 m [0, 0, 0, 0]) := rfl
      rw [h2, h1]; decide) (by
      have h2 : (pk6 m [0, 0, 0, 0]).data = m.data := rfl
      rw [h2]; omega)
    have k9 : pack4 (pk6 m [0, 0, 0, 0]) = plain6 m [0, 0, 0, 0] := by
      unfold pack4
      rw [if_pos (mayp6 m _ rfl), body6 m _ rfl]
      rfl
    rw [k9] at k8
    have k10 := crc_seal (plain6 m [0, 0, 0, 0]) 24 (by rw [plain6_len m _ rfl]; omega)
    have k11 : sealOk (plain6 m [0, 0, 0, 0]) 24 = true := decide_eq_true (by rw [plain6_len m _ rfl]; omega)
    rw [seal6, k11] at k10
    rw [hp]
    generalize sealB (head6 m) m.data = S at *
    generalize plain6 m [0, 0, 0, 0] = Q at *
    unfold pk6 at k8
    unfold els6 at k7 k8
    generalize bytes5 1 _ = X at *
    clear hp k9 hm
    obtain ⟨sr, sq, tm, pa, ps, ix, ct, da⟩ := m
    dsimp only at *
    refine spec_of Tryz.func7 rfl Tryz.ntmps7 Tryz.results7 ⟨by decide, by simp⟩ fun C hC => ?_
    (repeat (first | refine sp_ ?_ | exact ex0))
    refine call_s Tryz.call13 c0 [] ?_
    (repeat (first | refine sp_ ?_ | exact ex0))
    refine call_s Tryz.call14 k1 [(3, 0)] ?_
    (repeat (first | refine sp_ ?_ | exact ex0))
    refine call_s Tryz.call15 k2 [(3, 0)] ?_
    (repeat (first | refine sp_ ?_ | exact ex0))
    refine call_s Tryz.call14 k3 [(4, 0)] ?_
    (repeat (first | refine sp_ ?_ | exact ex0))
    refine call_s Tryz.call17 k4 [] ?_
    (repeat (first | refine sp_ ?_ | exact ex0))
    refine call_s Tryz.call18 k5 [(3, 0)] ?_
    (repeat (first | refine sp_ ?_ | exact ex0))
    refine call_s Tryz.call18 k6 [(4, 0)] ?_
    (repeat (first | refine sp_ ?_ | exact ex0))
    refine call_s Tryz.call16 k7 [] ?_
    (repeat (first | refine sp_ ?_ | exact ex0))
    refine call_s Tryz.call20 k8 [] ?_
    (repeat (first | refine sp_ ?_ | exact ex0))
    refine call_s Tryz.call19 k10 [] ?_
    (repeat (first | refine sp_ ?_ | exact ex0))
    (refine ret_s [] ?_; simp (decide := true) (disch := omega) only [go_sem, ↓reduceIte, ↓put_at])
end Go.Proofs.YtkclmofjlmeolaaGreatDoor

