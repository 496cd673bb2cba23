/- Package split: data in parts; walked. -/
import Derived.Test.YtkclmofjlmeolaaGreatDoorFrmMz
import Derived.Test.YtkclmofjlmeolaaGreatDoorBufSz
import Derived.Test.YtkclmofjlmeolaaGreatDoorBuf3z
import Derived.Test.YtkclmofjlmeolaaGreatDoorQInz
import Derived.Test.YtkclmofjlmeolaaGreatDoorBuf7z
namespace Go.Proofs.YtkclmofjlmeolaaGreatDoor
open Go.RowKit
set_option linter.unusedVariables false
set_option linter.unusedSimpArgs false

set_option maxRecDepth 100000 in
set_option maxHeartbeats 4000000 in
theorem spl_split (d : List UInt8) (n : Int) (sz : Nat) (hs : (sz : Int) = max 1 (min n 1472)) (hd : d.length ≤ sz * 255) : Spec Tryz.prog 5 [.ca (.val (vs d)), .ca (.val (vi n))] [] (.ca (.val (.lst 1 ((chop sz d).map fun s => [vs s])))) [] := by
  have hz1 : 1 ≤ sz := by omega
  have hz2 : sz ≤ 1472 := by omega
  obtain ⟨R, hR⟩ : ∃ R, R = chop sz d := ⟨_, rfl⟩
  rw [← hR]
  refine spec_of Tryz.func5 rfl Tryz.ntmps5 Tryz.results5 ⟨by decide, by simp⟩ fun C hC => ?_
  (repeat' ((fail_if_success (first | refine stop_at 2 ?_ | refine stop_l 2 ?_)); (first | refine sp_ ?_ | exact ex0 | (refine ret_s [] ?_; simp (decide := true) (disch := omega) only [go_sem, ↓reduceIte, ↓put_at]))))
  rw [← hs]
  clear hs
  (repeat' ((fail_if_success (refine stop_reg 5 ?_)); (first | refine sp_ ?_ | exact ex0 | (refine ret_s [] ?_; simp (decide := true) (disch := omega) only [go_sem, ↓reduceIte, ↓put_at]))))
  refine own_s 5 (5, 1) 9 1 ?_
  simp (decide := true) (disch := omega) only [go_sem, ↓reduceIte, ↓put_at]
  refine loop_s (α := {x : List (List UInt8) × List UInt8 // R = x.1 ++ chop sz x.2 ∧ x.2.length ≤ d.length ∧ x.1.length + x.2.length ≤ d.length}) (fun x => [(.k (5, 1), .row 9 1 x.1.1.length), (.s 5, .av (.own (5, 1) 0 9 1 (x.1.1.map fun s => [vs s]))), (.s 0, .av (.val (vs x.1.2))), (.s 1, .av (.val (vi sz)))]) (fun x => x.1.2.length) ⟨([], d), hR, Nat.le_refl _, by simp⟩ ?_ (fun x => ?_)
  · simp (decide := true) (disch := omega) only [go_sem, ↓reduceIte, ↓put_at]
  obtain ⟨⟨a, r⟩, h1, h2, h3⟩ := x
  dsimp only at h1 h2 h3 ⊢
  by_cases hlt : sz < r.length
  · have hltz : (sz : Int) < r.length := by omega
    (repeat' ((first | refine sp_ ?_ | exact ex0 | (refine ret_s [] ?_; simp (decide := true) (disch := omega) only [go_sem, ↓reduceIte, ↓put_at]))))
    refine next_s (α := {x : List (List UInt8) × List UInt8 // R = x.1 ++ chop sz x.2 ∧ x.2.length ≤ d.length ∧ x.1.length + x.2.length ≤ d.length}) ⟨(a ++ [r.take sz], r.drop sz), by rw [h1, chop_more (by omega) hlt, List.append_assoc]; rfl, by (try dsimp only); rw [List.length_drop]; omega, by (try dsimp only); rw [List.length_append, List.length_drop]; simp; omega⟩ ⟨?_, by (try dsimp only); rw [List.length_drop]; omega⟩
    (try dsimp only)
    simp (decide := true) (disch := omega) only [go_sem, ↓reduceIte, ↓put_at]
    rw [List.map_append]
    first | rfl | exact ⟨rfl, rfl⟩
  · have hge : (r.length : Int) ≤ sz := by omega
    rw [chop_last (by omega)] at h1
    subst h1
    rw [List.map_append]
    (repeat' ((first | refine sp_ ?_ | exact ex0 | (refine ret_s [] ?_; simp (decide := true) (disch := omega) only [go_sem, ↓reduceIte, ↓put_at]))))
end Go.Proofs.YtkclmofjlmeolaaGreatDoor

namespace Go.Proofs.YtkclmofjlmeolaaGreatDoor
open Go.RowKit
set_option linter.unusedVariables false
set_option linter.unusedSimpArgs false

end Go.Proofs.YtkclmofjlmeolaaGreatDoor

namespace Go.Proofs.YtkclmofjlmeolaaGreatDoor
open Go.RowKit
set_option linter.unusedVariables false
set_option linter.unusedSimpArgs false

abbrev prL (p : Int × List UInt8) : List V := [vi p.1, vs p.2]
def prE (p : Int × List UInt8) : List V := prL p
attribute [go_sem] prE
end Go.Proofs.YtkclmofjlmeolaaGreatDoor

namespace Go.Proofs.YtkclmofjlmeolaaGreatDoor
open Go.RowKit
set_option linter.unusedVariables false
set_option linter.unusedSimpArgs false

end Go.Proofs.YtkclmofjlmeolaaGreatDoor

namespace Go.Proofs.YtkclmofjlmeolaaGreatDoor
open Go.RowKit
set_option linter.unusedVariables false
set_option linter.unusedSimpArgs false

end Go.Proofs.YtkclmofjlmeolaaGreatDoor

namespace Go.Proofs.YtkclmofjlmeolaaGreatDoor
open Go.RowKit
set_option linter.unusedVariables false
set_option linter.unusedSimpArgs false

set_option maxRecDepth 100000 in
set_option maxHeartbeats 8000000 in
theorem cut24 (s : List UInt8) (n : Nat) (hn : n ≤ 1048576) (hs : s.length ≤ maxLen) : Spec Tryz.prog 6 [.ca (.val (vs s)), .ca (.val (vi n))] [] (.ca (.val (vs (s.take n)))) [] := by
  by_cases h : n < s.length
  · refine spec_of Tryz.func6 rfl Tryz.ntmps6 Tryz.results6 ⟨by decide, by simp⟩ fun C hC => ?_
    (repeat' ((first | refine sp_ ?_ | exact ex0 | (refine ret_s [] ?_; simp (decide := true) (disch := omega) only [go_sem, ↓reduceIte, ↓put_at]))))
  · rw [List.take_of_length_le (by omega)]
    refine spec_of Tryz.func6 rfl Tryz.ntmps6 Tryz.results6 ⟨by decide, by simp⟩ fun C hC => ?_
    (repeat' ((first | refine sp_ ?_ | exact ex0 | (refine ret_s [] ?_; simp (decide := true) (disch := omega) only [go_sem, ↓reduceIte, ↓put_at]))))
end Go.Proofs.YtkclmofjlmeolaaGreatDoor

