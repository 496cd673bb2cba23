/- Package buffer: a part; walked. -/
import Derived.Test.YtkclmofjlmeolaaGreatDoorBuf3z
namespace Go.Proofs.YtkclmofjlmeolaaGreatDoor
open Go.RowKit
set_option linter.unusedVariables false
set_option linter.unusedSimpArgs false

set_option maxRecDepth 100000 in
set_option maxHeartbeats 8000000 in
theorem buf_addL (b : Bu) (tf tp tb : Int) (es : List (List T)) (i : Nat) (f : Fr) (hf : f.Ok) (sg : Int) (hs : sg = 1 ∨ sg = -1) (h1 : -1099511627776 ≤ tf ∧ tf ≤ 1099511627776) (h2 : -1099511627776 ≤ tp ∧ tp ≤ 1099511627776) (h3 : -1099511627776 ≤ tb ∧ tb ≤ 1099511627776) :
    Spec Tryz.prog 26 [.ptr 0 3, .ptr 1 0, .ca (.val (vi sg))] [buG b tf tp tb (.hdl (.row 83 1 es) i 1), frO f] (.ca (.val (.tup []))) [buG b (tf + sg) (tp + sg * f.ps.length) (tb + sg * sumP f.ps) (.hdl (.row 83 1 es) i 1), frO f] := by
  have c1 := spl_have f hf
  have c2 := spl_bytes f
  have hl := hf.len
  have hn := hf.n1
  have hsum := hf.sum
  rcases hs with rfl | rfl
  · refine spec_of Tryz.func26 rfl Tryz.ntmps26 Tryz.results26 ⟨by decide, by simp⟩ fun C hC => ?_
    (repeat' ((first | refine sp_ ?_ | exact ex0 | refine call_u Tryz.call62 (c1) [(1001, 0)] ex1 ?_ | refine call_u Tryz.call63 (c2) [(1001, 0)] ex1 ?_ | (refine ret_s [] ?_; simp (decide := true) (disch := omega) only [go_sem, ↓reduceIte, ↓put_at]))))
  · refine spec_of Tryz.func26 rfl Tryz.ntmps26 Tryz.results26 ⟨by decide, by simp⟩ fun C hC => ?_
    (repeat' ((first | refine sp_ ?_ | exact ex0 | refine call_u Tryz.call62 (c1) [(1001, 0)] ex1 ?_ | refine call_u Tryz.call63 (c2) [(1001, 0)] ex1 ?_ | (refine ret_s [] ?_; simp (decide := true) (disch := omega) only [go_sem, ↓reduceIte, ↓put_at]))))
def cmV (k : Int) (e : List Nat) : V := .agg [vi k, .lst 1 (e.map fun t : Nat => [vu t])]
attribute [go_sem] cmV
set_option maxRecDepth 100000 in
set_option maxHeartbeats 8000000 in
theorem buf_put_late (b : Bu) (t : Nat) (i c : Int) (s : List UInt8) (now : Int) (h : (t : Int) ≤ b.hz) (ht : t < 4294967296) : Spec Tryz.prog 10 [.ptr 0 0, .ca (.val (vu t)), .ca (.val (.agg [vi i, vi c])), .ca (.val (vs s)), .ca (.val (vi now))] [buO b] (.ca (.val (cmV 5 []))) [buO b] := by
  refine spec_of Tryz.func10 rfl Tryz.ntmps10 Tryz.results10 ⟨by decide, by simp⟩ fun C hC => ?_
  (repeat' ((first | refine sp_ ?_ | exact ex0 | (refine ret_s [] ?_; simp (decide := true) (disch := omega) only [go_sem, ↓reduceIte, ↓put_at]))))
set_option maxRecDepth 100000 in
set_option maxHeartbeats 8000000 in
theorem buf_put_bad (b : Bu) (t : Nat) (i c : Int) (s : List UInt8) (now : Int) (h : b.hz < t) (hb : badB i c = true) (ht : t < 4294967296) : Spec Tryz.prog 10 [.ptr 0 0, .ca (.val (vu t)), .ca (.val (.agg [vi i, vi c])), .ca (.val (vs s)), .ca (.val (vi now))] [buO b] (.ca (.val (cmV 4 []))) [buO b] := by
  have hb : c < 1 ∨ 255 < c ∨ i < 0 ∨ c ≤ i := of_decide_eq_true hb
  by_cases h1 : c < 1
  · refine spec_of Tryz.func10 rfl Tryz.ntmps10 Tryz.results10 ⟨by decide, by simp⟩ fun C hC => ?_
    (repeat' ((first | refine sp_ ?_ | exact ex0 | (refine ret_s [] ?_; simp (decide := true) (disch := omega) only [go_sem, ↓reduceIte, ↓put_at]))))
  · by_cases h2 : 255 < c
    · refine spec_of Tryz.func10 rfl Tryz.ntmps10 Tryz.results10 ⟨by decide, by simp⟩ fun C hC => ?_
      (repeat' ((first | refine sp_ ?_ | exact ex0 | (refine ret_s [] ?_; simp (decide := true) (disch := omega) only [go_sem, ↓reduceIte, ↓put_at]))))
    · by_cases h3 : i < 0
      · refine spec_of Tryz.func10 rfl Tryz.ntmps10 Tryz.results10 ⟨by decide, by simp⟩ fun C hC => ?_
        (repeat' ((first | refine sp_ ?_ | exact ex0 | (refine ret_s [] ?_; simp (decide := true) (disch := omega) only [go_sem, ↓reduceIte, ↓put_at]))))
      · have h4 : c ≤ i := by omega
        refine spec_of Tryz.func10 rfl Tryz.ntmps10 Tryz.results10 ⟨by decide, by simp⟩ fun C hC => ?_
        (repeat' ((first | refine sp_ ?_ | exact ex0 | (refine ret_s [] ?_; simp (decide := true) (disch := omega) only [go_sem, ↓reduceIte, ↓put_at]))))
end Go.Proofs.YtkclmofjlmeolaaGreatDoor

