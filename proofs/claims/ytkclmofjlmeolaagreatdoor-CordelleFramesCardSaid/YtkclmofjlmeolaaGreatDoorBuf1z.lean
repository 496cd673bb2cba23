/- Package buffer: counts, the first one taken away; walked. -/
import Derived.Test.YtkclmofjlmeolaaGreatDoorBufSz
import Derived.Test.YtkclmofjlmeolaaGreatDoorSpl2z
import Derived.Test.YtkclmofjlmeolaaGreatDoorSlFz
namespace Go.Proofs.YtkclmofjlmeolaaGreatDoor
open Go.RowKit
set_option linter.unusedVariables false
set_option linter.unusedSimpArgs false

/-- A buffer's cells, its list as told. -/
def buG (b : Bu) (tf tp tb : Int) (c : CA) : List CA := [.val (vi b.cf), .val (vi b.cp), .val (vi b.cb), .val (vi tf), .val (vi tp), .val (vi tb), c, .val (vi b.hz), .val (vi b.pl), .val (vi b.dr), .val (vi b.ev)]
attribute [go_sem] buG
def rowF (l : List Fr) : T := .row 83 1 (l.map fun f => [.box (frT f)])
/-- A buffer's cells. -/
def buO (b : Bu) : List CA := buG b b.l.length (pkts b.l) (bts b.l) (.hd (rowF b.l))
attribute [go_sem] buO rowF
set_option maxRecDepth 100000 in
set_option maxHeartbeats 8000000 in
theorem buf_clip1 (n m : Int) : Spec Tryz.prog 33 [.ca (.val (vi n)), .ca (.val (vi m))] [] (.ca (.val (vi (max 1 (min n m))))) [] := by
  refine spec_of Tryz.func33 rfl Tryz.ntmps33 Tryz.results33 ⟨by decide, by simp⟩ fun C hC => ?_
  (repeat' ((first | refine sp_ ?_ | exact ex0 | (refine ret_s [] ?_; simp (decide := true) (disch := omega) only [go_sem, ↓reduceIte, ↓put_at]))))
set_option maxRecDepth 100000 in
set_option maxHeartbeats 8000000 in
theorem buf_clip (a b c : Int) : Spec Tryz.prog 12 [.ca (.val (.agg [vi a, vi b, vi c]))] [] (.ca (.val (.agg [vi (max 1 (min a 1024)), vi (max 1 (min b 65536)), vi (max 1 (min c 67108864))]))) [] := by
  have c1 := buf_clip1 a 1024
  have c2 := buf_clip1 b 65536
  have c3 := buf_clip1 c 67108864
  refine spec_of Tryz.func12 rfl Tryz.ntmps12 Tryz.results12 ⟨by decide, by simp⟩ fun C hC => ?_
  (repeat' ((first | refine sp_ ?_ | exact ex0 | refine call_u Tryz.call33 (c1) [] ex1 ?_ | refine call_u Tryz.call33 (c2) [] ex1 ?_ | refine call_u Tryz.call33 (c3) [] ex1 ?_ | (refine ret_s [] ?_; simp (decide := true) (disch := omega) only [go_sem, ↓reduceIte, ↓put_at]))))
set_option maxRecDepth 100000 in
set_option maxHeartbeats 8000000 in
theorem buf_new (a b c : Int) : Spec Tryz.prog 4 [.ca (.val (.agg [vi a, vi b, vi c]))] [] (.ptr 0 0) [buO (newB24 a b c)] := by
  have c1 := buf_clip a b c
  unfold buO newB24 rowF
  dsimp only
  rw [List.map_nil, show ((([] : List Fr).length : Nat) : Int) = 0 from rfl, show ((pkts [] : Nat) : Int) = 0 from rfl, show ((bts [] : Nat) : Int) = 0 from rfl]
  refine spec_of Tryz.func4 rfl Tryz.ntmps4 Tryz.results4 ⟨by decide, by simp⟩ fun C hC => ?_
  (repeat' ((first | refine sp_ ?_ | exact ex0 | refine call_u Tryz.call12 (c1) [] ex1 ?_ | (refine ret_s [(6, 0)] ?_; simp (decide := true) (disch := omega) only [go_sem, ↓reduceIte, ↓put_at]))))
set_option maxRecDepth 100000 in
set_option maxHeartbeats 8000000 in
theorem buf_add (b : Bu) (tf tp tb : Int) (es : List (List V)) (f : Fr) (hf : f.Ok) (sg : Int) (hs : sg = 1 ∨ sg = -1) (h1 : -1099511627776 ≤ tf ∧ tf ≤ 1099511627776) (h2 : -1099511627776 ≤ tp ∧ tp ≤ 1099511627776) (h3 : -1099511627776 ≤ tb ∧ tb ≤ 1099511627776) :
    Spec Tryz.prog 26 [.ptr 0 3, .ptr 1 0, .ca (.val (vi sg))] [buG b tf tp tb (.hd (.rw 83 1 es)), frO f] (.ca (.val (.tup []))) [buG b (tf + sg) (tp + sg * f.ps.length) (tb + sg * sumP f.ps) (.hd (.rw 83 1 es)), frO f] := by
  have c1 := spl_have f hf
  have c2 := spl_bytes f
  have hl := hf.len
  have hn := hf.n1
  have hsum := hf.sum
  rcases hs with rfl | rfl
  · refine spec_of Tryz.func26 rfl Tryz.ntmps26 Tryz.results26 ⟨by decide, by simp⟩ fun C hC => ?_
    (repeat' ((first | refine sp_ ?_ | exact ex0 | refine call_u Tryz.call62 (c1) [(1001, 0)] ex1 ?_ | refine call_u Tryz.call63 (c2) [(1001, 0)] ex1 ?_ | (refine ret_s [] ?_; simp (decide := true) (disch := omega) only [go_sem, ↓reduceIte, ↓put_at]))))
  · refine spec_of Tryz.func26 rfl Tryz.ntmps26 Tryz.results26 ⟨by decide, by simp⟩ fun C hC => ?_
    (repeat' ((first | refine sp_ ?_ | exact ex0 | refine call_u Tryz.call62 (c1) [(1001, 0)] ex1 ?_ | refine call_u Tryz.call63 (c2) [(1001, 0)] ex1 ?_ | (refine ret_s [] ?_; simp (decide := true) (disch := omega) only [go_sem, ↓reduceIte, ↓put_at]))))
end Go.Proofs.YtkclmofjlmeolaaGreatDoor

