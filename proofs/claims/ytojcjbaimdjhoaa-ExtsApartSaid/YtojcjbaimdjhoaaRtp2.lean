
/- Package rtp: Pack. -/
import Derived.Test.YtojcjbaimdjhoaaRtp1
namespace Go.Proofs.Ytojcjbaimdjhoaa
open Go.RowKit
set_option linter.unusedVariables false
set_option linter.unusedSimpArgs false

/-- What is not needed any more may be forgotten. -/
theorem weak_s {P : Program} {C : Ctx} {σ : St} {Q : Exit → St → Prop} {c : Code} (L : List (Pl × X)) (hx : weakF σ L) (h : AW P C c (mkSt L) Q) : AW P C c σ Q := aw_weak L (weakF_ok hx) h
theorem tailB_eq (n : Nat) (h : n < 255) : tailB ((n : Int) + 1) = zer n ++ [UInt8.ofNat (n + 1)] := by
  unfold tailB
  rw [if_pos (by omega), show (((n : Int) + 1 - 1).toNat) = n by omega]
  congr 1
  have := put_byte (n + 1) (by omega)
  exact this
end Go.Proofs.Ytojcjbaimdjhoaa
