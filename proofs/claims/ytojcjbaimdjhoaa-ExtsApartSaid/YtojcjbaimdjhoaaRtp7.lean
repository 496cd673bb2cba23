
/- Layer 4: the reference Parse. -/
import Derived.Test.YtojcjbaimdjhoaaRtp6
namespace Go.Proofs.Ytojcjbaimdjhoaa
open Go.RowKit
set_option linter.unusedVariables false
set_option linter.unusedSimpArgs false

theorem zer_iff (d : List UInt8) (a m : Nat) (h : a + m ≤ d.length) : (d.drop a).take m = List.replicate m 0 ↔ ∀ k, a ≤ k → k < a + m → (d.getD k 0).toNat = 0 := by
  have hl : ((d.drop a).take m).length = m := by rw [List.length_take, List.length_drop]; omega
  constructor
  · intro he k h1 h2
    have : ((d.drop a).take m)[k - a]? = some 0 := by rw [he, List.getElem?_replicate, if_pos (by omega)]
    rw [List.getElem?_take_of_lt (by omega), List.getElem?_drop, show a + (k - a) = k by omega] at this
    rw [List.getD_eq_getElem?_getD, this]
    rfl
  · intro he
    refine List.eq_replicate_iff.2 ⟨hl, fun x hx => ?_⟩
    obtain ⟨i, hi, rfl⟩ := List.mem_iff_getElem.1 hx
    rw [hl] at hi
    have := he (a + i) (by omega) (by omega)
    rw [List.getD_eq_getElem?_getD, List.getElem?_eq_getElem (by omega)] at this
    rw [List.getElem_take, List.getElem_drop]
    exact UInt8.toNat_inj.1 (by simpa using this)
theorem sl_eq (s : List UInt8) (a b : Int) (m k : Nat) (h1 : a = m) (h2 : b = (m + k : Nat)) : (s.drop a.toNat).take (b.toNat - a.toNat) = (s.drop m).take k := by
  rw [show a.toNat = m by omega, show b.toNat - m = k by omega]
end Go.Proofs.Ytojcjbaimdjhoaa
