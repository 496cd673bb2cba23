
/- Library functions of texts and numbers, by contracts of the shelf. -/
import Derived.Test.YtojcjbaimdjhoaaGreatDoorRH
namespace Go.Proofs.YtojcjbaimdjhoaaGreatDoor
open Go.RowKit
set_option linter.unusedVariables false
set_option linter.unusedSimpArgs false

theorem spec_lib {P : Program} {K : FuncId} {us : List Value} {u : Value} (h : ∀ w, Calls P K us.toArray w fun e w' => e = .returned u ∧ Below w.heap.size w w') :
    Spec P K (us.map fun v => .ca (.val (.sc v))) [] (.ca (.val (.sc u))) [] := by
  have : (us.map fun v => (Arg.ca (.val (.sc v)))) = (us.map V.sc).map fun x => .ca (.val x) := by simp
  rw [this]
  refine spec_vals fun m w vals hm hl hv => ?_
  have hv : vals = us := by
    apply List.ext_getElem (by simpa using hl)
    intro j h1 h2
    exact Rd.sc_eq (hv j (.sc us[j]) vals[j] (by rw [List.getElem?_map, List.getElem?_eq_getElem h2]; rfl) (List.getElem?_eq_getElem h1))
  subst hv
  refine (h w).mono ?_
  rintro e w' ⟨rfl, hb⟩
  have hc : Chg Nothing w w' := (Chg.ofBelow hb).mono fun i hi h => by omega
  exact ⟨u, m, rfl, Rd.sc u, Mem.le_refl m, fun b i v h1 => (hc.cell (World.block_lt_of_cell? w _ (hm b i v h1)) id).trans (hm b i v h1), hc, fun b i _ => rfl⟩
end Go.Proofs.YtojcjbaimdjhoaaGreatDoor
