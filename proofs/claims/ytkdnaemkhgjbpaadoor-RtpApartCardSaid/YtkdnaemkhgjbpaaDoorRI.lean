
/- Library functions of texts and numbers, by contracts of the shelf. -/
import Derived.Test.YtkdnaemkhgjbpaaDoorRH
namespace Go.Proofs.YtkdnaemkhgjbpaaDoor
open Go.RowKit
set_option linter.unusedVariables false
set_option linter.unusedSimpArgs false

theorem spec_lib {P : Program} {K : FuncId} {us : List Value} {u : Value} (h : ∀ w, Calls P K us.toArray w fun e w' => e = .returned u ∧ Below w.heap.size w w') :
    Spec P K (us.map fun v => .ca (.val (.sc v))) [] (.ca (.val (.sc u))) [] := by
  intro m w vals bs cvs H
  have hl := H.hl
  rw [List.length_map] at hl
  have hv : vals = us := by
    apply List.ext_getElem hl
    intro j h1 h2
    have := H.ca j (.val (.sc us[j])) vals[j] (by rw [List.getElem?_map, List.getElem?_eq_getElem h2]; rfl) (List.getElem?_eq_getElem h1)
    exact Rd.sc_eq this
  subst hv
  refine (h w).mono ?_
  rintro e w' ⟨rfl, hb⟩
  have hc : Chg Nothing w w' := (Chg.ofBelow hb).mono fun i hi h => by omega
  have hno : ∀ (ws : List Value) (vs : List Value) (x : Rx) (b : Nat), ¬ Ow ws (vs.map fun v => .ca (.val (.sc v))) [] [] [] x b := fun ws vs x b hx => by
    have : (vs.map fun v => (Arg.ca (.val (.sc v)))) = (vs.map V.sc).map fun x => .ca (.val x) := by simp
    rw [this] at hx
    exact no_ow hx
  have hbs : bs = [] := List.eq_nil_of_length_eq_zero H.ol
  have hcvs : cvs = [] := List.eq_nil_of_length_eq_zero H.cl
  subst hbs hcvs
  refine ⟨u, m, [], [], rfl, ?_, Mem.le_refl m, hc.mono fun i _ h => h.elim, fun i b h => by simp at h, fun b i _ _ => rfl, fun x b hx => (hno [u] [u] x b hx).elim⟩
  exact {
    ms := fun b i v hm => by
      have h1 := H.ms b i v hm
      exact (hc.cell (World.block_lt_of_cell? w _ h1) id).trans h1
    hl := rfl
    ol := rfl
    cl := rfl
    ca := fun j c v hj hvj => by
      match j, hj, hvj with
      | 0, hj, hvj => cases hj; cases hvj; exact Rd.sc u
      | j + 1, hj, _ => simp at hj
    pt := fun j i off v hj _ => by
      match j, hj with
      | 0, hj => cases hj
      | j + 1, hj => simp at hj
    ob := fun i b cs vs h => by simp at h
    di := fun x y b hx => (hno [u] [u] x b hx).elim }
end Go.Proofs.YtkdnaemkhgjbpaaDoor
