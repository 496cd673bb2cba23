
/- Where ways meet. -/
import Derived.Test.YtojcjbaimdjhoaaGreatDoorRF
namespace Go.Proofs.YtojcjbaimdjhoaaGreatDoor
open Go.RowKit
set_option linter.unusedVariables false
set_option linter.unusedSimpArgs false

theorem bne_same (b : Bool) : (b != b) = false := by cases b <;> rfl
theorem beq_same (b : Bool) : (b == b) = true := by cases b <;> rfl
attribute [go_sem] bne_same beq_same
section
variable {P : Program} {C : Ctx} {σ : St} {Q : Exit → St → Prop}
/-- A walk may stop ahead of a statement that begins with this region. -/
theorem stop_reg (n : Nat) {l : Array Oper} {d : Bool} {x y : Code} (h : AW P C (.seq (.seq (.region n l d) x) y) σ Q) : AW P C (.seq (.seq (.region n l d) x) y) σ Q := h
/-- What holds where ways meet. -/
def MeetS {α : Type} (I : α → List (Pl × X)) (σ : St) : Prop := ∃ y, weakF σ (I y)
theorem at_meet {α : Type} {I : α → List (Pl × X)} (y : α) (h : weakF σ (I y)) : MeetS I σ := ⟨y, h⟩
theorem meet_s {α : Type} {x y : Code} (I : α → List (Pl × X)) (h1 : AW P C x σ (thenQ (MeetS I) Q)) (h2 : ∀ a, AW P C y (mkSt (I a)) Q) : AW P C (.seq x y) σ Q :=
  aw_seq fun E a w hg => by
    refine Code.wp_mono (fun e a' w' hq => ?_) (h1 E a w hg)
    obtain ⟨E', σ', h3, h4⟩ := hq
    refine ⟨E', σ', ?_, h4⟩
    cases e with
    | normal => obtain ⟨z, h5⟩ := h3; exact aw_weak (I z) (weakF_ok h5) (h2 z)
    | _ => exact h3
end
end Go.Proofs.YtojcjbaimdjhoaaGreatDoor
