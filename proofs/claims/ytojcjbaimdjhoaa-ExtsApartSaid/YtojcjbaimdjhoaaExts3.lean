
/- Package exts: Parse. -/
import Derived.Test.YtojcjbaimdjhoaaExts2
namespace Go.Proofs.Ytojcjbaimdjhoaa
open Go.RowKit
set_option linter.unusedVariables false
set_option linter.unusedSimpArgs false

/-- What is left, whether it failed, and what was read. -/
def Inv5 (f : Nat) (s : List UInt8) (x : (List UInt8 × Int) × List E5) : Prop := ((x.1.2 = 0 ∧ go5 f s = acc5 x.2 (go5 f x.1.1)) ∨ (x.1.1 = [] ∧ x.1.2 = 2 ∧ go5 f s = ([], 2))) ∧ x.1.1.length + x.2.length ≤ s.length
theorem inv5_step (f : Nat) (s : List UInt8) (b : UInt8) (t : List UInt8) (out : List E5) (h : go5 f s = acc5 out (go5 f (b :: t))) (hl : (b :: t).length + out.length ≤ s.length) (hb : b ≠ 0) (hi : ¬ (id5 f b = 0 ∨ mostId f < (id5 f b : Int))) :
    Inv5 f s ((rawL (rest5 f t) (eof5 f t) (len5 f b t), rawE (rest5 f t) (eof5 f t) (len5 f b t)), out ++ [⟨id5 f b, rawT (rest5 f t) (len5 f b t)⟩]) ∧ (rawL (rest5 f t) (eof5 f t) (len5 f b t)).length < (b :: t).length := by
  have hr := rest5_len f t
  rw [go5_cons, if_neg hb, if_neg hi] at h
  rw [List.length_cons] at hl ⊢
  by_cases hs : short5 f b t
  · rw [if_pos hs] at h
    have hg : go5 f s = ([], 2) := by rw [h]; rfl
    have key : rawL (rest5 f t) (eof5 f t) (len5 f b t) = [] ∧ rawE (rest5 f t) (eof5 f t) (len5 f b t) = 2 := by
      rcases hs with ⟨h1, h2⟩ | h1
      · subst h2
        have e1 : rest5 f [] = [] := by unfold rest5; rw [if_neg h1]; rfl
        have e2 : len5 f b [] = 0 := by unfold len5; rw [if_neg h1]; rfl
        have e3 : eof5 f [] = 2 := by unfold eof5; rw [if_pos ⟨h1, rfl⟩]
        rw [e1, e2, e3]
        exact ⟨rfl, rfl⟩
      · by_cases h2 : f ≠ 1 ∧ t = []
        · obtain ⟨h2, rfl⟩ := h2
          have e2 : len5 f b [] = 0 := by unfold len5; rw [if_neg h2]; rfl
          rw [e2] at h1
          exact absurd h1 (by omega)
        · have e3 : eof5 f t = 0 := by unfold eof5; rw [if_neg h2]
          have hn : ¬ ((len5 f b t : Int) ≤ ((rest5 f t).length : Int)) := by omega
          rw [e3]
          unfold rawL rawE failL failE
          rw [if_neg hn, if_neg hn]
          exact ⟨rfl, rfl⟩
    rw [key.1, key.2]
    exact ⟨⟨.inr ⟨rfl, rfl, hg⟩, by simp; omega⟩, by simp⟩
  · rw [if_neg hs] at h
    have hle : (len5 f b t : Int) ≤ ((rest5 f t).length : Int) := by
      apply Int.ofNat_le.2
      exact Nat.le_of_not_lt (fun h => hs (.inr h))
    have e3 : eof5 f t = 0 := by unfold eof5; rw [if_neg (fun h => hs (.inl h))]
    have e1 : rawL (rest5 f t) 0 (len5 f b t) = (rest5 f t).drop (len5 f b t) := by unfold rawL; rw [if_pos hle]; rfl
    have e2 : rawE (rest5 f t) 0 (len5 f b t) = 0 := by unfold rawE; rw [if_pos hle]
    have e4 : rawT (rest5 f t) (len5 f b t) = (rest5 f t).take (len5 f b t) := by unfold rawT; rw [if_pos hle]; rfl
    rw [e3, e1, e2, e4]
    refine ⟨⟨.inl ⟨rfl, ?_⟩, ?_⟩, ?_⟩
    · dsimp only
      rw [h, acc5_acc]
    · dsimp only
      rw [List.length_drop, List.length_append, List.length_singleton]; omega
    · rw [List.length_drop]; omega
end Go.Proofs.Ytojcjbaimdjhoaa
