
/- Package rtp: unpad. -/
import Derived.Test.YtojcjbaimdjhoaaRtp2
import Derived.Lib.TrimByte
namespace Go.Proofs.Ytojcjbaimdjhoaa
open Go.RowKit
set_option linter.unusedVariables false
set_option linter.unusedSimpArgs false

theorem drop_while_nil (l : List UInt8) (h : l.dropWhile (· == 0) = []) : ∀ x ∈ l, x = 0 := by
  induction l with
  | nil => intro x hx; simp at hx
  | cons a l ih =>
    rw [List.dropWhile_cons] at h
    split at h
    · rename_i ha
      intro x hx
      rcases List.mem_cons.1 hx with rfl | hx
      · simpa using ha
      · exact ih h x hx
    · cases h
theorem take_while_all (l : List UInt8) : ∀ x ∈ l.takeWhile (· == 0), x = 0 := by
  induction l with
  | nil => intro x hx; simp at hx
  | cons a l ih =>
    intro x hx
    rw [List.takeWhile_cons] at hx
    split at hx
    · rename_i ha
      rcases List.mem_cons.1 hx with rfl | hx
      · simpa using ha
      · exact ih x hx
    · simp at hx
theorem trim_nil (l : List UInt8) : Lib.trimB l 0 = [] ↔ l = List.replicate l.length 0 := by
  unfold Lib.trimB Lib.trimLeftB Lib.trimRightB
  constructor
  · intro h
    have h1 := drop_while_nil _ h
    have hall : ∀ x ∈ l, x = 0 := by
      intro x hx
      have hx' : x ∈ l.reverse := List.mem_reverse.2 hx
      rw [← List.takeWhile_append_dropWhile (p := (· == 0)) (l := l.reverse)] at hx'
      rcases List.mem_append.1 hx' with g | g
      · exact take_while_all _ x g
      · exact h1 x (List.mem_reverse.2 g)
    exact List.eq_replicate_iff.2 ⟨rfl, hall⟩
  · intro h
    have hz : ∀ n : Nat, (List.replicate n (0 : UInt8)).dropWhile (· == 0) = [] := by
      intro n
      induction n with
      | zero => rfl
      | succ n ih => rw [List.replicate_succ, List.dropWhile_cons_of_pos (by rfl)]; exact ih
    rw [h, List.reverse_replicate, hz]
    rfl
end Go.Proofs.Ytojcjbaimdjhoaa
