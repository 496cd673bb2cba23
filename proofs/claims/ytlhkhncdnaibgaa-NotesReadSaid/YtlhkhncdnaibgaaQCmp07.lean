
/- Pieces compared. -/
import Derived.Test.YtlhkhncdnaibgaaQPiece
import Derived.Test.YtlhkhncdnaibgaaRF
namespace Go.Proofs.Ytlhkhncdnaibgaa
open Go.RowKit
set_option linter.unusedVariables false
set_option linter.unusedSimpArgs false

set_option maxRecDepth 100000 in
theorem pp_eq (a1 b1 : Int) (a2 b2 : Int) (a3 b3 : List UInt8) (w : World) : (binOp .eql 56 (.agg [.int .i64 a1, .int .i64 a2, str a3].toArray) (.agg [.int .i64 b1, .int .i64 b2, str b3].toArray)).run Try.prog w = .ok (.bool (decide (a1 = b1 ∧ a2 = b2 ∧ a3 = b3))) w := by
  by_cases h1 : a1 = b1
  · by_cases h2 : a2 = b2
    · by_cases h3 : a3 = b3
      · subst h1 h2 h3; simp [go_sem]
      · have e : (a3 == b3) = false := by simpa using h3
        simp [go_sem, h1, h2, h3, e]
    · simp [go_sem, h1, h2]
  · simp [go_sem, h1]
set_option maxRecDepth 100000 in
theorem pp_ne (a1 b1 : Int) (a2 b2 : Int) (a3 b3 : List UInt8) (w : World) : (binOp .neq 56 (.agg [.int .i64 a1, .int .i64 a2, str a3].toArray) (.agg [.int .i64 b1, .int .i64 b2, str b3].toArray)).run Try.prog w = .ok (.bool (!decide (a1 = b1 ∧ a2 = b2 ∧ a3 = b3))) w := by
  by_cases h1 : a1 = b1
  · by_cases h2 : a2 = b2
    · by_cases h3 : a3 = b3
      · subst h1 h2 h3; simp [go_sem]
      · have e : (a3 == b3) = false := by simpa using h3
        simp [go_sem, h1, h2, h3, e]
    · simp [go_sem, h1, h2]
  · simp [go_sem, h1]
set_option maxRecDepth 100000 in
theorem rp_eq (a1 b1 : Int) (a2 b2 : Int) (a3 b3 : List UInt8) (w : World) : (binOp .eql 58 (.agg [.int .i64 a1, .int .i64 a2, str a3].toArray) (.agg [.int .i64 b1, .int .i64 b2, str b3].toArray)).run Try.prog w = .ok (.bool (decide (a1 = b1 ∧ a2 = b2 ∧ a3 = b3))) w := by
  by_cases h1 : a1 = b1
  · by_cases h2 : a2 = b2
    · by_cases h3 : a3 = b3
      · subst h1 h2 h3; simp [go_sem]
      · have e : (a3 == b3) = false := by simpa using h3
        simp [go_sem, h1, h2, h3, e]
    · simp [go_sem, h1, h2]
  · simp [go_sem, h1]
set_option maxRecDepth 100000 in
theorem rp_ne (a1 b1 : Int) (a2 b2 : Int) (a3 b3 : List UInt8) (w : World) : (binOp .neq 58 (.agg [.int .i64 a1, .int .i64 a2, str a3].toArray) (.agg [.int .i64 b1, .int .i64 b2, str b3].toArray)).run Try.prog w = .ok (.bool (!decide (a1 = b1 ∧ a2 = b2 ∧ a3 = b3))) w := by
  by_cases h1 : a1 = b1
  · by_cases h2 : a2 = b2
    · by_cases h3 : a3 = b3
      · subst h1 h2 h3; simp [go_sem]
      · have e : (a3 == b3) = false := by simpa using h3
        simp [go_sem, h1, h2, h3, e]
    · simp [go_sem, h1, h2]
  · simp [go_sem, h1]
theorem pc_dec (p q : Pc) : decide (p.1 = q.1 ∧ p.2.1 = q.2.1 ∧ p.2.2 = q.2.2) = decide (p = q) := by
  obtain ⟨a, b, c⟩ := p
  obtain ⟨d, e, f⟩ := q
  simp only [Prod.mk.injEq]
end Go.Proofs.Ytlhkhncdnaibgaa
