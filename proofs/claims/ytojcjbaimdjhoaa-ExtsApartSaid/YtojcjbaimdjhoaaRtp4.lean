
/- Package rtp: Parse. -/
import Derived.Test.YtojcjbaimdjhoaaRtp3
namespace Go.Proofs.Ytojcjbaimdjhoaa
open Go.RowKit
set_option linter.unusedVariables false
set_option linter.unusedSimpArgs false

theorem goX_len (T : Nat) (l : List UInt8) : (goX T l).1.length ≤ l.length := by
  unfold goX
  split
  · simp
  · simp
theorem go8 (s : List UInt8) (T : Nat) (h : s.length ≤ maxLen) : Spec Try.prog 21 [.ptr 0 0] [inO (goX T s).1 (goX T s).2] (.ca (.val (vi (vl 1 (goX T s))))) [inO (goX (T + 1) s).1 (goX (T + 1) s).2] := by
  have := rd8 (goX T s) (Nat.le_trans (goX_len T s) h)
  rwa [goX_nx 1 T s (by decide)] at this
def rdO (s : List UInt8) (n : Nat) : List Int := (List.range n).map fun i => vl 4 (goX (12 + 4 * i) s)
theorem rdO_succ (s : List UInt8) (n : Nat) : rdO s (n + 1) = rdO s n ++ [vl 4 (goX (12 + 4 * n) s)] := by
  unfold rdO
  rw [List.range_succ, List.map_append]
  rfl
theorem rdO_len (s : List UInt8) (n : Nat) : (rdO s n).length = n := by simp [rdO]
theorem rdO_eq (s : List UInt8) (n : Nat) (h : 12 + 4 * n ≤ s.length) : rdO s n = wds n (s.drop 12) := by
  unfold rdO wds
  apply List.map_congr_left
  intro i hi
  have := List.mem_range.1 hi
  rw [goX_vl 4 _ s (by omega), List.drop_drop]
/-- What is left ahead of the data. -/
def r9 (s : List UInt8) : List UInt8 × Int := if hasX s = true then (rawL (goX (oth s + 4) s).1 (goX (oth s + 4) s).2 (4 * vl 2 (goX (oth s + 2) s)), rawE (goX (oth s + 4) s).1 (goX (oth s + 4) s).2 (4 * vl 2 (goX (oth s + 2) s))) else goX (oth s) s
def bad4 (s : List UInt8) : Prop := s.length < oth s ∨ (hasX s = true ∧ (s.length < oth s + 4 ∨ s.length < atD s))
theorem r9_bad (s : List UInt8) (h : bad4 s) : r9 s = ([], 2) := by
  unfold r9
  have key : ∀ n : Int, 0 ≤ n → (rawL ([] : List UInt8) 2 n, rawE ([] : List UInt8) 2 n) = ([], 2) := by
    intro n hn
    unfold rawL rawE failL failE
    by_cases h0 : n ≤ (([] : List UInt8).length : Int)
    · rw [if_pos h0, if_pos h0]; simp
    · rw [if_neg h0, if_neg h0]; simp
  by_cases hx : hasX s = true
  · rw [if_pos hx]
    by_cases h4 : s.length < oth s + 4
    · have e : goX (oth s + 4) s = ([], 2) := by unfold goX; rw [if_neg (by omega)]
      rw [e]
      exact key _ (by unfold vl; omega)
    · have e : goX (oth s + 4) s = (s.drop (oth s + 4), 0) := by unfold goX; rw [if_pos (by omega)]
      have ea : atD s = oth s + 4 + xlen s := by unfold atD; rw [if_pos hx]
      have hl : s.length < atD s := by
        rcases h with h | ⟨_, h | h⟩
        · omega
        · omega
        · exact h
      rw [e, goX_vl 2 _ s (by omega)]
      have hh : ¬ (4 * (getN ((s.drop (oth s + 2)).take 2) : Int)) ≤ ((s.drop (oth s + 4)).length : Int) := by
        rw [List.length_drop]; unfold xlen at ea; omega
      unfold rawL rawE failL failE
      dsimp only
      rw [if_neg hh, if_neg hh]
      rfl
  · rw [if_neg hx]
    have hl : s.length < oth s := by
      rcases h with h | ⟨h, _⟩
      · exact h
      · exact absurd h hx
    unfold goX
    rw [if_neg (by omega)]
theorem r9_good (s : List UInt8) (h : ¬ bad4 s) : r9 s = (s.drop (atD s), 0) ∧ oth s ≤ s.length ∧ atD s ≤ s.length ∧ (hasX s = true → oth s + 4 ≤ s.length ∧ rawT (goX (oth s + 4) s).1 (4 * vl 2 (goX (oth s + 2) s)) = (s.drop (oth s + 4)).take (xlen s)) := by
  unfold bad4 at h
  rw [not_or, not_and] at h
  obtain ⟨h1, h2⟩ := h
  unfold r9
  by_cases hx : hasX s = true
  · have h3 := h2 hx
    rw [not_or] at h3
    have e : goX (oth s + 4) s = (s.drop (oth s + 4), 0) := by unfold goX; rw [if_pos (by omega)]
    have ea : atD s = oth s + 4 + xlen s := by unfold atD; rw [if_pos hx]
    rw [if_pos hx, e, goX_vl 2 _ s (by omega)]
    have hx4 : (4 * (getN ((s.drop (oth s + 2)).take 2) : Int)) = ((xlen s : Nat) : Int) := by unfold xlen; omega
    have hh : ((xlen s : Nat) : Int) ≤ ((s.drop (oth s + 4)).length : Int) := by rw [List.length_drop]; omega
    refine ⟨?_, by omega, by omega, fun _ => ⟨by omega, ?_⟩⟩
    · unfold rawL rawE
      dsimp only
      rw [hx4, if_pos hh, if_pos hh, Int.toNat_natCast, List.drop_drop, ea]
    · unfold rawT
      dsimp only
      rw [hx4, if_pos hh, Int.toNat_natCast]
  · have ea : atD s = oth s := by unfold atD; rw [if_neg hx]
    rw [if_neg hx, ea]
    refine ⟨?_, by omega, by omega, fun hh => absurd hh hx⟩
    unfold goX
    rw [if_pos (by omega)]
theorem getN_one (x : UInt8) : getN [x] = x.toNat := by simp [getN]
theorem byte_at (s : List UInt8) (a : Nat) (h : a < s.length) : (getN ((s.drop a).take 1) : Int) = ((s.getD a 0).toNat : Nat) := by
  rw [List.drop_eq_getElem_cons h, List.take_succ_cons, List.take_zero, getN_one, List.getD_eq_getElem?_getD, List.getElem?_eq_getElem h]
  rfl
end Go.Proofs.Ytojcjbaimdjhoaa
