
/- Numbers read one behind the other, plainly. -/
import Derived.Test.YtdgkehoodlncmaaQPen
namespace Go.Proofs.Ytdgkehoodlncmaa
open Go.RowKit
set_option linter.unusedVariables false
set_option linter.unusedSimpArgs false

/-- What an In is after so many bytes, and the number they are. -/
def nx (k : Nat) (x : List UInt8 × Int) : List UInt8 × Int := (rawL x.1 x.2 k, rawE x.1 x.2 k)
def vl (k : Nat) (x : List UInt8 × Int) : Int := getN (rawT x.1 k)
theorem nx_len (k : Nat) (x : List UInt8 × Int) : (nx k x).1.length ≤ x.1.length := by
  unfold nx rawL failL
  dsimp only
  split
  · simp
  · split <;> simp
theorem vl_lt (k m : Nat) (x : List UInt8 × Int) (h : 256 ^ k = m) : 0 ≤ vl k x ∧ vl k x < m := ⟨by unfold vl; omega, raw_lt x.1 k m h⟩
theorem rd8 (x : List UInt8 × Int) (h : x.1.length ≤ maxLen) : Spec Try.prog 86 [.ptr 0 0] [inO x.1 x.2] (.ca (.val (vi (vl 1 x)))) [inO (nx 1 x).1 (nx 1 x).2] := in_u8 x.1 x.2 h
theorem rd32 (x : List UInt8 × Int) (h : x.1.length ≤ maxLen) : Spec Try.prog 84 [.ptr 0 0] [inO x.1 x.2] (.ca (.val (vu (vl 4 x)))) [inO (nx 4 x).1 (nx 4 x).2] := in_u32 x.1 x.2 h
/-- What an In is when so many bytes have been asked of it. -/
def goX (T : Nat) (l : List UInt8) : List UInt8 × Int := if T ≤ l.length then (l.drop T, 0) else ([], 2)
theorem goX_zero (l : List UInt8) : (l, (0 : Int)) = goX 0 l := by simp [goX]
theorem goX_nx (k T : Nat) (l : List UInt8) (hk : 0 < k) : nx k (goX T l) = goX (T + k) l := by
  unfold goX nx rawL rawE failL failE
  by_cases h : T ≤ l.length
  · rw [if_pos h]
    by_cases h2 : T + k ≤ l.length
    · have hh : (k : Int) ≤ ((l.drop T).length : Int) := by rw [List.length_drop]; omega
      dsimp only
      rw [if_pos hh, if_pos hh, if_pos h2]
      simp [List.drop_drop]
    · have hh : ¬ (k : Int) ≤ ((l.drop T).length : Int) := by rw [List.length_drop]; omega
      dsimp only
      rw [if_neg hh, if_neg hh, if_neg h2]
      rfl
  · have hh : ¬ (k : Int) ≤ (([] : List UInt8).length : Int) := by simp only [List.length_nil]; omega
    rw [if_neg h, if_neg (show ¬ T + k ≤ l.length by omega)]
    dsimp only
    rw [if_neg hh, if_neg hh]
    rfl
theorem goX_vl (k T : Nat) (l : List UInt8) (h : T + k ≤ l.length) : vl k (goX T l) = getN ((l.drop T).take k) := by
  have hh : (k : Int) ≤ ((l.drop T).length : Int) := by rw [List.length_drop]; omega
  unfold goX vl rawT
  rw [if_pos (show T ≤ l.length by omega)]
  dsimp only
  rw [if_pos hh]
  rfl
theorem goX_end (T : Nat) (l : List UInt8) : endE (goX T l).1 (goX T l).2 = if l.length < T then 2 else if T < l.length then 1 else 0 := by
  unfold goX endE
  by_cases h : T ≤ l.length
  · rw [if_pos h, if_neg (show ¬ l.length < T by omega)]
    dsimp only
    by_cases h2 : T < l.length
    · rw [if_neg (by simpa using h2), if_pos h2]
    · rw [if_pos (by simp; omega), if_neg h2]
  · rw [if_neg h, if_pos (show l.length < T by omega)]
    rfl
theorem putZ_take (s : List UInt8) (a k : Nat) (h : a + k ≤ s.length) : putZ (getN ((s.drop a).take k) : Int) k = (s.drop a).take k := by
  have hl : ((s.drop a).take k).length = k := by rw [List.length_take, List.length_drop]; omega
  have := putZ_getN ((s.drop a).take k)
  rwa [hl] at this
theorem bchunk (s : List UInt8) (a k : Nat) (m : Nat) (h : a + k = m) : (s.drop a).take k ++ s.drop m = s.drop a := by
  subst h
  rw [← List.drop_drop, List.take_append_drop]
theorem puts1 (k : Nat) (n : Int) : puts' k [n] = putZ n k := by simp [puts']
end Go.Proofs.Ytdgkehoodlncmaa
