/- References of layers 2 and 3, lists alike; by abstract values. -/
import Derived.Test.YtjkmnjmmnjhacaaGreatQInz
import Derived.Test.YtjkmnjmmnjhacaaGreatRHz
namespace Go.Proofs.YtjkmnjmmnjhacaaGreat
open Go.RowKit
set_option linter.unusedVariables false
set_option linter.unusedSimpArgs false

set_option maxRecDepth 100000 in
set_option maxHeartbeats 8000000 in
theorem q_cut (l : List UInt8) (n : Int) (hl : l.length ≤ maxLen) (hn : 0 ≤ n) : Spec Tryz.prog 9 [.ca (.val (vs l)), .ca (.val (vi n))] [] (.ca (.val (vs (l.take n.toNat)))) [] := by
  unfold maxLen at hl
  refine spec_of Tryz.func9 rfl Tryz.ntmps9 Tryz.results9 ⟨by decide, by simp⟩ fun C hC => ?_
  by_cases h : n < l.length
  · (repeat (first | refine sp_ ?_ | exact ex0))
    (refine ret_s [] ?_; simp (decide := true) (disch := omega) only [go_sem, ↓reduceIte, ↓put_at])
  · (repeat (first | refine sp_ ?_ | exact ex0))
    (refine ret_s [] ?_; simp (decide := true) (disch := omega) only [go_sem, ↓reduceIte, ↓put_at])
    rw [List.take_of_length_le (by omega)]
set_option maxRecDepth 100000 in
set_option maxHeartbeats 8000000 in
theorem q_put (n : Int) (k : Nat) (hn : 0 ≤ n ∧ n ≤ 9223372036854775807) (hk : k ≤ 8) : Spec Tryz.prog 77 [.ca (.val (vi n)), .ca (.val (vi k))] [] (.ca (.val (vs (putZ n k)))) [] := by
  refine spec_of Tryz.func77 rfl Tryz.ntmps77 Tryz.results77 ⟨by decide, by simp⟩ fun C hC => ?_
  (repeat (first | refine sp_ ?_ | exact ex0))
  refine loop_s (α := {x : Nat × Int // x.1 ≤ k ∧ x.2 = n / 256 ^ x.1}) (fun x => [(.s 0, .av (.val (vi x.1.2))), (.s 1, .av (.val (vi k))), (.s 5, .av (.val (.lst 1 ((putZ n x.1.1).map byteEl)))), (.s 6, .av (.val (vi x.1.1)))]) (fun x => k - x.1.1) ⟨(0, n), Nat.zero_le _, by simp⟩ ?_ (fun x => ?_)
  · simp only [putZ]
    simp (decide := true) (disch := omega) only [go_sem, ↓reduceIte, ↓put_at]
  · obtain ⟨⟨i, q⟩, hi, hq⟩ := x
    dsimp only at hi hq ⊢
    have h0 : 0 ≤ q := by rw [hq]; exact Int.ediv_nonneg hn.1 (Int.le_of_lt (pow_pos' i))
    have h1 : q ≤ n := by rw [hq]; exact Int.ediv_le_self _ hn.1
    by_cases hlt : i < k
    · have hz := putZ_length n i
      (repeat (first | refine sp_ ?_ | exact ex0))
      have hp := pow_pos' i
      refine next_s ⟨(i + 1, (q - q % 256) / 256), hlt, ?_⟩ ⟨?_, by dsimp only; omega⟩
      · dsimp only
        have e : (q - q % 256) / 256 = q / 256 := by omega
        rw [e, hq, Int.pow_succ, Int.ediv_ediv_of_nonneg (by omega)]
      · simp (decide := true) (disch := omega) only [go_sem, ↓reduceIte, ↓put_at]
        have e := byte_of q
        rw [IntKind.wrap_u8] at e
        rw [putZ, List.map_cons, ← hq, ← e]
        try rfl
    · have e : i = k := by omega
      (repeat (first | refine sp_ ?_ | exact ex0))
      refine convBS_s (putZ n i) (by simp (decide := true) (disch := omega) only [go_sem, ↓reduceIte, ↓put_at]) (by simp (decide := true) (disch := omega) only [go_sem, ↓reduceIte, ↓put_at]) (by simp (decide := true) (disch := omega) only [go_sem, ↓reduceIte, ↓put_at]) ?_
      (repeat (first | refine sp_ ?_ | exact ex0))
      (refine ret_s [] ?_; simp (decide := true) (disch := omega) only [go_sem, ↓reduceIte, ↓put_at])
      rw [e]
set_option maxRecDepth 100000 in
set_option maxHeartbeats 8000000 in
theorem q_get (l : List UInt8) (hl : l.length ≤ 7) : Spec Tryz.prog 74 [.ca (.val (vs l))] [] (.ca (.val (vi (getN l)))) [] := by
  refine spec_of Tryz.func74 rfl Tryz.ntmps74 Tryz.results74 ⟨by decide, by simp⟩ fun C hC => ?_
  (repeat (first | refine sp_ ?_ | exact ex0))
  refine loop_s (α := {j : Nat // j ≤ l.length}) (fun j => [(.s 0, .av (.val (vs l))), (.s 3, .av (.val (vi (getN (l.take j.1))))), (.s 4, .av (.val (vi j.1)))]) (fun j => l.length - j.1) ⟨0, Nat.zero_le _⟩ ?_ (fun j => ?_)
  · simp only [List.take_zero]
    simp (decide := true) (disch := omega) only [go_sem, ↓reduceIte, ↓put_at]
  · obtain ⟨j, hj⟩ := j
    dsimp only at hj ⊢
    by_cases hlt : j < l.length
    · have hs : l.take (j + 1) = l.take j ++ [l[j]] := List.take_succ_eq_append_getElem hlt
      have hb : getN (l.take j) < 256 ^ 6 := by
        have h1 := getN_lt (l.take j)
        have h2 : (l.take j).length ≤ 6 := by rw [List.length_take]; omega
        exact Nat.lt_of_lt_of_le h1 (Nat.pow_le_pow_right (by decide) h2)
      have hbt := byte_le (l.getD j 0)
      (repeat (first | refine sp_ ?_ | exact ex0))
      refine next_s ⟨j + 1, hlt⟩ ⟨?_, by dsimp only; omega⟩
      simp (decide := true) (disch := omega) only [go_sem, ↓reduceIte, ↓put_at]
      rw [hs, getN_snoc, show l.getD j 0 = l[j] by simp [hlt]]
      omega
    · (repeat (first | refine sp_ ?_ | exact ex0))
      (refine ret_s [] ?_; simp (decide := true) (disch := omega) only [go_sem, ↓reduceIte, ↓put_at])
      rw [List.take_of_length_le (by omega)]
set_option maxRecDepth 100000 in
set_option maxHeartbeats 8000000 in
theorem q_get8 (l : List UInt8) (hl : l.length ≤ 8) (hv : getN l ≤ 9223372036854775807) : Spec Tryz.prog 74 [.ca (.val (vs l))] [] (.ca (.val (vi (getN l)))) [] := by
  refine spec_of Tryz.func74 rfl Tryz.ntmps74 Tryz.results74 ⟨by decide, by simp⟩ fun C hC => ?_
  (repeat (first | refine sp_ ?_ | exact ex0))
  refine loop_s (α := {j : Nat // j ≤ l.length}) (fun j => [(.s 0, .av (.val (vs l))), (.s 3, .av (.val (vi (getN (l.take j.1))))), (.s 4, .av (.val (vi j.1)))]) (fun j => l.length - j.1) ⟨0, Nat.zero_le _⟩ ?_ (fun j => ?_)
  · simp only [List.take_zero]
    simp (decide := true) (disch := omega) only [go_sem, ↓reduceIte, ↓put_at]
  · obtain ⟨j, hj⟩ := j
    dsimp only at hj ⊢
    by_cases hlt : j < l.length
    · have hs : l.take (j + 1) = l.take j ++ [l[j]] := List.take_succ_eq_append_getElem hlt
      have hb : getN (l.take (j + 1)) ≤ getN l := getN_take_le _ _
      rw [hs, getN_snoc, show l[j] = l.getD j 0 by simp [hlt]] at hb
      have hbt := byte_le (l.getD j 0)
      (repeat (first | refine sp_ ?_ | exact ex0))
      refine next_s ⟨j + 1, hlt⟩ ⟨?_, by dsimp only; omega⟩
      simp (decide := true) (disch := omega) only [go_sem, ↓reduceIte, ↓put_at]
      rw [hs, getN_snoc, show l.getD j 0 = l[j] by simp [hlt]]
      omega
    · (repeat (first | refine sp_ ?_ | exact ex0))
      (refine ret_s [] ?_; simp (decide := true) (disch := omega) only [go_sem, ↓reduceIte, ↓put_at])
      rw [List.take_of_length_le (by omega)]
theorem q_getw (l : List UInt8) (a k : Nat) (hk : k ≤ 7) : Spec Tryz.prog 74 [.ca (.val (vs ((l.drop a).take k)))] [] (.ca (.val (vi (getN ((l.drop a).take k))))) [] := q_get _ (by rw [List.length_take]; omega)
end Go.Proofs.YtjkmnjmmnjhacaaGreat

namespace Go.Proofs.YtjkmnjmmnjhacaaGreat
open Go.RowKit
set_option linter.unusedVariables false
set_option linter.unusedSimpArgs false

set_option maxRecDepth 100000 in
set_option maxHeartbeats 1000000 in
theorem q_putz (n : Int) (k : Nat) (hn : -9223372036854775808 ≤ n ∧ n ≤ 9223372036854775807) (hk : k ≤ 8) : Spec Tryz.prog 77 [.ca (.val (vi n)), .ca (.val (vi k))] [] (.ca (.val (vs (putZ n k)))) [] := by
  by_cases hp : 0 ≤ n
  · exact q_put n k ⟨hp, hn.2⟩ hk
  refine spec_of Tryz.func77 rfl Tryz.ntmps77 Tryz.results77 ⟨by decide, by simp⟩ fun C hC => ?_
  (repeat (first | refine sp_ ?_ | exact ex0))
  refine loop_s (α := {x : Nat × Int // x.1 ≤ k ∧ x.2 = n / 256 ^ x.1 ∧ x.2 < 0 ∧ n ≤ x.2}) (fun x => [(.s 0, .av (.val (vi x.1.2))), (.s 1, .av (.val (vi k))), (.s 5, .av (.val (.lst 1 ((putZ n x.1.1).map byteEl)))), (.s 6, .av (.val (vi x.1.1)))]) (fun x => k - x.1.1) ⟨(0, n), Nat.zero_le _, by simp, by dsimp only; omega, Int.le_refl _⟩ ?_ (fun x => ?_)
  · simp only [putZ]
    simp (decide := true) (disch := omega) only [go_sem, ↓reduceIte, ↓put_at]
  · obtain ⟨⟨i, q⟩, hi, hq, h0, h1⟩ := x
    dsimp only at hi hq h0 h1 ⊢
    have hz := putZ_length n i
    have hpw := pow_pos' i
    have ht : q.tmod 256 = -((-q) % 256) := by
      have := Int.neg_tmod (-q) 256
      rw [Int.neg_neg] at this
      rw [this, Int.tmod_eq_emod_of_nonneg (by omega)]
    obtain ⟨d, hdd⟩ : ∃ d, d = (q - q.tmod 256) / 256 := ⟨_, rfl⟩
    have hmul : q - q.tmod 256 = 256 * d := by omega
    have htd : (q - q.tmod 256).tdiv 256 = d := by rw [hmul]; exact Int.mul_tdiv_cancel_left d (by decide)
    obtain ⟨r, hr⟩ : ∃ r, r = q.tmod 256 := ⟨_, rfl⟩
    rw [← hr] at hdd ht
    have hr1 : -256 < r ∧ r ≤ 0 := by omega
    have hqd : q = 256 * d + r := by omega
    by_cases hlt : i < k
    · by_cases hr0 : r < 0
      · have hrr : q.tmod 256 < 0 := by omega
        (repeat (first | refine sp_ ?_ | exact ex0))
        refine next_s ⟨(i + 1, q / 256), hlt, by dsimp only; rw [hq, Int.pow_succ, Int.ediv_ediv_of_nonneg (by omega)], by dsimp only; omega, by dsimp only; omega⟩ ⟨?_, by dsimp only; omega⟩
        simp (decide := true) (disch := omega) only [go_sem, ↓reduceIte, ↓put_at]
        have e := byte_of q
        rw [IntKind.wrap_u8] at e
        have e2 : q % 256 = q.tmod 256 + 256 := by omega
        rw [putZ, List.map_cons, ← hq, ← e, e2]
        refine ⟨by omega, rfl⟩
      · have hrr : ¬ q.tmod 256 < 0 := by omega
        (repeat (first | refine sp_ ?_ | exact ex0))
        refine next_s ⟨(i + 1, q / 256), hlt, by dsimp only; rw [hq, Int.pow_succ, Int.ediv_ediv_of_nonneg (by omega)], by dsimp only; omega, by dsimp only; omega⟩ ⟨?_, by dsimp only; omega⟩
        simp (decide := true) (disch := omega) only [go_sem, ↓reduceIte, ↓put_at]
        have e := byte_of q
        rw [IntKind.wrap_u8] at e
        have e2 : q % 256 = q.tmod 256 := by omega
        rw [putZ, List.map_cons, ← hq, ← e, e2]
        refine ⟨by omega, rfl⟩
    · have e : i = k := by omega
      (repeat (first | refine sp_ ?_ | exact ex0))
      refine convBS_s (putZ n i) (by simp (decide := true) (disch := omega) only [go_sem, ↓reduceIte, ↓put_at]) (by simp (decide := true) (disch := omega) only [go_sem, ↓reduceIte, ↓put_at]) (by simp (decide := true) (disch := omega) only [go_sem, ↓reduceIte, ↓put_at]) ?_
      (repeat (first | refine sp_ ?_ | exact ex0))
      (refine ret_s [] ?_; simp (decide := true) (disch := omega) only [go_sem, ↓reduceIte, ↓put_at])
      rw [e]
end Go.Proofs.YtjkmnjmmnjhacaaGreat

