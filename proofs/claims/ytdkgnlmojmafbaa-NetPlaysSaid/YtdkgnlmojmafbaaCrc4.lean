
/- The document's Turn: walked. -/
import Derived.Test.YtdkgnlmojmafbaaCrc2
import Derived.Test.YtdkgnlmojmafbaaRN
namespace Go.Proofs.Ytdkgnlmojmafbaa
open Go.RowKit
set_option linter.unusedVariables false
set_option linter.unusedSimpArgs false

def rT (B : List Bool) (a m : Nat) : Nat → List Bool
  | 0 => B
  | k + 1 => (rT B a m k).set (a + k) ((rT B a m k).getD (a + k) false ^^ m.testBit (31 - k))
theorem rT_len (B : List Bool) (a m : Nat) : ∀ k, (rT B a m k).length = B.length
  | 0 => rfl
  | k + 1 => by unfold rT; rw [List.length_set]; exact rT_len B a m k
theorem rT_get (B : List Bool) (a m : Nat) : ∀ (k p : Nat), a + k ≤ B.length → p < B.length → (rT B a m k).getD p false = (B.getD p false ^^ (decide (a ≤ p ∧ p < a + k) && m.testBit (31 - (p - a))))
  | 0, p, _, hp => by unfold rT; rw [decide_eq_false (by omega)]; simp
  | k + 1, p, h, hp => by
    have ih := rT_get B a m k p (by omega) hp
    have ih2 := rT_get B a m k (a + k) (by omega) (by omega)
    have hl := rT_len B a m k
    unfold rT
    rw [List.getD_eq_getElem?_getD, List.getElem?_set]
    by_cases e : a + k = p
    · subst e
      rw [if_pos rfl, if_pos (by omega), Option.getD_some, ih2, decide_eq_false (by omega), decide_eq_true (by omega), Nat.add_sub_cancel_left]
      simp
    · rw [if_neg e, ← List.getD_eq_getElem?_getD, ih]
      by_cases h1 : a ≤ p ∧ p < a + k
      · rw [decide_eq_true h1, decide_eq_true (by omega)]
      · rw [decide_eq_false h1, decide_eq_false (by omega)]
theorem rT_turn (s : List UInt8) (a : Int) (m k : Nat) (hm : m < 4294967296) (hk : atZ s a + k ≤ 8 * s.length) (hk2 : k = 32 ∨ (k < 32 ∧ atZ s a + k = 8 * s.length)) : rT (bitsL s) (atZ s a) m k = bitsL (turnS s a m) := by
  have h1 := rT_len (bitsL s) (atZ s a) m k
  have h2 := bitsL_len s
  have h3 := bitsL_len (turnS s a m)
  rw [turnS_len] at h3
  refine ext_getD (by omega) fun p hp => ?_
  rw [rT_get _ _ _ _ _ (by omega) (by omega), turnS_bits s a m hm, bTurn_get _ _ _ _ _ (by omega) (by omega)]
  congr 2
  rcases hk2 with rfl | ⟨_, hk2⟩
  · rfl
  · by_cases h4 : atZ s a ≤ p
    · rw [decide_eq_true (by omega), decide_eq_true (by omega)]
    · rw [decide_eq_false (by omega), decide_eq_false (by omega)]
theorem bits_one (L : List (List V)) : True := trivial
set_option maxRecDepth 100000 in
set_option maxHeartbeats 4000000 in
theorem ref_bitsT (s : List UInt8) (hl : s.length ≤ 1099511627776) : Spec Try.prog 44 [.ca (.val (vs s))] [] (.ca (.hd (.rw 3 1 ((bitsL s).map bitEl)))) [] := by
  refine spec_of Try.func44 rfl Try.ntmps44 Try.results44 ⟨by decide, by simp⟩ fun C hC => ?_
  refine mark_s (7, 1) [7] ⟨by rw [hC]; decide, fun n => ?_⟩
  simp (decide := true) (disch := omega) only [go_sem, ↓reduceIte, ↓put_at]
  (repeat (first | refine sp_ ?_ | exact ex0))
  refine loop_s (α := {j : Nat // j ≤ s.length}) (fun j => [(.s 0, .av (.val (vs s))), (.r (7, 1), .tree (.rw 3 1 ((bitsL (s.take j.1)).map bitEl))), (.s 3, .av (.ref (7, 1) 0)), (.s 4, .av (.val (vi j.1)))]) (fun j => s.length - j.1) ⟨0, Nat.zero_le _⟩ ?_ (fun j => ?_)
  · have e : bitsL (s.take 0) = [] := rfl
    rw [e]
    simp (decide := true) (disch := omega) only [go_sem, ↓reduceIte, ↓put_at]
    first | exact rfl | (show _ = _; kernel_rfl)
  · obtain ⟨j, hj⟩ := j
    dsimp only at hj ⊢
    by_cases hlt : j < s.length
    · have hs : s.take (j + 1) = s.take j ++ [s[j]] := List.take_succ_eq_append_getElem hlt
      have hbl : bitsL (s.take (j + 1)) = bitsL (s.take j) ++ bits8 s[j] := by rw [hs, bitsL_app]; simp [bitsL]
      have hlen : (bitsL (s.take j)).length = 8 * j := by rw [bitsL_len, List.length_take]; omega
      have hg : s.getD j 0 = s[j] := by simp [hlt]
      have hbb := (s[j]).toNat_lt
      (repeat ((fail_if_success (refine stop_reg 7 ?_)); (first | refine sp_ ?_ | exact ex0)))
      generalize s[j] = b at *
      generalize bitsL (s.take j) = B at *
      rw [hg]
      refine loop_s (α := {i : Nat // i ≤ 8}) (fun i => [(.s 0, .av (.val (vs s))), (.r (7, 1), .tree (.rw 3 1 ((B ++ (bits8 b).take i.1).map bitEl))), (.s 3, .av (.ref (7, 1) 0)), (.s 4, .av (.val (vi j))), (.s 5, .av (.val (vi b.toNat))), (.s 6, .av (.val (vi (128 / 2 ^ i.1 : Nat))))]) (fun i => 8 - i.1) ⟨0, by decide⟩ ?_ (fun i => ?_)
      · rw [List.take_zero, List.append_nil]
        simp (decide := true) (disch := omega) only [go_sem, ↓reduceIte, ↓put_at]
      · obtain ⟨i, hi⟩ := i
        dsimp only at hi ⊢
        by_cases hlt2 : i < 8
        · have hK : 0 < 128 / 2 ^ i ∧ 128 / 2 ^ i ≤ 128 ∧ b.toNat / (128 / 2 ^ i) % 2 = (b.toNat.testBit (7 - i)).toNat ∧ 128 / 2 ^ i / 2 = 128 / 2 ^ (i + 1) := by
            rw [Nat.toNat_testBit]
            have : i = 0 ∨ i = 1 ∨ i = 2 ∨ i = 3 ∨ i = 4 ∨ i = 5 ∨ i = 6 ∨ i = 7 := by omega
            rcases this with rfl | rfl | rfl | rfl | rfl | rfl | rfl | rfl <;> simp
          have hT := bits8_take b i hlt2
          have hLn : ((bits8 b).take i).length = i := by rw [List.length_take]; show min i 8 = i; omega
          generalize (bits8 b).take i = T1 at *
          generalize 128 / 2 ^ i = K at *
          obtain ⟨hK1, hK2, hK3, hK4⟩ := hK
          have hw : (IntKind.i64.wrap ((b.toNat : Int) / (K : Int))).tmod 2 = (b.toNat.testBit (7 - i)).toNat := by
            have h1 : (b.toNat : Int) / (K : Int) = ((b.toNat / K : Nat) : Int) := by omega
            have h2 : b.toNat / K ≤ b.toNat := Nat.div_le_self _ _
            have h3 := b.toNat_lt
            rw [h1, ← hK3]
            generalize b.toNat / K = q at *
            rw [wrap_i64 (by omega) (by omega)]
            rfl
          (repeat (first | refine sp_ ?_ | exact ex0))
          simp only [hw]
          refine next_s (α := {i : Nat // i ≤ 8}) ⟨i + 1, hlt2⟩ ⟨?_, by (try dsimp only); omega⟩
          rw [hT, ← hK4]
          simp (decide := true) (disch := omega) only [go_sem, ↓reduceIte, ↓put_at]
          simp [bitEl]
        · obtain rfl : i = 8 := by omega
          have h8 : (bits8 b).take 8 = bits8 b := rfl
          rw [h8]
          (repeat (first | refine sp_ ?_ | exact ex0))
          refine next_s (α := {j : Nat // j ≤ s.length}) ⟨j + 1, hlt⟩ ⟨?_, by dsimp only; omega⟩
          rw [hbl]
          simp (decide := true) (disch := omega) only [go_sem, ↓reduceIte, ↓put_at]
    · obtain rfl : j = s.length := by omega
      rw [List.take_length]
      (repeat (first | refine sp_ ?_ | exact ex0))
      (refine ret_s [] ?_; simp (decide := true) (disch := omega) only [go_sem, ↓reduceIte, ↓put_at])
set_option maxRecDepth 100000 in
set_option maxHeartbeats 4000000 in
theorem ref_turn (s : List UInt8) (a : Int) (m : Nat) (hl : s.length ≤ 1099511627776) (hm : m < 4294967296) : Spec Try.prog 38 [.ca (.val (vs s)), .ca (.val (vi a)), .ca (.val (vu m))] [] (.ca (.val (vs (turnS s a m)))) [] := by
  have cb := ref_bitsT s hl
  have fb : flatR ((bitsL s).map bitEl) := fun r h y hy => by obtain ⟨e, _, rfl⟩ := List.mem_map.1 h; simp [bitEl] at hy; subst hy; trivial
  have hBl := bitsL_len s
  have hfin := rT_turn s a m
  have hkl := atZ_le s a
  have hk1 : max 0 (min a ((bitsL s).length : Int)) = (atZ s a : Int) := by unfold atZ; omega
  have hRl := turnS_len s a m
  have hbit := bitsL_get (turnS s a m)
  have hBR : (bitsL (turnS s a m)).length = 8 * s.length := by rw [bitsL_len, hRl]
  generalize turnS s a m = R at *
  generalize atZ s a = k0 at *
  generalize bitsL s = B at *
  refine spec_of Try.func38 rfl Try.ntmps38 Try.results38 ⟨by decide, by simp⟩ fun C hC => ?_
  (repeat' ((fail_if_success (refine stop_reg 3 ?_)); (first | refine sp_ ?_ | exact ex0 | refine pcallT_u Try.call44 (cb) (fb) ex1 ?_ | (refine ret_s [] ?_; simp (decide := true) (disch := omega) only [go_sem, ↓reduceIte, ↓put_at]))))
  rw [hk1]
  (repeat' ((fail_if_success (refine stop_reg 4 ?_)); (first | refine sp_ ?_ | exact ex0 | (refine ret_s [] ?_; simp (decide := true) (disch := omega) only [go_sem, ↓reduceIte, ↓put_at]))))
  refine meetB_s (α := Unit) (fun _ => [(.s 6, .av (.val (vs []))), (.r (14, 1), .tree (.rw 3 1 ((bitsL R).map bitEl))), (.s 7, .av (.ref (14, 1) 0))]) ?_ (fun _ => ?_)
  · refine loop_s (α := {k : Nat // k ≤ 32 ∧ k0 + k ≤ 8 * s.length}) (fun k => [(.s 1, .av (.val (vi k0))), (.s 2, .av (.val (vu m))), (.s 6, .av (.val (vs []))), (.r (14, 1), .tree (.rw 3 1 ((rT B k0 m k.1).map bitEl))), (.s 7, .av (.ref (14, 1) 0)), (.s 8, .av (.val (vi k.1)))]) (fun k => 32 - k.1) ⟨0, by omega, by omega⟩ ?_ (fun k => ?_)
    · rw [show rT B k0 m 0 = B from rfl]
      simp (decide := true) (disch := omega) only [go_sem, ↓reduceIte, ↓put_at]
    obtain ⟨k, hk, hkk⟩ := k
    dsimp only at hk hkk ⊢
    have hrl := rT_len B k0 m k
    have hstep : rT B k0 m (k + 1) = (rT B k0 m k).set (k0 + k) ((rT B k0 m k).getD (k0 + k) false ^^ m.testBit (31 - k)) := rfl
    by_cases hlt : k < 32 ∧ k0 + k < 8 * s.length
    · obtain ⟨h1, h2⟩ := hlt
      obtain ⟨B2, hE2⟩ : ∃ x, x = rT B k0 m (k + 1) := ⟨_, rfl⟩
      rw [← hE2] at hstep
      generalize rT B k0 m k = B1 at *
      have hw : ((((m : Int).fdiv (2 ^ (31 - (k : Int)).toNat)).tmod 2) == 1) = m.testBit (31 - k) := by
        have e1 : (31 - (k : Int)).toNat = 31 - k := by omega
        have e2 : (m : Int).fdiv (2 ^ (31 - k)) = ((m / 2 ^ (31 - k) : Nat) : Int) := by
          rw [Int.fdiv_eq_ediv_of_nonneg _ (Int.le_of_lt (Int.pow_pos (by decide))), Int.natCast_ediv, Int.natCast_pow]
          rfl
        rw [e1, e2, Nat.testBit_eq_decide_div_mod_eq]
        generalize m / 2 ^ (31 - k) = q
        have e3 : (q : Int).tmod 2 = ((q % 2 : Nat) : Int) := by rw [Int.tmod_eq_emod_of_nonneg (by omega)]; omega
        rw [e3]
        by_cases h : q % 2 = 1
        · rw [h]; rfl
        · rw [decide_eq_false h, show q % 2 = 0 by omega]; rfl
      have hge : ((B1.map bitEl).getD (k0 + k) []).getD 0 .any = vi (B1.getD (k0 + k) false).toNat := by
        have : k0 + k < B1.length := by omega
        simp [this, bitEl]
      (repeat' ((fail_if_success (refine stop_reg 6 ?_)); (first | refine sp_ ?_ | exact ex0 | (refine ret_s [] ?_; simp (decide := true) (disch := omega) only [go_sem, ↓reduceIte, ↓put_at]))))
      simp only [hw]
      cases hb : m.testBit (31 - k) with
      | true =>
        rw [hb] at hstep
        have hi : ((k0 : Int) + (k : Int)).toNat = k0 + k := by omega
        have hx : k0 + k < B1.length := by omega
        have hset : (B1.map bitEl).set (k0 + k) [vi (IntKind.i64.wrap (1 - ((B1[k0 + k]).toNat : Int)))] = B2.map bitEl := by
          rw [hstep, List.map_set, show B1.getD (k0 + k) false = B1[k0 + k] by simp [hx]]
          congr 1
          cases B1[k0 + k] with
          | true => rfl
          | false => rfl
        (repeat' ((first | refine sp_ ?_ | exact ex0 | (refine ret_s [] ?_; simp (decide := true) (disch := omega) only [go_sem, ↓reduceIte, ↓put_at]))))
        simp only [hi, hset]
        refine next_s (α := {k : Nat // k ≤ 32 ∧ k0 + k ≤ 8 * s.length}) ⟨k + 1, by omega, by omega⟩ ⟨?_, by dsimp only; omega⟩
        dsimp only
        rw [← hE2]
        simp (decide := true) (disch := omega) only [go_sem, ↓reduceIte, ↓put_at]
      | false =>
        have hB2 : B2 = B1 := by
          rw [hstep, hb, Bool.xor_false]
          have : k0 + k < B1.length := by omega
          simp [this]
        (repeat' ((first | refine sp_ ?_ | exact ex0 | (refine ret_s [] ?_; simp (decide := true) (disch := omega) only [go_sem, ↓reduceIte, ↓put_at]))))
        refine next_s (α := {k : Nat // k ≤ 32 ∧ k0 + k ≤ 8 * s.length}) ⟨k + 1, by omega, by omega⟩ ⟨?_, by dsimp only; omega⟩
        dsimp only
        rw [← hE2, hB2]
        simp (decide := true) (disch := omega) only [go_sem, ↓reduceIte, ↓put_at]
    · have hB : rT B k0 m k = bitsL R := hfin k hm hkk (by omega)
      rw [hB]
      by_cases h32 : k < 32
      · have hge : ¬ k0 + k < 8 * s.length := fun h => hlt ⟨h32, h⟩
        (repeat' ((first | refine sp_ ?_ | exact ex0 | (refine ret_s [] ?_; simp (decide := true) (disch := omega) only [go_sem, ↓reduceIte, ↓put_at]))))
        refine at_meet () ?_
        simp (decide := true) (disch := omega) only [go_sem, ↓reduceIte, ↓put_at]
      · (repeat' ((first | refine sp_ ?_ | exact ex0 | (refine ret_s [] ?_; simp (decide := true) (disch := omega) only [go_sem, ↓reduceIte, ↓put_at]))))
        refine at_meet () ?_
        simp (decide := true) (disch := omega) only [go_sem, ↓reduceIte, ↓put_at]
  · (repeat' ((fail_if_success (refine stop_reg 10 ?_)); (first | refine sp_ ?_ | exact ex0 | (refine ret_s [] ?_; simp (decide := true) (disch := omega) only [go_sem, ↓reduceIte, ↓put_at]))))
    refine loop_s (α := {j : Nat // j ≤ s.length}) (fun j => [(.s 6, .av (.val (vs []))), (.r (14, 1), .tree (.rw 3 1 ((bitsL R).map bitEl))), (.s 7, .av (.ref (14, 1) 0)), (.k (50, 0), .row 5 1 (R.take j.1).length), (.s 9, .av (.own (50, 0) 0 5 1 ((R.take j.1).map byteEl))), (.s 10, .av (.val (vi (8 * j.1 : Nat))))]) (fun j => s.length - j.1) ⟨0, Nat.zero_le _⟩ ?_ (fun j => ?_)
    · simp (decide := true) (disch := omega) only [go_sem, ↓reduceIte, ↓put_at]
      first | exact rfl | (show _ = _; kernel_rfl)
    obtain ⟨j, hj⟩ := j
    dsimp only at hj ⊢
    have hrl2 := bitsL_len R
    by_cases hlt2 : j < s.length
    · have hlR : j < R.length := by omega
      have hs : R.take (j + 1) = R.take j ++ [R[j]] := List.take_succ_eq_append_getElem hlR
      (repeat' ((fail_if_success (refine stop_reg 14 ?_)); (first | refine sp_ ?_ | exact ex0 | (refine ret_s [] ?_; simp (decide := true) (disch := omega) only [go_sem, ↓reduceIte, ↓put_at]))))
      refine loop_s (α := {i : Nat // i ≤ 8}) (fun i => [(.s 6, .av (.val (vs []))), (.r (14, 1), .tree (.rw 3 1 ((bitsL R).map bitEl))), (.s 7, .av (.ref (14, 1) 0)), (.k (50, 0), .row 5 1 (R.take j).length), (.s 9, .av (.own (50, 0) 0 5 1 ((R.take j).map byteEl))), (.s 10, .av (.val (vi (8 * j : Nat)))), (.s 11, .av (.val (vi (R[j].toNat / 2 ^ (8 - i.1) : Nat)))), (.s 12, .av (.val (vi i.1)))]) (fun i => 8 - i.1) ⟨0, by decide⟩ ?_ (fun i => ?_)
      · have := (R[j]).toNat_lt
        rw [show R[j].toNat / 2 ^ (8 - 0) = 0 by omega]
        simp (decide := true) (disch := omega) only [go_sem, ↓reduceIte, ↓put_at]
      obtain ⟨i, hi⟩ := i
      dsimp only at hi ⊢
      have hb8 := (R[j]).toNat_lt
      by_cases hlt3 : i < 8
      · have hx : 8 * j + i < (bitsL R).length := by omega
        have hbt := hbit (8 * j + i) (by omega)
        rw [show (8 * j + i) / 8 = j by omega, show (8 * j + i) % 8 = i by omega, show R.getD j 0 = R[j] by simp [hlR]] at hbt
        rw [List.getD_eq_getElem?_getD, List.getElem?_eq_getElem hx, Option.getD_some] at hbt
        have hnx : R[j].toNat / 2 ^ (8 - (i + 1)) = 2 * (R[j].toNat / 2 ^ (8 - i)) + (R[j].toNat.testBit (7 - i)).toNat := by
          rw [Nat.toNat_testBit]
          have : i = 0 ∨ i = 1 ∨ i = 2 ∨ i = 3 ∨ i = 4 ∨ i = 5 ∨ i = 6 ∨ i = 7 := by omega
          rcases this with rfl | rfl | rfl | rfl | rfl | rfl | rfl | rfl
          · omega
          · omega
          · omega
          · omega
          · omega
          · omega
          · omega
          · omega
        have hle : R[j].toNat / 2 ^ (8 - i) ≤ 255 := Nat.le_trans (Nat.div_le_self _ _) (by omega)
        have hi2 : ((8 * j : Nat) + (i : Int)).toNat = 8 * j + i := by omega
        have hvx : (2 * ((R[j].toNat / 2 ^ (8 - i) : Nat) : Int) + (R[j].toNat.testBit (7 - i)).toNat) = ((R[j].toNat / 2 ^ (8 - (i + 1)) : Nat) : Int) := by rw [hnx]; omega
        have ht1 : (R[j].toNat.testBit (7 - i)).toNat ≤ 1 := by cases R[j].toNat.testBit (7 - i) <;> decide
        obtain ⟨q2, hq2⟩ : ∃ q2, q2 = R[j].toNat / 2 ^ (8 - (i + 1)) := ⟨_, rfl⟩
        rw [← hq2] at hnx hvx
        generalize R[j].toNat / 2 ^ (8 - i) = q at *
        generalize R[j].toNat.testBit (7 - i) = tb at *
        (repeat' ((first | refine sp_ ?_ | exact ex0 | (refine ret_s [] ?_; simp (decide := true) (disch := omega) only [go_sem, ↓reduceIte, ↓put_at]))))
        simp only [hi2, hbt]
        refine next_s (α := {i : Nat // i ≤ 8}) ⟨i + 1, hlt3⟩ ⟨?_, by dsimp only; omega⟩
        simp (decide := true) (disch := omega) only [go_sem, ↓reduceIte, ↓put_at]
        rw [← hq2]
        exact hvx
      · obtain rfl : i = 8 := by omega
        have hpl : (R.take j).length ≤ s.length := by rw [List.length_take]; omega
        (repeat' ((first | refine sp_ ?_ | exact ex0 | (refine ret_s [] ?_; simp (decide := true) (disch := omega) only [go_sem, ↓reduceIte, ↓put_at]))))
        refine next_s (α := {j : Nat // j ≤ s.length}) ⟨j + 1, hlt2⟩ ⟨?_, by dsimp only; omega⟩
        rw [hs]
        simp (decide := true) (disch := omega) only [go_sem, ↓reduceIte, ↓put_at]
        refine ⟨?_, by omega⟩
        rw [List.map_append, show R[j].toNat / 2 ^ 0 = R[j].toNat by simp]
        rfl
    · obtain rfl : j = s.length := by omega
      rw [show R.take s.length = R by rw [← hRl, List.take_length]]
      (repeat' ((first | refine sp_ ?_ | exact ex0 | (refine ret_s [] ?_; simp (decide := true) (disch := omega) only [go_sem, ↓reduceIte, ↓put_at]))))
      refine convBS_s R (by simp (decide := true) (disch := omega) only [go_sem, ↓reduceIte, ↓put_at]) (by simp (decide := true) (disch := omega) only [go_sem, ↓reduceIte, ↓put_at]) (by simp (decide := true) (disch := omega) only [go_sem, ↓reduceIte, ↓put_at]) ?_
      (repeat' ((first | refine sp_ ?_ | exact ex0 | (refine ret_s [] ?_; simp (decide := true) (disch := omega) only [go_sem, ↓reduceIte, ↓put_at]))))
end Go.Proofs.Ytdkgnlmojmafbaa
