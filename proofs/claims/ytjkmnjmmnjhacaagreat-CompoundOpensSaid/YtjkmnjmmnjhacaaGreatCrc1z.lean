/- Package crc: up, down, one, Rem, Right, Seal. -/
import Derived.Test.YtjkmnjmmnjhacaaGreatQInz
import Derived.Test.YtjkmnjmmnjhacaaGreatRKz
import Derived.Test.YtjkmnjmmnjhacaaGreatCrcM2z
namespace Go.Proofs.YtjkmnjmmnjhacaaGreat
open Go.RowKit
set_option linter.unusedVariables false
set_option linter.unusedSimpArgs false

set_option maxRecDepth 100000 in
set_option maxHeartbeats 8000000 in
theorem crc_up (r : Nat) (h : r < 4294967296) : Spec Tryz.prog 90 [.ca (.val (vu r))] [] (.ca (.val (vu (up r)))) [] := by
  have hb := top_bit r h
  cases ht : r.testBit 31 with
  | true =>
    rw [ht] at hb
    have hb2 : (bits .and .u32 (r : Int) 2147483648 == 0) = false := by simpa [bne] using hb
    have e := up_t r h ht
    refine spec_of Tryz.func90 rfl Tryz.ntmps90 Tryz.results90 ⟨by decide, by simp⟩ fun C hC => ?_
    (repeat (first | refine sp_ ?_ | exact ex0))
    simp only [hb, hb2]
    (repeat (first | refine sp_ ?_ | exact ex0))
    (refine ret_s [] ?_; simp (decide := true) (disch := omega) only [go_sem, ↓reduceIte, ↓put_at])
    exact e
  | false =>
    rw [ht] at hb
    have hb2 : (bits .and .u32 (r : Int) 2147483648 == 0) = true := by simpa [bne] using hb
    have e := up_f r h ht
    have hl := up_lt r
    refine spec_of Tryz.func90 rfl Tryz.ntmps90 Tryz.results90 ⟨by decide, by simp⟩ fun C hC => ?_
    (repeat (first | refine sp_ ?_ | exact ex0))
    simp only [hb, hb2]
    (repeat (first | refine sp_ ?_ | exact ex0))
    (refine ret_s [] ?_; simp (decide := true) (disch := omega) only [go_sem, ↓reduceIte, ↓put_at])
    exact e
set_option maxRecDepth 100000 in
set_option maxHeartbeats 8000000 in
theorem crc_down (r : Nat) (h : r < 4294967296) : Spec Tryz.prog 33 [.ca (.val (vu r))] [] (.ca (.val (vu (down r)))) [] := by
  have hb := low_bit r h
  by_cases ht : r % 2 = 1
  · rw [decide_eq_true ht] at hb
    have hb2 : (bits .and .u32 (r : Int) 1 == 0) = false := by simpa [bne] using hb
    have e := down_t r h ht
    refine spec_of Tryz.func33 rfl Tryz.ntmps33 Tryz.results33 ⟨by decide, by simp⟩ fun C hC => ?_
    (repeat (first | refine sp_ ?_ | exact ex0))
    simp only [hb, hb2]
    (repeat (first | refine sp_ ?_ | exact ex0))
    (refine ret_s [] ?_; simp (decide := true) (disch := omega) only [go_sem, ↓reduceIte, ↓put_at])
    exact e
  · rw [decide_eq_false ht] at hb
    have hb2 : (bits .and .u32 (r : Int) 1 == 0) = true := by simpa [bne] using hb
    have e := down_f r ht
    refine spec_of Tryz.func33 rfl Tryz.ntmps33 Tryz.results33 ⟨by decide, by simp⟩ fun C hC => ?_
    (repeat (first | refine sp_ ?_ | exact ex0))
    simp only [hb, hb2]
    (repeat (first | refine sp_ ?_ | exact ex0))
    (refine ret_s [] ?_; simp (decide := true) (disch := omega) only [go_sem, ↓reduceIte, ↓put_at])
    exact e
def Bv (b : UInt8) (j : Nat) : Nat := b.toNat * 2 ^ j % 256
theorem Bv_succ (b : UInt8) (j : Nat) : Bv b (j + 1) = Bv b j * 2 % 256 := by
  unfold Bv
  rw [Nat.pow_succ, ← Nat.mul_assoc]
  omega
theorem Bv_bit (b : UInt8) (j : Nat) (h : j < 8) : Bv b j / 128 = (b.toNat.testBit (7 - j)).toNat := by
  have hb := b.toNat_lt
  rw [Nat.toNat_testBit]
  unfold Bv
  have : j = 0 ∨ j = 1 ∨ j = 2 ∨ j = 3 ∨ j = 4 ∨ j = 5 ∨ j = 6 ∨ j = 7 := by omega
  rcases this with rfl | rfl | rfl | rfl | rfl | rfl | rfl | rfl <;> omega
theorem bits8_take (b : UInt8) (j : Nat) (h : j < 8) : (bits8 b).take (j + 1) = (bits8 b).take j ++ [b.toNat.testBit (7 - j)] := by
  have : j = 0 ∨ j = 1 ∨ j = 2 ∨ j = 3 ∨ j = 4 ∨ j = 5 ∨ j = 6 ∨ j = 7 := by omega
  rcases this with rfl | rfl | rfl | rfl | rfl | rfl | rfl | rfl <;> rfl
set_option maxRecDepth 100000 in
set_option maxHeartbeats 8000000 in
theorem crc_one (r : Nat) (b : UInt8) (h : r < 4294967296) : Spec Tryz.prog 68 [.ca (.val (vu r)), .ca (.val (.sc (.int .u8 b.toNat)))] [] (.ca (.val (vu (((bits8 b).foldl stepC r : Nat) : Int)))) [] := by
  have hb := b.toNat_lt
  refine spec_of Tryz.func68 rfl Tryz.ntmps68 Tryz.results68 ⟨by decide, by simp⟩ fun C hC => ?_
  (repeat (first | refine sp_ ?_ | exact ex0))
  refine loop_s (α := {j : Nat // j ≤ 8}) (fun j => [(.s 0, .av (.val (vu ((((bits8 b).take j.1).foldl stepC r : Nat) : Int)))), (.s 1, .av (.val (.sc (.int .u8 (Bv b j.1))))), (.s 5, .av (.val (vi j.1)))]) (fun j => 8 - j.1) ⟨0, by decide⟩ ?_ (fun j => ?_)
  · have e : Bv b 0 = b.toNat := by unfold Bv; omega
    rw [e]
    simp (decide := true) (disch := omega) only [go_sem, ↓reduceIte, ↓put_at]
    rfl
  · obtain ⟨j, hj⟩ := j
    dsimp only at hj ⊢
    have hR := fold_lt ((bits8 b).take j) r h
    by_cases hlt : j < 8
    · have hs := bits8_take b j hlt
      have hbt := Bv_bit b j hlt
      have hsc := Bv_succ b j
      have hv : Bv b j < 256 := Nat.mod_lt _ (by decide)
      generalize hRR : ((bits8 b).take j).foldl stepC r = R at *
      have hst : stepC R (b.toNat.testBit (7 - j)) = up R ^^^ (Bv b j / 128) := by rw [hbt]; rfl
      have hx := u32_xor (up R) (Bv b j / 128) (up_lt R) (by omega)
      have hc : ((Bv b j / 128 : Nat) : Int) = (Bv b j : Int) / 128 := by omega
      rw [hc, ← hst] at hx
      (repeat (first | refine sp_ ?_ | exact ex0))
      refine call_s Tryz.call90 (crc_up R hR) [] ?_
      (repeat (first | refine sp_ ?_ | exact ex0))
      simp only [hx]
      refine next_s (α := {j : Nat // j ≤ 8}) ⟨j + 1, hlt⟩ ⟨?_, by dsimp only; omega⟩
      rw [hs, List.foldl_append, hRR, hsc]
      simp (decide := true) (disch := omega) only [go_sem, ↓reduceIte, ↓put_at]
      exact ⟨rfl, by rw [IntKind.wrap_u8]; omega⟩
    · obtain rfl : j = 8 := by omega
      (repeat (first | refine sp_ ?_ | exact ex0))
      (refine ret_s [] ?_; simp (decide := true) (disch := omega) only [go_sem, ↓reduceIte, ↓put_at])
      rfl
theorem rem_snoc (l : List UInt8) (b : UInt8) : rem (l ++ [b]) = (bits8 b).foldl stepC (rem l) := by
  unfold rem
  rw [bitsL_app]
  unfold remB
  rw [List.foldl_append]
  have : bitsL [b] = bits8 b := by simp [bitsL]
  rw [this]
set_option maxRecDepth 100000 in
set_option maxHeartbeats 4000000 in
theorem crc_rem (ls : List (List UInt8)) (hl : ls.length ≤ maxLen) (hd : ∀ l ∈ ls, l.length ≤ maxLen) : Spec Tryz.prog 32 [.ca (.val (.lst 1 (ls.map strEl)))] [] (.ca (.val (vu (rem ls.flatten)))) [] := by
  unfold maxLen at hl
  refine spec_of Tryz.func32 rfl Tryz.ntmps32 Tryz.results32 ⟨by decide, by simp⟩ fun C hC => ?_
  (repeat (first | refine sp_ ?_ | exact ex0))
  refine loop_s (α := {j : Nat // j ≤ ls.length}) (fun j => [(.s 3, .av (.val (vu (rem (ls.take j.1).flatten)))), (.s 7, .av (.val (.lst 1 (ls.map strEl)))), (.s 8, .av (.val (vi ls.length))), (.s 9, .av (.val (vi j.1)))]) (fun j => ls.length - j.1) ⟨0, Nat.zero_le _⟩ ?_ (fun j => ?_)
  · have e : rem (ls.take 0).flatten = 0 := rfl
    rw [e]
    simp (decide := true) (disch := omega) only [go_sem, ↓reduceIte, ↓put_at]
  · obtain ⟨j, hj⟩ := j
    dsimp only at hj ⊢
    by_cases hlt : j < ls.length
    · have hs : ls.take (j + 1) = ls.take j ++ [ls[j]] := List.take_succ_eq_append_getElem hlt
      have hlj := hd _ (List.getElem_mem hlt)
      unfold maxLen at hlj
      have hfl : (ls.take (j + 1)).flatten = (ls.take j).flatten ++ ls[j] := by rw [hs, List.flatten_append, List.flatten_singleton]
      (repeat ((fail_if_success (refine stop_reg 6 ?_)); (first | refine sp_ ?_ | exact ex0)))
      generalize hL : ls[j] = L at *
      refine loop_s (α := {i : Nat // i ≤ L.length}) (fun i => [(.s 3, .av (.val (vu (rem ((ls.take j).flatten ++ L.take i.1))))), (.s 5, .av (.val (vs L))), (.s 7, .av (.val (.lst 1 (ls.map strEl)))), (.s 8, .av (.val (vi ls.length))), (.s 9, .av (.val (vi j))), (.s 14, .av (.val (vi L.length))), (.s 15, .av (.val (vi i.1)))]) (fun i => L.length - i.1) ⟨0, Nat.zero_le _⟩ ?_ (fun i => ?_)
      · rw [List.take_zero, List.append_nil]
        simp (decide := true) (disch := omega) only [go_sem, ↓reduceIte, ↓put_at]
      · obtain ⟨i, hi⟩ := i
        dsimp only at hi ⊢
        by_cases hlt2 : i < L.length
        · have hs2 : L.take (i + 1) = L.take i ++ [L[i]] := List.take_succ_eq_append_getElem hlt2
          have hR := rem_lt (bitsL ((ls.take j).flatten ++ L.take i))
          have hg : L.getD i 0 = L[i] := by simp [hlt2]
          have c1 := crc_one (rem ((ls.take j).flatten ++ L.take i)) L[i] hR
          have e1 : rem ((ls.take j).flatten ++ L.take (i + 1)) = (bits8 L[i]).foldl stepC (rem ((ls.take j).flatten ++ L.take i)) := by rw [hs2, ← List.append_assoc, rem_snoc]
          rw [← e1] at c1
          (repeat (first | refine sp_ ?_ | exact ex0))
          simp only [hg]
          refine call_s Tryz.call68 c1 [] ?_
          (repeat (first | refine sp_ ?_ | exact ex0))
          refine next_s (α := {i : Nat // i ≤ L.length}) ⟨i + 1, hlt2⟩ ⟨?_, by dsimp only; omega⟩
          simp (decide := true) (disch := omega) only [go_sem, ↓reduceIte, ↓put_at]
        · have hi2 : L.take i = L := List.take_of_length_le (by omega)
          rw [hi2, ← hfl]
          (repeat (first | refine sp_ ?_ | exact ex0))
          refine next_s (α := {j : Nat // j ≤ ls.length}) ⟨j + 1, hlt⟩ ⟨?_, by dsimp only; omega⟩
          simp (decide := true) (disch := omega) only [go_sem, ↓reduceIte, ↓put_at]
    · have hj2 : ls.take j = ls := List.take_of_length_le (by omega)
      rw [hj2]
      (repeat (first | refine sp_ ?_ | exact ex0))
      (refine ret_s [] ?_; simp (decide := true) (disch := omega) only [go_sem, ↓reduceIte, ↓put_at])
set_option maxRecDepth 100000 in
set_option maxHeartbeats 8000000 in
theorem crc_right (s : List UInt8) (hl : s.length ≤ maxLen) : Spec Tryz.prog 34 [.ca (.val (vs s))] [] (.ca (.val (vb (decide (rem s = 0))))) [] := by
  have c := crc_rem [s] (by unfold maxLen; simp) (fun l hl2 => by simp at hl2; subst hl2; exact hl)
  have e : [s].flatten = s := by simp
  rw [e] at c
  refine spec_of Tryz.func34 rfl Tryz.ntmps34 Tryz.results34 ⟨by decide, by simp⟩ fun C hC => ?_
  by_cases h : rem s = 0
  · rw [decide_eq_true h]
    (repeat (first | refine sp_ ?_ | exact ex0))
    refine call_s Tryz.call32 c [] ?_
    (repeat (first | refine sp_ ?_ | exact ex0))
    (refine ret_s [] ?_; simp (decide := true) (disch := omega) only [go_sem, ↓reduceIte, ↓put_at])
  · rw [decide_eq_false h]
    (repeat (first | refine sp_ ?_ | exact ex0))
    refine call_s Tryz.call32 c [] ?_
    (repeat (first | refine sp_ ?_ | exact ex0))
    (refine ret_s [] ?_; simp (decide := true) (disch := omega) only [go_sem, ↓reduceIte, ↓put_at])
theorem field_els (r : Nat) (h : r < 4294967296) : [[V.sc (.int .u8 ((r : Int) / 16777216))], [V.sc (.int .u8 (IntKind.u8.wrap ((r : Int) / 65536)))], [V.sc (.int .u8 (IntKind.u8.wrap ((r : Int) / 256)))], [V.sc (.int .u8 (IntKind.u8.wrap (r : Int)))]] = (putZ (r : Int) 4).map byteEl := by
  have e : IntKind.u8.wrap ((r : Int) / 16777216) = (r : Int) / 16777216 := wrap_u8 (by omega) (by omega)
  have h1 := byte_of ((r : Int) / 16777216)
  rw [e] at h1
  rw [h1, byte_of, byte_of, byte_of]
  unfold putZ putZ putZ putZ putZ
  simp
def sealOk (s : List UInt8) (a : Int) : Bool := decide (0 ≤ a ∧ a ≤ (s.length : Int) - 4)
def sealS (s : List UInt8) (a : Int) : List UInt8 := if sealOk s a = true then sealB (s.take a.toNat) (s.drop (a.toNat + 4)) else []
set_option maxRecDepth 100000 in
set_option maxHeartbeats 4000000 in
theorem crc_seal (s : List UInt8) (a : Int) (hl : s.length ≤ 1099511627776) : Spec Tryz.prog 10 [.ca (.val (vs s)), .ca (.val (vi a))] [] (.ca (.val (.tup [vs (sealS s a), vb (sealOk s a)]))) [] := by
  unfold sealS
  by_cases h1 : 0 ≤ a
  · by_cases h2 : a ≤ (s.length : Int) - 4
    · have ho : sealOk s a = true := decide_eq_true ⟨h1, h2⟩
      rw [ho, if_pos rfl]
      obtain ⟨n, rfl⟩ : ∃ n : Nat, a = n := ⟨a.toNat, by omega⟩
      obtain ⟨H, hH⟩ : ∃ H, H = s.take n := ⟨_, rfl⟩
      obtain ⟨T, hT⟩ : ∃ T, T = s.drop (n + 4) := ⟨_, rfl⟩
      have hHl : H.length = n := by rw [hH, List.length_take]; omega
      have hTl : T.length = s.length - (n + 4) := by rw [hT, List.length_drop]
      have c1 := crc_rem [H, [0, 0, 0, 0], T] (by unfold maxLen; simp) (fun l hl2 => by
        unfold maxLen
        simp at hl2
        rcases hl2 with rfl | rfl | rfl
        · omega
        · simp
        · omega)
      have e1 : [H, [0, 0, 0, 0], T].flatten = H ++ [0, 0, 0, 0] ++ T := by simp
      rw [e1] at c1
      have en : ((n : Int)).toNat = n := by omega
      have en4 : ((n : Int) + 4).toNat = n + 4 := by omega
      rw [Int.toNat_natCast, ← hH, ← hT]
      refine spec_of Tryz.func10 rfl Tryz.ntmps10 Tryz.results10 ⟨by decide, by simp⟩ fun C hC => ?_
      (repeat (first | refine sp_ ?_ | exact ex0))
      simp only [en4, ← hH, ← hT]
      refine call_s Tryz.call32 c1 [] ?_
      obtain ⟨R, hR⟩ : ∃ R, R = rem (H ++ [0, 0, 0, 0] ++ T) := ⟨_, rfl⟩
      have hRl : R < 4294967296 := by rw [hR]; exact rem_lt _
      have hfb : fieldB H T = putZ ((downN (8 * T.length) R : Nat) : Int) 4 := by unfold fieldB; rw [hR]
      rw [← hR]
      (repeat (first | refine sp_ ?_ | exact ex0))
      refine loop_s (α := {k : Nat // k ≤ 8 * T.length}) (fun k => [(.s 6, .av (.val (vs H))), (.s 7, .av (.val (vs T))), (.s 8, .av (.val (vu (downN k.1 R : Nat)))), (.s 32, .av (.val (vi (8 * T.length : Nat)))), (.s 33, .av (.val (vi k.1)))]) (fun k => 8 * T.length - k.1) ⟨0, Nat.zero_le _⟩ ?_ (fun k => ?_)
      · have e0 : downN 0 R = R := rfl
        rw [e0]
        simp (decide := true) (disch := omega) only [go_sem, ↓reduceIte, ↓put_at]
        omega
      · obtain ⟨k, hk⟩ := k
        dsimp only at hk ⊢
        have hdl := downN_lt k R hRl
        by_cases hlt : k < 8 * T.length
        · have hds : downN (k + 1) R = down (downN k R) := rfl
          (repeat (first | refine sp_ ?_ | exact ex0))
          refine call_s Tryz.call33 (crc_down (downN k R) hdl) [] ?_
          (repeat (first | refine sp_ ?_ | exact ex0))
          refine next_s (α := {k : Nat // k ≤ 8 * T.length}) ⟨k + 1, hlt⟩ ⟨?_, by dsimp only; omega⟩
          rw [hds]
          simp (decide := true) (disch := omega) only [go_sem, ↓reduceIte, ↓put_at]
        · obtain rfl : k = 8 * T.length := by omega
          generalize downN (8 * T.length) R = r at *
          have hz := putZ_length (r : Int) 4
          have hfe := field_els r hdl
          (repeat (first | refine sp_ ?_ | exact ex0))
          simp only [hfe]
          refine convBS_s (putZ (r : Int) 4) (by simp (decide := true) (disch := omega) only [go_sem, ↓reduceIte, ↓put_at]) (by simp (decide := true) (disch := omega) only [go_sem, ↓reduceIte, ↓put_at]) (by simp (decide := true) (disch := omega) only [go_sem, ↓reduceIte, ↓put_at]) ?_
          (repeat (first | refine sp_ ?_ | exact ex0))
          (refine ret_s [] ?_; simp (decide := true) (disch := omega) only [go_sem, ↓reduceIte, ↓put_at])
          unfold sealB
          rw [hfb]
          all_goals (try simp)
    · have ho : sealOk s a = false := decide_eq_false (fun h => h2 h.2)
      rw [ho, if_neg (by decide)]
      refine spec_of Tryz.func10 rfl Tryz.ntmps10 Tryz.results10 ⟨by decide, by simp⟩ fun C hC => ?_
      (repeat (first | refine sp_ ?_ | exact ex0))
      (refine ret_s [] ?_; simp (decide := true) (disch := omega) only [go_sem, ↓reduceIte, ↓put_at])
  · have ho : sealOk s a = false := decide_eq_false (fun h => h1 h.1)
    rw [ho, if_neg (by decide)]
    refine spec_of Tryz.func10 rfl Tryz.ntmps10 Tryz.results10 ⟨by decide, by simp⟩ fun C hC => ?_
    (repeat (first | refine sp_ ?_ | exact ex0))
    (refine ret_s [] ?_; simp (decide := true) (disch := omega) only [go_sem, ↓reduceIte, ↓put_at])
end Go.Proofs.YtjkmnjmmnjhacaaGreat

