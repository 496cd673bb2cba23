/- Package crc: up, down, one, Rem, Right, Seal. -/
import Derived.Test.YtbnnfmleoebelaaGreatSubMz
import Derived.Test.YtbnnfmleoebelaaGreatRLz
import Derived.Test.YtbnnfmleoebelaaGreatCrcM2z
import Derived.Test.YtbnnfmleoebelaaGreatOpenz
import Derived.Test.YtbnnfmleoebelaaGreatShelfz
namespace Go.Proofs.YtbnnfmleoebelaaGreat
open Go.RowKit
set_option linter.unusedVariables false
set_option linter.unusedSimpArgs false

set_option maxRecDepth 100000 in
set_option maxHeartbeats 8000000 in
theorem crc_up (r : Nat) (h : r < 4294967296) : Spec Tryz.prog 89 [.ca (.val (vu r))] [] (.ca (.val (vu (up r)))) [] := by
  have hb := top_bit r h
  cases ht : r.testBit 31 with
  | true =>
    rw [ht] at hb
    have hb2 : (bits .and .u32 (r : Int) 2147483648 == 0) = false := by simpa [bne] using hb
    have e := up_t r h ht
    refine spec_of Tryz.func89 rfl Tryz.ntmps89 Tryz.results89 ⟨by decide, by simp⟩ fun C hC => ?_
    (repeat (first | refine sp_ ?_ | exact ex0))
    simp only [hb, hb2]
    (repeat (first | refine sp_ ?_ | exact ex0))
    (refine ret_s [] ?_; simp (decide := true) (disch := omega) only [go_sem, ↓reduceIte, ↓put_at])
    exact e
  | false =>
    rw [ht] at hb
    have hb2 : (bits .and .u32 (r : Int) 2147483648 == 0) = true := by simpa [bne] using hb
    have e := up_f r h ht
    have hl := up_lt r
    refine spec_of Tryz.func89 rfl Tryz.ntmps89 Tryz.results89 ⟨by decide, by simp⟩ fun C hC => ?_
    (repeat (first | refine sp_ ?_ | exact ex0))
    simp only [hb, hb2]
    (repeat (first | refine sp_ ?_ | exact ex0))
    (refine ret_s [] ?_; simp (decide := true) (disch := omega) only [go_sem, ↓reduceIte, ↓put_at])
    exact e
set_option maxRecDepth 100000 in
set_option maxHeartbeats 8000000 in
theorem crc_down (r : Nat) (h : r < 4294967296) : Spec Tryz.prog 42 [.ca (.val (vu r))] [] (.ca (.val (vu (down r)))) [] := by
  have hb := low_bit r h
  by_cases ht : r % 2 = 1
  · rw [decide_eq_true ht] at hb
    have hb2 : (bits .and .u32 (r : Int) 1 == 0) = false := by simpa [bne] using hb
    have e := down_t r h ht
    refine spec_of Tryz.func42 rfl Tryz.ntmps42 Tryz.results42 ⟨by decide, by simp⟩ fun C hC => ?_
    (repeat (first | refine sp_ ?_ | exact ex0))
    simp only [hb, hb2]
    (repeat (first | refine sp_ ?_ | exact ex0))
    (refine ret_s [] ?_; simp (decide := true) (disch := omega) only [go_sem, ↓reduceIte, ↓put_at])
    exact e
  · rw [decide_eq_false ht] at hb
    have hb2 : (bits .and .u32 (r : Int) 1 == 0) = true := by simpa [bne] using hb
    have e := down_f r ht
    refine spec_of Tryz.func42 rfl Tryz.ntmps42 Tryz.results42 ⟨by decide, by simp⟩ fun C hC => ?_
    (repeat (first | refine sp_ ?_ | exact ex0))
    simp only [hb, hb2]
    (repeat (first | refine sp_ ?_ | exact ex0))
    (refine ret_s [] ?_; simp (decide := true) (disch := omega) only [go_sem, ↓reduceIte, ↓put_at])
    exact e
def Bv (b : UInt8) (j : Nat) : Nat := b.toNat * 2 ^ j % 256
theorem Bv_succ (b : UInt8) (j : Nat) : Bv b (j + 1) = Bv b j * 2 % 256 := by
  unfold Bv
  rw [Nat.pow_succ, ← Nat.mul_assoc]
  omega
theorem Bv_bit (b : UInt8) (j : Nat) (h : j < 8) : Bv b j / 128 = (b.toNat.testBit (7 - j)).toNat := by
  have hb := b.toNat_lt
  rw [Nat.toNat_testBit]
  unfold Bv
  have : j = 0 ∨ j = 1 ∨ j = 2 ∨ j = 3 ∨ j = 4 ∨ j = 5 ∨ j = 6 ∨ j = 7 := by omega
  rcases this with rfl | rfl | rfl | rfl | rfl | rfl | rfl | rfl <;> omega
theorem bits8_take (b : UInt8) (j : Nat) (h : j < 8) : (bits8 b).take (j + 1) = (bits8 b).take j ++ [b.toNat.testBit (7 - j)] := by
  have : j = 0 ∨ j = 1 ∨ j = 2 ∨ j = 3 ∨ j = 4 ∨ j = 5 ∨ j = 6 ∨ j = 7 := by omega
  rcases this with rfl | rfl | rfl | rfl | rfl | rfl | rfl | rfl <;> rfl
set_option maxRecDepth 100000 in
set_option maxHeartbeats 8000000 in
theorem crc_one (r : Nat) (b : UInt8) (h : r < 4294967296) : Spec Tryz.prog 66 [.ca (.val (vu r)), .ca (.val (.sc (.int .u8 b.toNat)))] [] (.ca (.val (vu (((bits8 b).foldl stepC r : Nat) : Int)))) [] := by
  have hb := b.toNat_lt
  refine spec_of Tryz.func66 rfl Tryz.ntmps66 Tryz.results66 ⟨by decide, by simp⟩ fun C hC => ?_
  (repeat (first | refine sp_ ?_ | exact ex0))
  refine loop_s (α := {j : Nat // j ≤ 8}) (fun j => [(.s 0, .av (.val (vu ((((bits8 b).take j.1).foldl stepC r : Nat) : Int)))), (.s 1, .av (.val (.sc (.int .u8 (Bv b j.1))))), (.s 5, .av (.val (vi j.1)))]) (fun j => 8 - j.1) ⟨0, by decide⟩ ?_ (fun j => ?_)
  · have e : Bv b 0 = b.toNat := by unfold Bv; omega
    rw [e]
    simp (decide := true) (disch := omega) only [go_sem, ↓reduceIte, ↓put_at]
    rfl
  · obtain ⟨j, hj⟩ := j
    dsimp only at hj ⊢
    have hR := fold_lt ((bits8 b).take j) r h
    by_cases hlt : j < 8
    · have hs := bits8_take b j hlt
      have hbt := Bv_bit b j hlt
      have hsc := Bv_succ b j
      have hv : Bv b j < 256 := Nat.mod_lt _ (by decide)
      generalize hRR : ((bits8 b).take j).foldl stepC r = R at *
      have hst : stepC R (b.toNat.testBit (7 - j)) = up R ^^^ (Bv b j / 128) := by rw [hbt]; rfl
      have hx := u32_xor (up R) (Bv b j / 128) (up_lt R) (by omega)
      have hc : ((Bv b j / 128 : Nat) : Int) = (Bv b j : Int) / 128 := by omega
      rw [hc, ← hst] at hx
      (repeat (first | refine sp_ ?_ | exact ex0))
      refine call_s Tryz.call89 (crc_up R hR) [] ?_
      (repeat (first | refine sp_ ?_ | exact ex0))
      simp only [hx]
      refine next_s (α := {j : Nat // j ≤ 8}) ⟨j + 1, hlt⟩ ⟨?_, by dsimp only; omega⟩
      rw [hs, List.foldl_append, hRR, hsc]
      simp (decide := true) (disch := omega) only [go_sem, ↓reduceIte, ↓put_at]
      exact ⟨rfl, by rw [IntKind.wrap_u8]; omega⟩
    · obtain rfl : j = 8 := by omega
      (repeat (first | refine sp_ ?_ | exact ex0))
      (refine ret_s [] ?_; simp (decide := true) (disch := omega) only [go_sem, ↓reduceIte, ↓put_at])
      rfl
theorem rem_snoc (l : List UInt8) (b : UInt8) : rem (l ++ [b]) = (bits8 b).foldl stepC (rem l) := by
  unfold rem
  rw [bitsL_app]
  unfold remB
  rw [List.foldl_append]
  have : bitsL [b] = bits8 b := by simp [bitsL]
  rw [this]
set_option maxRecDepth 100000 in
set_option maxHeartbeats 4000000 in
theorem crc_rem (ls : List (List UInt8)) (hl : ls.length ≤ maxLen) (hd : ∀ l ∈ ls, l.length ≤ maxLen) : Spec Tryz.prog 41 [.ca (.val (.lst 1 (ls.map strEl)))] [] (.ca (.val (vu (rem ls.flatten)))) [] := by
  unfold maxLen at hl
  refine spec_of Tryz.func41 rfl Tryz.ntmps41 Tryz.results41 ⟨by decide, by simp⟩ fun C hC => ?_
  (repeat (first | refine sp_ ?_ | exact ex0))
  refine loop_s (α := {j : Nat // j ≤ ls.length}) (fun j => [(.s 3, .av (.val (vu (rem (ls.take j.1).flatten)))), (.s 7, .av (.val (.lst 1 (ls.map strEl)))), (.s 8, .av (.val (vi ls.length))), (.s 9, .av (.val (vi j.1)))]) (fun j => ls.length - j.1) ⟨0, Nat.zero_le _⟩ ?_ (fun j => ?_)
  · have e : rem (ls.take 0).flatten = 0 := rfl
    rw [e]
    simp (decide := true) (disch := omega) only [go_sem, ↓reduceIte, ↓put_at]
  · obtain ⟨j, hj⟩ := j
    dsimp only at hj ⊢
    by_cases hlt : j < ls.length
    · have hs : ls.take (j + 1) = ls.take j ++ [ls[j]] := List.take_succ_eq_append_getElem hlt
      have hlj := hd _ (List.getElem_mem hlt)
      unfold maxLen at hlj
      have hfl : (ls.take (j + 1)).flatten = (ls.take j).flatten ++ ls[j] := by rw [hs, List.flatten_append, List.flatten_singleton]
      (repeat ((fail_if_success (refine stop_reg 6 ?_)); (first | refine sp_ ?_ | exact ex0)))
      generalize hL : ls[j] = L at *
      refine loop_s (α := {i : Nat // i ≤ L.length}) (fun i => [(.s 3, .av (.val (vu (rem ((ls.take j).flatten ++ L.take i.1))))), (.s 5, .av (.val (vs L))), (.s 7, .av (.val (.lst 1 (ls.map strEl)))), (.s 8, .av (.val (vi ls.length))), (.s 9, .av (.val (vi j))), (.s 14, .av (.val (vi L.length))), (.s 15, .av (.val (vi i.1)))]) (fun i => L.length - i.1) ⟨0, Nat.zero_le _⟩ ?_ (fun i => ?_)
      · rw [List.take_zero, List.append_nil]
        simp (decide := true) (disch := omega) only [go_sem, ↓reduceIte, ↓put_at]
      · obtain ⟨i, hi⟩ := i
        dsimp only at hi ⊢
        by_cases hlt2 : i < L.length
        · have hs2 : L.take (i + 1) = L.take i ++ [L[i]] := List.take_succ_eq_append_getElem hlt2
          have hR := rem_lt (bitsL ((ls.take j).flatten ++ L.take i))
          have hg : L.getD i 0 = L[i] := by simp [hlt2]
          have c1 := crc_one (rem ((ls.take j).flatten ++ L.take i)) L[i] hR
          have e1 : rem ((ls.take j).flatten ++ L.take (i + 1)) = (bits8 L[i]).foldl stepC (rem ((ls.take j).flatten ++ L.take i)) := by rw [hs2, ← List.append_assoc, rem_snoc]
          rw [← e1] at c1
          (repeat (first | refine sp_ ?_ | exact ex0))
          simp only [hg]
          refine call_s Tryz.call66 c1 [] ?_
          (repeat (first | refine sp_ ?_ | exact ex0))
          refine next_s (α := {i : Nat // i ≤ L.length}) ⟨i + 1, hlt2⟩ ⟨?_, by dsimp only; omega⟩
          simp (decide := true) (disch := omega) only [go_sem, ↓reduceIte, ↓put_at]
        · have hi2 : L.take i = L := List.take_of_length_le (by omega)
          rw [hi2, ← hfl]
          (repeat (first | refine sp_ ?_ | exact ex0))
          refine next_s (α := {j : Nat // j ≤ ls.length}) ⟨j + 1, hlt⟩ ⟨?_, by dsimp only; omega⟩
          simp (decide := true) (disch := omega) only [go_sem, ↓reduceIte, ↓put_at]
    · have hj2 : ls.take j = ls := List.take_of_length_le (by omega)
      rw [hj2]
      (repeat (first | refine sp_ ?_ | exact ex0))
      (refine ret_s [] ?_; simp (decide := true) (disch := omega) only [go_sem, ↓reduceIte, ↓put_at])
set_option maxRecDepth 100000 in
set_option maxHeartbeats 8000000 in
theorem crc_right (s : List UInt8) (hl : s.length ≤ maxLen) : Spec Tryz.prog 28 [.ca (.val (vs s))] [] (.ca (.val (vb (decide (rem s = 0))))) [] := by
  have c := crc_rem [s] (by unfold maxLen; simp) (fun l hl2 => by simp at hl2; subst hl2; exact hl)
  have e : [s].flatten = s := by simp
  rw [e] at c
  refine spec_of Tryz.func28 rfl Tryz.ntmps28 Tryz.results28 ⟨by decide, by simp⟩ fun C hC => ?_
  by_cases h : rem s = 0
  · rw [decide_eq_true h]
    (repeat (first | refine sp_ ?_ | exact ex0))
    refine call_s Tryz.call41 c [] ?_
    (repeat (first | refine sp_ ?_ | exact ex0))
    (refine ret_s [] ?_; simp (decide := true) (disch := omega) only [go_sem, ↓reduceIte, ↓put_at])
  · rw [decide_eq_false h]
    (repeat (first | refine sp_ ?_ | exact ex0))
    refine call_s Tryz.call41 c [] ?_
    (repeat (first | refine sp_ ?_ | exact ex0))
    (refine ret_s [] ?_; simp (decide := true) (disch := omega) only [go_sem, ↓reduceIte, ↓put_at])
theorem field_els (r : Nat) (h : r < 4294967296) : [[V.sc (.int .u8 ((r : Int) / 16777216))], [V.sc (.int .u8 (IntKind.u8.wrap ((r : Int) / 65536)))], [V.sc (.int .u8 (IntKind.u8.wrap ((r : Int) / 256)))], [V.sc (.int .u8 (IntKind.u8.wrap (r : Int)))]] = (putZ (r : Int) 4).map byteEl := by
  have e : IntKind.u8.wrap ((r : Int) / 16777216) = (r : Int) / 16777216 := wrap_u8 (by omega) (by omega)
  have h1 := byte_of ((r : Int) / 16777216)
  rw [e] at h1
  rw [h1, byte_of, byte_of, byte_of]
  unfold putZ putZ putZ putZ putZ
  simp
def sealOk (s : List UInt8) (a : Int) : Bool := decide (0 ≤ a ∧ a ≤ (s.length : Int) - 4)
def sealS (s : List UInt8) (a : Int) : List UInt8 := if sealOk s a = true then sealB (s.take a.toNat) (s.drop (a.toNat + 4)) else []
set_option maxRecDepth 100000 in
set_option maxHeartbeats 4000000 in
theorem crc_seal (s : List UInt8) (a : Int) (hl : s.length ≤ 1099511627776) : Spec Tryz.prog 27 [.ca (.val (vs s)), .ca (.val (vi a))] [] (.ca (.val (.tup [vs (sealS s a), vb (sealOk s a)]))) [] := by
  unfold sealS
  by_cases h1 : 0 ≤ a
  · by_cases h2 : a ≤ (s.length : Int) - 4
    · have ho : sealOk s a = true := decide_eq_true ⟨h1, h2⟩
      rw [ho, if_pos rfl]
      obtain ⟨n, rfl⟩ : ∃ n : Nat, a = n := ⟨a.toNat, by omega⟩
      obtain ⟨H, hH⟩ : ∃ H, H = s.take n := ⟨_, rfl⟩
      obtain ⟨T, hT⟩ : ∃ T, T = s.drop (n + 4) := ⟨_, rfl⟩
      have hHl : H.length = n := by rw [hH, List.length_take]; omega
      have hTl : T.length = s.length - (n + 4) := by rw [hT, List.length_drop]
      have c1 := crc_rem [H, [0, 0, 0, 0], T] (by unfold maxLen; simp) (fun l hl2 => by
        unfold maxLen
        simp at hl2
        rcases hl2 with rfl | rfl | rfl
        · omega
        · simp
        · omega)
      have e1 : [H, [0, 0, 0, 0], T].flatten = H ++ [0, 0, 0, 0] ++ T := by simp
      rw [e1] at c1
      have en : ((n : Int)).toNat = n := by omega
      have en4 : ((n : Int) + 4).toNat = n + 4 := by omega
      rw [Int.toNat_natCast, ← hH, ← hT]
      refine spec_of Tryz.func27 rfl Tryz.ntmps27 Tryz.results27 ⟨by decide, by simp⟩ fun C hC => ?_
      (repeat (first | refine sp_ ?_ | exact ex0))
      simp only [en4, ← hH, ← hT]
      refine call_s Tryz.call41 c1 [] ?_
      obtain ⟨R, hR⟩ : ∃ R, R = rem (H ++ [0, 0, 0, 0] ++ T) := ⟨_, rfl⟩
      have hRl : R < 4294967296 := by rw [hR]; exact rem_lt _
      have hfb : fieldB H T = putZ ((downN (8 * T.length) R : Nat) : Int) 4 := by unfold fieldB; rw [hR]
      rw [← hR]
      (repeat (first | refine sp_ ?_ | exact ex0))
      refine loop_s (α := {k : Nat // k ≤ 8 * T.length}) (fun k => [(.s 6, .av (.val (vs H))), (.s 7, .av (.val (vs T))), (.s 8, .av (.val (vu (downN k.1 R : Nat)))), (.s 32, .av (.val (vi (8 * T.length : Nat)))), (.s 33, .av (.val (vi k.1)))]) (fun k => 8 * T.length - k.1) ⟨0, Nat.zero_le _⟩ ?_ (fun k => ?_)
      · have e0 : downN 0 R = R := rfl
        rw [e0]
        simp (decide := true) (disch := omega) only [go_sem, ↓reduceIte, ↓put_at]
        omega
      · obtain ⟨k, hk⟩ := k
        dsimp only at hk ⊢
        have hdl := downN_lt k R hRl
        by_cases hlt : k < 8 * T.length
        · have hds : downN (k + 1) R = down (downN k R) := rfl
          (repeat (first | refine sp_ ?_ | exact ex0))
          refine call_s Tryz.call42 (crc_down (downN k R) hdl) [] ?_
          (repeat (first | refine sp_ ?_ | exact ex0))
          refine next_s (α := {k : Nat // k ≤ 8 * T.length}) ⟨k + 1, hlt⟩ ⟨?_, by dsimp only; omega⟩
          rw [hds]
          simp (decide := true) (disch := omega) only [go_sem, ↓reduceIte, ↓put_at]
        · obtain rfl : k = 8 * T.length := by omega
          generalize downN (8 * T.length) R = r at *
          have hz := putZ_length (r : Int) 4
          have hfe := field_els r hdl
          (repeat (first | refine sp_ ?_ | exact ex0))
          simp only [hfe]
          refine convBS_s (putZ (r : Int) 4) (by simp (decide := true) (disch := omega) only [go_sem, ↓reduceIte, ↓put_at]) (by simp (decide := true) (disch := omega) only [go_sem, ↓reduceIte, ↓put_at]) (by simp (decide := true) (disch := omega) only [go_sem, ↓reduceIte, ↓put_at]) ?_
          (repeat (first | refine sp_ ?_ | exact ex0))
          (refine ret_s [] ?_; simp (decide := true) (disch := omega) only [go_sem, ↓reduceIte, ↓put_at])
          unfold sealB
          rw [hfb]
          all_goals (try simp)
    · have ho : sealOk s a = false := decide_eq_false (fun h => h2 h.2)
      rw [ho, if_neg (by decide)]
      refine spec_of Tryz.func27 rfl Tryz.ntmps27 Tryz.results27 ⟨by decide, by simp⟩ fun C hC => ?_
      (repeat (first | refine sp_ ?_ | exact ex0))
      (refine ret_s [] ?_; simp (decide := true) (disch := omega) only [go_sem, ↓reduceIte, ↓put_at])
  · have ho : sealOk s a = false := decide_eq_false (fun h => h1 h.1)
    rw [ho, if_neg (by decide)]
    refine spec_of Tryz.func27 rfl Tryz.ntmps27 Tryz.results27 ⟨by decide, by simp⟩ fun C hC => ?_
    (repeat (first | refine sp_ ?_ | exact ex0))
    (refine ret_s [] ?_; simp (decide := true) (disch := omega) only [go_sem, ↓reduceIte, ↓put_at])
end Go.Proofs.YtbnnfmleoebelaaGreat

namespace Go.Proofs.YtbnnfmleoebelaaGreat
open Go.RowKit
set_option linter.unusedVariables false
set_option linter.unusedSimpArgs false

end Go.Proofs.YtbnnfmleoebelaaGreat
namespace Go.Proofs.YtbnnfmleoebelaaGreat
open Go.RowKit
set_option linter.unusedVariables false
set_option linter.unusedSimpArgs false

def bitEl (b : Bool) : List V := [vi b.toNat]
attribute [go_sem] bitEl
end Go.Proofs.YtbnnfmleoebelaaGreat

namespace Go.Proofs.YtbnnfmleoebelaaGreat
open Go.RowKit
set_option linter.unusedVariables false
set_option linter.unusedSimpArgs false

def csum : List UInt8 := [99, 115, 117, 109]
/-- Which kind a piece is read as; 0: none. -/
def sayP (p : Pc) : Int :=
  if ofE p = 0 then 1 else if namesE p = 0 then 2 else if byeE p = 0 then 3 else if appE p = 0 then 4 else if nackE p = 0 then 5 else if linesE p = 0 then 6 else if adsE p = 0 then 7 else 0
/-- What the document says of a piece. -/
def whatP (p : Pc) : Int :=
  if ofE p = 0 then 1 else if namesE p = 0 ∧ namesR p ≠ [] then 2 else if byeE p = 0 then 3 else if appE p = 0 ∧ (appR p).name ≠ csum then 4
  else if nackE p = 0 then 5 else if linesE p = 0 then 6 else if adsE p = 0 then 7 else 0
theorem just_kind {p q : Pc} {k : Int} (h : justE p k q = 0) : p.2.1 = k ∧ q = p := by
  unfold justE at h
  split at h
  · cases h
  · split at h
    · cases h
    · rename_i h1 h2
      exact ⟨Classical.not_not.1 h1, Classical.not_not.1 h2⟩
theorem ofE_kind {p : Pc} (h : ofE p = 0) : p.2.1 = 200 ∨ p.2.1 = 201 := by
  unfold ofE at h
  split at h
  · cases h
  · omega
theorem nackE_kind {p : Pc} (h : nackE p = 0) : p.2.1 = 205 := by
  unfold nackE at h
  split at h
  · cases h
  · omega
theorem linesE_kind {p : Pc} (h : linesE p = 0) : p.2.1 = 211 := by
  unfold linesE at h
  split at h
  · cases h
  · omega
theorem adsE_kind {p : Pc} (h : adsE p = 0) : p.2.1 = 211 := by
  unfold adsE at h
  split at h
  · cases h
  · omega
theorem sayP_cases (p : Pc) : (sayP p = 1 ∧ ofE p = 0) ∨ (sayP p = 2 ∧ ofE p ≠ 0 ∧ namesE p = 0) ∨ (sayP p = 3 ∧ ofE p ≠ 0 ∧ namesE p ≠ 0 ∧ byeE p = 0) ∨ (sayP p = 4 ∧ ofE p ≠ 0 ∧ namesE p ≠ 0 ∧ byeE p ≠ 0 ∧ appE p = 0) ∨
    (sayP p = 5 ∧ ofE p ≠ 0 ∧ namesE p ≠ 0 ∧ byeE p ≠ 0 ∧ appE p ≠ 0 ∧ nackE p = 0) ∨ (sayP p = 6 ∧ ofE p ≠ 0 ∧ namesE p ≠ 0 ∧ byeE p ≠ 0 ∧ appE p ≠ 0 ∧ nackE p ≠ 0 ∧ linesE p = 0) ∨
    (sayP p = 7 ∧ ofE p ≠ 0 ∧ namesE p ≠ 0 ∧ byeE p ≠ 0 ∧ appE p ≠ 0 ∧ nackE p ≠ 0 ∧ linesE p ≠ 0 ∧ adsE p = 0) ∨ (sayP p = 0 ∧ ofE p ≠ 0 ∧ namesE p ≠ 0 ∧ byeE p ≠ 0 ∧ appE p ≠ 0 ∧ nackE p ≠ 0 ∧ linesE p ≠ 0 ∧ adsE p ≠ 0) := by
  unfold sayP
  by_cases h1 : ofE p = 0
  · simp [h1]
  by_cases h2 : namesE p = 0
  · simp [h1, h2]
  by_cases h3 : byeE p = 0
  · simp [h1, h2, h3]
  by_cases h4 : appE p = 0
  · simp [h1, h2, h3, h4]
  by_cases h5 : nackE p = 0
  · simp [h1, h2, h3, h4, h5]
  by_cases h6 : linesE p = 0
  · simp [h1, h2, h3, h4, h5, h6]
  by_cases h7 : adsE p = 0
  · simp [h1, h2, h3, h4, h5, h6, h7]
  · simp [h1, h2, h3, h4, h5, h6, h7]
/-- What the document says, by the kind that a piece is read as. -/
theorem whatP_eq (p : Pc) : whatP p = if (sayP p = 2 ∧ namesR p = []) ∨ (sayP p = 4 ∧ (appR p).name = csum) then 0 else sayP p := by
  have k2 : namesE p = 0 → p.2.1 = 202 := fun h => (just_kind h).1
  have k3 : byeE p = 0 → p.2.1 = 203 := fun h => (just_kind h).1
  have k4 : appE p = 0 → p.2.1 = 204 := fun h => (just_kind h).1
  have k5 := @nackE_kind p
  have k6 := @linesE_kind p
  have k7 := @adsE_kind p
  unfold whatP
  rcases sayP_cases p with ⟨h, h1⟩ | ⟨h, h1, h2⟩ | ⟨h, h1, h2, h3⟩ | ⟨h, h1, h2, h3, h4⟩ | ⟨h, h1, h2, h3, h4, h5⟩ | ⟨h, h1, h2, h3, h4, h5, h6⟩ | ⟨h, h1, h2, h3, h4, h5, h6, h7⟩ | ⟨h, h1, h2, h3, h4, h5, h6, h7⟩
  · rw [h, if_pos h1, if_neg (by omega)]
  · have hk := k2 h2
    rw [h, if_neg h1]
    by_cases hn : namesR p = []
    · rw [if_neg (fun h => h.2 hn), if_neg (fun h => by have := k3 h; omega), if_neg (fun h => by have := k4 h.1; omega), if_neg (fun h => by have := k5 h; omega), if_neg (fun h => by have := k6 h; omega), if_neg (fun h => by have := k7 h; omega), if_pos (.inl ⟨rfl, hn⟩)]
    · rw [if_pos ⟨h2, hn⟩, if_neg (by simp [hn])]
  · rw [h, if_neg h1, if_neg (fun h => h2 h.1), if_pos h3, if_neg (by omega)]
  · have hk := k4 h4
    rw [h, if_neg h1, if_neg (fun h => h2 h.1), if_neg h3]
    by_cases hn : (appR p).name = csum
    · rw [if_neg (fun h => h.2 hn), if_neg (fun h => by have := k5 h; omega), if_neg (fun h => by have := k6 h; omega), if_neg (fun h => by have := k7 h; omega), if_pos (.inr ⟨rfl, hn⟩)]
    · rw [if_pos ⟨h4, hn⟩, if_neg (by simp [hn])]
  · rw [h, if_neg h1, if_neg (fun h => h2 h.1), if_neg h3, if_neg (fun h => h4 h.1), if_pos h5, if_neg (by omega)]
  · rw [h, if_neg h1, if_neg (fun h => h2 h.1), if_neg h3, if_neg (fun h => h4 h.1), if_neg h5, if_pos h6, if_neg (by omega)]
  · rw [h, if_neg h1, if_neg (fun h => h2 h.1), if_neg h3, if_neg (fun h => h4 h.1), if_neg h5, if_neg h6, if_pos h7, if_neg (by omega)]
  · rw [h, if_neg h1, if_neg (fun h => h2 h.1), if_neg h3, if_neg (fun h => h4 h.1), if_neg h5, if_neg h6, if_neg h7, if_neg (by omega)]
/-- What pieces say. -/
structure Bag12 where
  reports : List R8
  names : List N9
  byes : List Y9
  apps : List A9
  nacks : List N10
  lines : List R11
  ads : List S11
def noBag : Bag12 := ⟨[], [], [], [], [], [], []⟩
def tookB (B : Bag12) (p : Pc) : Bag12 :=
  ⟨B.reports ++ (if sayP p = 1 then [ofR p] else []), B.names ++ (if sayP p = 2 then namesR p else []), B.byes ++ (if sayP p = 3 then [byeR p] else []),
   B.apps ++ (if sayP p = 4 ∧ (appR p).name ≠ csum then [appR p] else []), B.nacks ++ (if sayP p = 5 then [nackR p] else []), B.lines ++ (if sayP p = 6 then [linesR p] else []), B.ads ++ (if sayP p = 7 then [adsR p] else [])⟩
def bagOf (ps : List Pc) : Bag12 := ps.foldl tookB noBag
theorem bagOf_snoc (ps : List Pc) (p : Pc) : bagOf (ps ++ [p]) = tookB (bagOf ps) p := by simp [bagOf]
theorem bag_map (ps : List Pc) : bagOf ps = ⟨ps.flatMap fun p => if sayP p = 1 then [ofR p] else [], ps.flatMap fun p => if sayP p = 2 then namesR p else [], ps.flatMap fun p => if sayP p = 3 then [byeR p] else [],
    ps.flatMap fun p => if sayP p = 4 ∧ (appR p).name ≠ csum then [appR p] else [], ps.flatMap fun p => if sayP p = 5 then [nackR p] else [], ps.flatMap fun p => if sayP p = 6 then [linesR p] else [], ps.flatMap fun p => if sayP p = 7 then [adsR p] else []⟩ := by
  have key : ∀ (qs : List Pc) (B : Bag12), qs.foldl tookB B = ⟨B.reports ++ qs.flatMap fun p => if sayP p = 1 then [ofR p] else [], B.names ++ qs.flatMap fun p => if sayP p = 2 then namesR p else [], B.byes ++ qs.flatMap fun p => if sayP p = 3 then [byeR p] else [],
      B.apps ++ qs.flatMap fun p => if sayP p = 4 ∧ (appR p).name ≠ csum then [appR p] else [], B.nacks ++ qs.flatMap fun p => if sayP p = 5 then [nackR p] else [], B.lines ++ qs.flatMap fun p => if sayP p = 6 then [linesR p] else [], B.ads ++ qs.flatMap fun p => if sayP p = 7 then [adsR p] else []⟩ := by
    intro qs
    induction qs with
    | nil => intro B; simp
    | cons q qs ih =>
      intro B
      rw [List.foldl_cons, ih]
      simp only [tookB, List.flatMap_cons, List.append_assoc]
  unfold bagOf
  rw [key]
  rfl
/-- May pieces stand in this order? -/
def badAt (ps : List Pc) (i : Nat) : Prop := ∃ h : i < ps.length, (i = 0 ∧ whatP ps[i] ≠ 1) ∨ (whatP ps[i] = 3 ∧ i + 1 < ps.length)
def formOk12 (ps : List Pc) : Prop := ps ≠ [] ∧ ps.all mayP = true ∧ (∀ i, ¬ badAt ps i) ∧ ∃ p ∈ ps, whatP p = 2
open Classical in
/-- What is wrong first. -/
noncomputable def cmpE (ps : List Pc) : Int := if ¬ formOk12 ps then 1 else if ∃ p ∈ ps, whatP p = 0 then 5 else if 1500 < (packP ps).length + 16 then 3 else 0
theorem cmpE_form {ps : List Pc} (h : ¬ formOk12 ps) : cmpE ps = 1 := by unfold cmpE; rw [if_pos h]
theorem cmpE_zero {ps : List Pc} : cmpE ps = 0 ↔ formOk12 ps ∧ (∀ p ∈ ps, whatP p ≠ 0) ∧ (packP ps).length + 16 ≤ 1500 := by
  unfold cmpE
  constructor
  · intro h
    split at h
    · cases h
    rename_i h1
    split at h
    · cases h
    rename_i h2
    split at h
    · cases h
    rename_i h3
    exact ⟨Classical.not_not.1 h1, fun p hp h0 => h2 ⟨p, hp, h0⟩, by omega⟩
  · rintro ⟨h1, h2, h3⟩
    rw [if_neg (fun h => h h1), if_neg (fun ⟨p, hp, h0⟩ => h2 p hp h0), if_neg (by omega)]
/-- The last piece. -/
def sumP (d : List UInt8) : Pc := (0, 204, [0, 0, 0, 0] ++ csum ++ d)
def sumOk (p : Pc) : Bool := decide (p.1 = 0 ∧ p.2.1 = 204 ∧ p.2.2.length = 12 ∧ p.2.2.take 8 = [0, 0, 0, 0] ++ csum)
theorem sumOk_iff (p : Pc) : sumOk p = true ↔ ∃ d, d.length = 4 ∧ p = sumP d := by
  obtain ⟨n, k, b⟩ := p
  unfold sumOk sumP
  rw [decide_eq_true_eq]
  constructor
  · rintro ⟨rfl, rfl, h3, h4⟩
    dsimp only at h3 h4 ⊢
    exact ⟨b.drop 8, by rw [List.length_drop]; omega, by rw [← h4, List.take_append_drop]⟩
  · rintro ⟨d, hd, h⟩
    simp only [Prod.mk.injEq] at h
    obtain ⟨rfl, rfl, rfl⟩ := h
    refine ⟨rfl, rfl, ?_, ?_⟩
    · simp [csum, hd]
    · simp [csum]
end Go.Proofs.YtbnnfmleoebelaaGreat

