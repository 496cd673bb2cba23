/- Reports and their pieces, back and forth: the plain law of layer 8. -/
import Derived.Test.YtjkmnjmmnjhacaaGreatQReport5z
import Derived.Test.YtjkmnjmmnjhacaaGreatQInz
import Derived.Test.YtjkmnjmmnjhacaaGreatNackMz
namespace Go.Proofs.YtjkmnjmmnjhacaaGreat
open Go.RowKit
set_option linter.unusedVariables false
set_option linter.unusedSimpArgs false

theorem putZ_sg (n : Int) : putZ (sg n) 3 = putZ n 3 := by
  have h1 := putZ_mod (sg n) 3 3 (Nat.le_refl _)
  have h2 := putZ_mod n 3 3 (Nat.le_refl _)
  rw [← h1, ← h2]
  congr 1
  unfold sg
  split
  · omega
  · rfl
theorem wr_blk (s : List UInt8) (h : s.length = 24) : wrB (blk8 s) = s := by
  unfold wrB blk8
  dsimp only
  have e0 : putZ (getN (s.take 4) : Int) 4 = s.take 4 := putZ_take s 0 4 (by omega)
  simp only [puts', List.flatMap_cons, List.flatMap_nil, List.append_nil]
  rw [putZ_sg, e0, putZ_take s 4 1 (by omega), putZ_take s 5 3 (by omega), putZ_take s 8 4 (by omega), putZ_take s 12 4 (by omega), putZ_take s 16 4 (by omega), putZ_take s 20 4 (by omega)]
  have e24 : (s.drop 20).take 4 = s.drop 20 := List.take_of_length_le (by rw [List.length_drop]; omega)
  simp only [List.append_assoc]
  rw [e24, bchunk s 16 4 20 rfl, bchunk s 12 4 16 rfl, bchunk s 8 4 12 rfl, bchunk s 5 3 8 rfl, bchunk s 4 1 5 rfl, List.take_append_drop]
theorem blk_wr (b : B8) (hb : b.Ok) (hm : mayB b = true) : blk8 (wrB b) = b := by
  obtain ⟨s, f, l, h, j, a, d⟩ := b
  obtain ⟨b1, b2, b3, b4, b5⟩ := hb
  unfold mayB at hm
  rw [decide_eq_true_eq] at hm
  dsimp only at *
  have t1 : (wrB ⟨s, f, l, h, j, a, d⟩).take 4 = putZ s 4 := rfl
  have t2 : ((wrB ⟨s, f, l, h, j, a, d⟩).drop 4).take 1 = putZ f 1 := rfl
  have t3 : ((wrB ⟨s, f, l, h, j, a, d⟩).drop 5).take 3 = putZ l 3 := rfl
  have t4 : ((wrB ⟨s, f, l, h, j, a, d⟩).drop 8).take 4 = putZ h 4 := rfl
  have t5 : ((wrB ⟨s, f, l, h, j, a, d⟩).drop 12).take 4 = putZ j 4 := rfl
  have t6 : ((wrB ⟨s, f, l, h, j, a, d⟩).drop 16).take 4 = putZ a 4 := rfl
  have t7 : ((wrB ⟨s, f, l, h, j, a, d⟩).drop 20).take 4 = putZ d 4 := rfl
  unfold blk8
  rw [t1, t2, t3, t4, t5, t6, t7]
  simp only [getN_putZ, Int.reducePow, B8.mk.injEq]
  unfold sg
  refine ⟨by omega, by omega, ?_, by omega, by omega, by omega, by omega⟩
  split <;> omega
theorem blks_cons (n T : Nat) (l : List UInt8) : blks (n + 1) T l = blk8 ((l.drop T).take 24) :: blks n (T + 24) l := by
  unfold blks
  rw [List.range_succ_eq_map, List.map_cons, List.map_map]
  simp only [Nat.mul_zero, Nat.add_zero]
  congr 1
  apply List.map_congr_left
  intro i _
  simp only [Function.comp]
  congr 3
  omega
theorem blks_wr (bs : List B8) (hb : ∀ b ∈ bs, b.Ok) (hm : bs.all mayB = true) (T : Nat) (hd : List UInt8) (hT : hd.length = T) : blks bs.length T (hd ++ bs.flatMap wrB) = bs := by
  induction bs generalizing T hd with
  | nil => rfl
  | cons b bs ih =>
    simp only [List.all_cons, Bool.and_eq_true] at hm
    rw [List.length_cons, blks_cons, List.flatMap_cons, ← hT, List.drop_left]
    have e : (wrB b ++ bs.flatMap wrB).take 24 = wrB b := List.take_left' (wrB_len b)
    rw [e, blk_wr b (hb b (by simp)) hm.1, ← List.append_assoc]
    rw [ih (fun b' h' => hb b' (by simp [h'])) hm.2 (hd.length + 24) (hd ++ wrB b) (by rw [List.length_append, wrB_len])]
theorem wr_blks (n T : Nat) (l : List UInt8) (h : l.length = T + 24 * n) : (blks n T l).flatMap wrB = l.drop T := by
  induction n generalizing T with
  | zero => simp [blks, List.drop_of_length_le (show l.length ≤ T by omega)]
  | succ n ih =>
    rw [blks_cons, List.flatMap_cons, wr_blk _ (by rw [List.length_take, List.length_drop]; omega), ih (T + 24) (by omega), bchunk l T 24 _ rfl]
theorem mayR_iff (r : R8) : mayR r = true ↔ (0 ≤ r.sent.clock ∧ r.sent.clock ≤ 1099511627776) ∧ (r.isS = true ∨ r.sent = ⟨0, 0, 0, 0⟩) ∧ r.bs.length ≤ 31 ∧ r.bs.all mayB = true := by
  unfold mayR isS
  simp only [Bool.and_eq_true, Bool.or_eq_true, decide_eq_true_eq, and_assoc]
theorem snt_wr (s : S8) (hs : s.Ok) (hc : 0 ≤ s.clock ∧ s.clock ≤ 1099511627776) (src : Int) (l : List UInt8) : snt8 ((puts' 4 [src] ++ wrS s) ++ l) = s := by
  obtain ⟨c, t, p, b⟩ := s
  obtain ⟨b1, b2, b3⟩ := hs
  dsimp only at *
  have e1 : (((puts' 4 [src] ++ wrS ⟨c, t, p, b⟩) ++ l).drop 4).take 4 = putZ (c / 4294967296 % 4294967296) 4 := rfl
  have e2 : (((puts' 4 [src] ++ wrS ⟨c, t, p, b⟩) ++ l).drop 4).take 8 = putZ (c / 4294967296 % 4294967296) 4 ++ putZ (c % 4294967296) 4 := rfl
  have e3 : (((puts' 4 [src] ++ wrS ⟨c, t, p, b⟩) ++ l).drop 12).take 4 = putZ t 4 := rfl
  have e4 : (((puts' 4 [src] ++ wrS ⟨c, t, p, b⟩) ++ l).drop 16).take 4 = putZ p 4 := rfl
  have e5 : (((puts' 4 [src] ++ wrS ⟨c, t, p, b⟩) ++ l).drop 20).take 4 = putZ b 4 := rfl
  unfold snt8
  rw [e1, e2, e3, e4, e5, ← putZ8]
  have g1 := getN_putZ (c / 4294967296 % 4294967296) 4
  have g2 := getN_putZ c 8
  have g3 := getN_putZ t 4
  have g4 := getN_putZ p 4
  have g5 := getN_putZ b 4
  simp only [Int.reducePow] at g1 g2 g3 g4 g5
  simp only [S8.mk.injEq]
  refine ⟨?_, by omega, by omega, by omega⟩
  rw [if_neg (by omega)]
  omega
theorem of_piece (r : R8) (hr : r.Ok) (hm : mayR r = true) : ofE (pieceR r) = 0 ∧ ofR (pieceR r) = r := by
  obtain ⟨src, is, st, bs⟩ := r
  obtain ⟨h1, h2, h3⟩ := hr
  have hm' := (mayR_iff _).1 hm
  obtain ⟨m1, m2, m3, m4⟩ := hm'
  dsimp only at *
  have hcn : (cntN (bs.length : Int)).toNat = bs.length := by unfold cntN; omega
  have key : (pieceR ⟨src, is, st, bs⟩).2.2.length = lenR (pieceR ⟨src, is, st, bs⟩) ∧ repR (pieceR ⟨src, is, st, bs⟩) = ⟨src, is, st, bs⟩ ∧ ((pieceR ⟨src, is, st, bs⟩).2.1 = 200 ∨ (pieceR ⟨src, is, st, bs⟩).2.1 = 201) := by
    have e : pieceR ⟨src, is, st, bs⟩ = ((bs.length : Int), if is = true then 200 else 201, hdR ⟨src, is, st, bs⟩ ++ bs.flatMap wrB) := by unfold pieceR; rw [if_pos hm]
    rw [e]
    cases is with
    | true =>
      have e1 : hdR ⟨src, true, st, bs⟩ = puts' 4 [src] ++ wrS st := rfl
      have hl : (puts' 4 [src] ++ wrS st).length = 24 := by rw [List.length_append, wrS_len, puts'_length]; rfl
      refine ⟨?_, ?_, .inl rfl⟩
      · unfold lenR
        dsimp only
        rw [hcn, e1, List.length_append, hl, wrBs_len]
        rfl
      · unfold repR
        dsimp only
        rw [if_pos rfl, if_pos rfl, if_pos rfl, hcn, e1, snt_wr st h2 m1, blks_wr bs h3 m4 24 _ hl]
        have t1 : (((puts' 4 [src] ++ wrS st) ++ bs.flatMap wrB).take 4) = putZ src 4 := by
          rw [List.append_assoc, List.take_left' (by rw [puts'_length]; rfl), puts1]
        rw [t1, getN_putZ]
        congr 1
        simp only [Int.reducePow]
        omega
    | false =>
      have e1 : hdR ⟨src, false, st, bs⟩ = puts' 4 [src] := by unfold hdR; simp
      have hl : (puts' 4 [src]).length = 4 := by rw [puts'_length]; rfl
      have hst : st = ⟨0, 0, 0, 0⟩ := by rcases m2 with h | h; cases h; exact h
      refine ⟨?_, ?_, .inr rfl⟩
      · unfold lenR
        dsimp only
        rw [hcn, e1, List.length_append, hl, wrBs_len]
        rfl
      · unfold repR
        dsimp only
        rw [if_neg (by decide), if_neg (by decide), if_neg (by decide), hcn, e1, blks_wr bs h3 m4 4 _ hl, hst]
        have t1 : ((puts' 4 [src] ++ bs.flatMap wrB).take 4) = putZ src 4 := by
          rw [List.take_left' (by rw [puts'_length]; rfl), puts1]
        rw [t1, getN_putZ]
        congr 1
        simp only [Int.reducePow]
        omega
  obtain ⟨k1, k2, k3⟩ := key
  have hE : ofE (pieceR ⟨src, is, st, bs⟩) = 0 := by
    rw [ofE_eq, if_neg (by omega), if_neg (by omega), if_neg (by omega), k2, hm]
    rfl
  exact ⟨hE, by rw [ofR_eq, if_pos hE, k2]⟩
theorem blks_len (n T : Nat) (l : List UInt8) : (blks n T l).length = n := by simp [blks]
theorem piece_of (p : Pc) (hE : ofE p = 0) (hc : 0 ≤ p.1 ∧ p.1 ≤ 31) : pieceR (ofR p) = p := by
  obtain ⟨n, k, b⟩ := p
  rw [ofR_eq, if_pos hE]
  rw [ofE_eq] at hE
  dsimp only at hE hc
  have hk : k = 200 ∨ k = 201 := by
    split at hE
    · cases hE
    · omega
  rw [if_neg (by omega)] at hE
  have hlen : b.length = lenR (n, k, b) := by
    split at hE
    · cases hE
    · split at hE
      · cases hE
      · omega
  rw [if_neg (by omega), if_neg (by omega)] at hE
  have hm : mayR (repR (n, k, b)) = true := by
    cases h : mayR (repR (n, k, b)) with
    | true => rfl
    | false => rw [h] at hE; cases hE
  have hcn : (cntN n).toNat = n.toNat := by unfold cntN; omega
  have hm2 := (mayR_iff _).1 hm
  unfold pieceR
  rw [if_pos hm]
  rcases hk with rfl | rfl
  · unfold lenR at hlen
    unfold repR at hm2 ⊢
    dsimp only at hlen hm2 ⊢
    rw [if_pos rfl, hcn] at hlen
    rw [if_pos rfl, if_pos rfl] at hm2 ⊢
    have hhi : ¬ 256 < getN ((b.drop 4).take 4) := fun h => by
      unfold snt8 at hm2
      dsimp only at hm2
      rw [if_pos h] at hm2
      omega
    rw [hcn, blks_len, if_pos (decide_eq_true rfl), wr_blks _ _ _ hlen]
    have e0 : putZ (getN (b.take 4) : Int) 4 = b.take 4 := putZ_take b 0 4 (by omega)
    have hS : wrS (snt8 b) = (b.drop 4).take 20 := by
      unfold snt8 wrS
      rw [if_neg hhi]
      simp only [puts', List.flatMap_cons, List.flatMap_nil, List.append_nil]
      rw [← List.append_assoc, ← putZ8, putZ_take b 4 8 (by omega), putZ_take b 12 4 (by omega), putZ_take b 16 4 (by omega), putZ_take b 20 4 (by omega)]
      rw [show (20 : Nat) = 8 + (4 + (4 + 4)) from rfl, List.take_add, List.take_add, List.take_add]
      simp only [List.drop_drop]
    unfold hdR
    dsimp only
    rw [if_pos (decide_eq_true rfl), hS, puts1, e0, List.append_assoc, bchunk b 4 20 24 rfl, List.take_append_drop]
    congr 1
    omega
  · unfold lenR at hlen
    unfold repR at hm2 ⊢
    dsimp only at hlen hm2 ⊢
    have h2 : ¬ (201 : Int) = 200 := by decide
    rw [if_neg h2, hcn] at hlen
    simp only [if_neg h2, decide_eq_false h2, Bool.false_eq_true, if_false]
    rw [hcn, blks_len, wr_blks _ _ _ hlen]
    have e0 : putZ (getN (b.take 4) : Int) 4 = b.take 4 := putZ_take b 0 4 (by omega)
    unfold hdR
    simp only [Bool.false_eq_true, if_false]
    rw [puts1, e0, List.append_nil, List.take_append_drop]
    congr 1
    omega
theorem rdB_ok (x : List UInt8 × Int) : (rdB x).Ok := ⟨vl_lt 4 4294967296 _ (by decide), vl_lt 4 4294967296 _ (by decide), vl_lt 4 4294967296 _ (by decide), vl_lt 4 4294967296 _ (by decide), vl_lt 4 4294967296 _ (by decide)⟩
theorem rdBs_ok (n : Nat) (x : List UInt8 × Int) : ∀ b ∈ rdBs n x, b.Ok := by
  induction n generalizing x with
  | zero => intro b hb; simp [rdBs] at hb
  | succ n ih =>
    intro b hb
    rw [rdBs] at hb
    rcases List.mem_cons.1 hb with rfl | hb
    · exact rdB_ok x
    · exact ih _ b hb
theorem ofR_ok (p : Pc) : (ofR p).Ok := by
  unfold ofR
  split
  · refine ⟨vl_lt 4 4294967296 _ (by decide), ?_, rdBs_ok _ _⟩
    unfold rawR
    dsimp only
    split
    · exact ⟨vl_lt 4 4294967296 _ (by decide), vl_lt 4 4294967296 _ (by decide), vl_lt 4 4294967296 _ (by decide)⟩
    · exact ⟨by decide, by decide, by decide⟩
  · exact ⟨by decide, ⟨by decide, by decide, by decide⟩, fun b hb => by simp [noR] at hb⟩
theorem ofR_len (p : Pc) : (ofR p).bs.length ≤ 32 := by
  unfold ofR
  split
  · unfold rawR
    dsimp only
    rw [rdBs_len]
    unfold cntN
    omega
  · simp [noR]
end Go.Proofs.YtjkmnjmmnjhacaaGreat

namespace Go.Proofs.YtjkmnjmmnjhacaaGreat
open Go.RowKit
set_option linter.unusedVariables false
set_option linter.unusedSimpArgs false

def zer (k : Nat) : List UInt8 := List.replicate k 0
/-- How many bytes 0 are laid behind n bytes: at least so many, and up to a multiple of 4. -/
def padN (n least : Nat) : Nat := least + (4 - (n + least) % 4) % 4
theorem padN_mod (n m least : Nat) (h : n % 4 = m % 4) : padN n least = padN m least := by unfold padN; omega
theorem padN_sum (n least : Nat) : (n + padN n least) % 4 = 0 := by unfold padN; omega
theorem zer_len (k : Nat) : (zer k).length = k := List.length_replicate ..
/-- Bytes 0 up to a multiple of 4. -/
def fillB (s : List UInt8) : List UInt8 := s ++ zer (padN s.length 0)
/-- Who a source is. -/
structure N9 where
  src : Int
  text : List UInt8
  deriving DecidableEq
def mayN (x : N9) : Bool := decide (1 ≤ x.text.length ∧ x.text.length ≤ 255)
def itemB (x : N9) : List UInt8 := puts' 4 [x.src] ++ puts' 1 [1, (x.text.length : Int)] ++ x.text ++ zer (padN (6 + x.text.length) 1)
theorem itemB_len (x : N9) : (itemB x).length = 6 + x.text.length + padN (6 + x.text.length) 1 := by
  unfold itemB
  simp only [List.length_append, puts'_length, zer_len, List.length_cons, List.length_nil]
theorem itemB_mod (x : N9) : (itemB x).length % 4 = 0 := by rw [itemB_len]; exact padN_sum _ _
def namesP (l : List N9) : Pc := if l.length ≤ 31 ∧ l.all mayN = true then ((l.length : Int), 202, l.flatMap itemB) else (0, 0, [])
theorem items_mod (l : List N9) : (l.flatMap itemB).length % 4 = 0 := by
  induction l with
  | nil => rfl
  | cons x l ih =>
    have := itemB_mod x
    rw [List.flatMap_cons, List.length_append]
    omega
theorem items_le (l : List N9) (h : l.all mayN = true) : (l.flatMap itemB).length ≤ 300 * l.length := by
  induction l with
  | nil => simp
  | cons x l ih =>
    simp only [List.all_cons, Bool.and_eq_true] at h
    have h1 := h.1
    unfold mayN at h1
    rw [decide_eq_true_eq] at h1
    have h2 := itemB_len x
    have h3 : padN (6 + x.text.length) 1 ≤ 4 := by unfold padN; omega
    have := ih h.2
    rw [List.flatMap_cons, List.length_append, List.length_cons]
    omega
/-- Who goes. -/
structure Y9 where
  reason : List UInt8
  srcs : List Int
  deriving DecidableEq
def mayY (b : Y9) : Bool := decide (b.srcs.length ≤ 31 ∧ b.reason.length ≤ 255)
def reasonB (r : List UInt8) : List UInt8 := if r = [] then [] else puts' 1 [(r.length : Int)] ++ r ++ zer (padN (1 + r.length) 0)
def byeP (b : Y9) : Pc := if mayY b = true then ((b.srcs.length : Int), 203, puts' 4 b.srcs ++ reasonB b.reason) else (0, 0, [])
/-- What an application says. -/
structure A9 where
  sub : Int
  src : Int
  name : List UInt8
  data : List UInt8
  deriving DecidableEq
def mayA (a : A9) : Bool := decide (0 ≤ a.sub ∧ a.sub ≤ 31 ∧ a.name.length = 4 ∧ a.data.length % 4 = 0 ∧ a.data.length ≤ 1024)
def appP (a : A9) : Pc := if mayA a = true then (a.sub, 204, puts' 4 [a.src] ++ a.name ++ a.data) else (0, 0, [])
end Go.Proofs.YtjkmnjmmnjhacaaGreat

