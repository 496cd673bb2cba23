/- The reference of reports: May, Piece. -/
import Derived.Test.YtjkmnjmmnjhacaaGreatQReport3z
import Derived.Test.YtjkmnjmmnjhacaaGreatQRefZz
namespace Go.Proofs.YtjkmnjmmnjhacaaGreat
open Go.RowKit
set_option linter.unusedVariables false
set_option linter.unusedSimpArgs false

abbrev z8L (b : B8) : List V := [vi b.src, vi b.fr, vi b.lost, vi b.hi, vi b.ji, vi b.la, vi b.de]
def z8El (b : B8) : List V := z8L b
attribute [go_sem] z8El
abbrev zr8L (r : R8) : List V := [vi r.src, vb r.isS, vi r.sent.clock, vi r.sent.time, vi r.sent.packets, vi r.sent.bytes, .lst 7 (r.bs.map z8El)]
set_option maxRecDepth 100000 in
set_option maxHeartbeats 4000000 in
theorem ref_may8 (r : R8) (hl : r.bs.length ≤ 1099511627776) : Spec Tryz.prog 80 [.ca (.val (.agg (zr8L r)))] [] (.ca (.val (vb (mayR r)))) [] := by
  obtain ⟨src, is, ⟨c, t, p, b⟩, bs⟩ := r
  obtain ⟨M, hM⟩ : ∃ M, M = mayR ⟨src, is, ⟨c, t, p, b⟩, bs⟩ := ⟨_, rfl⟩
  rw [← hM]
  unfold mayR isS at hM
  dsimp only at hM hl ⊢
  refine spec_of Tryz.func80 rfl Tryz.ntmps80 Tryz.results80 ⟨by decide, by simp⟩ fun C hC => ?_
  (repeat ((fail_if_success (refine stop_reg 1 ?_)); (first | refine sp_ ?_ | exact ex0)))
  refine meet_s (α := {_x : Unit // M = bs.all mayB}) (fun _ => [(.s 1, .av (.ptr (1, 0) 0 0)), (.o (1, 0), .num 7), (.c (1, 0) 6, .av (.val (.lst 7 (bs.map z8El)))), (.s 2, .av (.val (vb false)))]) ?_ (fun x => ?_)
  · by_cases h1 : c < 0
    · have : M = false := by rw [hM]; simp; omega
      subst this
      (repeat (first | refine sp_ ?_ | exact ex0))
      (refine ret_s [] ?_; simp (decide := true) (disch := omega) only [go_sem, ↓reduceIte, ↓put_at])
    by_cases h2 : 1099511627776 < c
    · have : M = false := by rw [hM]; simp; omega
      subst this
      (repeat (first | refine sp_ ?_ | exact ex0))
      (refine ret_s [] ?_; simp (decide := true) (disch := omega) only [go_sem, ↓reduceIte, ↓put_at])
    by_cases h3 : 31 < bs.length
    · have : M = false := by rw [hM]; simp; omega
      subst this
      (repeat (first | refine sp_ ?_ | exact ex0))
      (refine ret_s [] ?_; simp (decide := true) (disch := omega) only [go_sem, ↓reduceIte, ↓put_at])
    cases is with
    | true =>
      have : M = bs.all mayB := by rw [hM]; simp; omega
      (repeat (first | refine sp_ ?_ | exact ex0))
      refine at_meet ⟨(), this⟩ ?_
      simp (decide := true) (disch := omega) only [go_sem, ↓reduceIte, ↓put_at]
    | false =>
      by_cases h4 : c = 0
      · by_cases h5 : t = 0
        · by_cases h6 : p = 0
          · by_cases h7 : b = 0
            · have : M = bs.all mayB := by rw [hM]; simp [h4, h5, h6, h7]; omega
              (repeat (first | refine sp_ ?_ | exact ex0))
              refine at_meet ⟨(), this⟩ ?_
              simp (decide := true) (disch := omega) only [go_sem, ↓reduceIte, ↓put_at]
            · have : M = false := by rw [hM]; simp [h7]
              subst this
              (repeat (first | refine sp_ ?_ | exact ex0))
              (refine ret_s [] ?_; simp (decide := true) (disch := omega) only [go_sem, ↓reduceIte, ↓put_at])
          · have : M = false := by rw [hM]; simp [h6]
            subst this
            (repeat (first | refine sp_ ?_ | exact ex0))
            (refine ret_s [] ?_; simp (decide := true) (disch := omega) only [go_sem, ↓reduceIte, ↓put_at])
        · have : M = false := by rw [hM]; simp [h5]
          subst this
          (repeat (first | refine sp_ ?_ | exact ex0))
          (refine ret_s [] ?_; simp (decide := true) (disch := omega) only [go_sem, ↓reduceIte, ↓put_at])
      · have : M = false := by rw [hM]; simp [h4]
        subst this
        (repeat (first | refine sp_ ?_ | exact ex0))
        (refine ret_s [] ?_; simp (decide := true) (disch := omega) only [go_sem, ↓reduceIte, ↓put_at])
  · obtain ⟨_, hx⟩ := x
    clear hM
    (repeat (first | refine sp_ ?_ | exact ex0))
    refine loop_s (α := {j : Nat // j ≤ bs.length ∧ (bs.take j).all mayB = true}) (fun j => [(.s 45, .av (.val (.lst 7 (bs.map z8El)))), (.s 46, .av (.val (vi bs.length))), (.s 47, .av (.val (vi j.1)))]) (fun j => bs.length - j.1) ⟨0, Nat.zero_le _, rfl⟩ ?_ (fun j => ?_)
    · simp (decide := true) (disch := omega) only [go_sem, ↓reduceIte, ↓put_at]
    · obtain ⟨j, hj, ha⟩ := j
      dsimp only at hj ⊢
      by_cases hlt : j < bs.length
      · by_cases hm : mayB bs[j] = true
        · have hn : (bs.take (j + 1)).all mayB = true := by rw [List.take_succ_eq_append_getElem hlt, List.all_append, ha]; simp [hm]
          unfold mayB at hm
          rw [decide_eq_true_eq] at hm
          (repeat (first | refine sp_ ?_ | exact ex0))
          refine next_s ⟨j + 1, hlt, hn⟩ ⟨?_, by dsimp only; omega⟩
          simp (decide := true) (disch := omega) only [go_sem, ↓reduceIte, ↓put_at]
        · have hall : bs.all mayB = false := by
            cases hx : bs.all mayB with
            | false => rfl
            | true => have := List.all_eq_true.1 hx _ (List.getElem_mem hlt); exact absurd this hm
          rw [hall] at hx
          subst hx
          unfold mayB at hm
          rw [decide_eq_true_eq] at hm
          by_cases g1 : bs[j].fr < 0
          · (repeat (first | refine sp_ ?_ | exact ex0))
            (refine ret_s [] ?_; simp (decide := true) (disch := omega) only [go_sem, ↓reduceIte, ↓put_at])
          by_cases g2 : 255 < bs[j].fr
          · (repeat (first | refine sp_ ?_ | exact ex0))
            (refine ret_s [] ?_; simp (decide := true) (disch := omega) only [go_sem, ↓reduceIte, ↓put_at])
          by_cases g3 : bs[j].lost < -8388608
          · (repeat (first | refine sp_ ?_ | exact ex0))
            (refine ret_s [] ?_; simp (decide := true) (disch := omega) only [go_sem, ↓reduceIte, ↓put_at])
          · have g4 : 8388607 < bs[j].lost := by omega
            (repeat (first | refine sp_ ?_ | exact ex0))
            (refine ret_s [] ?_; simp (decide := true) (disch := omega) only [go_sem, ↓reduceIte, ↓put_at])
      · have hall : bs.all mayB = true := by rw [List.take_of_length_le (by omega)] at ha; exact ha
        rw [hall] at hx
        subst hx
        (repeat (first | refine sp_ ?_ | exact ex0))
        (refine ret_s [] ?_; simp (decide := true) (disch := omega) only [go_sem, ↓reduceIte, ↓put_at])
attribute [go_sem] putZ_length
theorem putZ8 (c : Int) : putZ c 8 = putZ (c / 4294967296 % 4294967296) 4 ++ putZ (c % 4294967296) 4 := by
  rw [putZ_mod' _ 4 (by decide), putZ_mod' _ 4 (by decide)]
  simp only [putZ, List.append_assoc, List.cons_append, List.nil_append, List.append_nil]
  have e : ∀ k : Nat, c / 256 ^ (k + 4) = c / 4294967296 / 256 ^ k := fun k => by
    rw [Int.ediv_ediv_of_nonneg (by omega), Int.pow_add, Int.mul_comm]; rfl
  simp only [e 0, e 1, e 2, e 3]
end Go.Proofs.YtjkmnjmmnjhacaaGreat

namespace Go.Proofs.YtjkmnjmmnjhacaaGreat
open Go.RowKit
set_option linter.unusedVariables false
set_option linter.unusedSimpArgs false

theorem goX_B (T : Nat) (l : List UInt8) : nxB (goX T l) = goX (T + 24) l := by
  unfold nxB
  simp only [goX_nx, Nat.zero_lt_succ, Nat.add_assoc, Nat.reduceAdd]
theorem goX_S (T : Nat) (l : List UInt8) : nxS (goX T l) = goX (T + 20) l := by
  unfold nxS
  simp only [goX_nx, Nat.zero_lt_succ, Nat.add_assoc, Nat.reduceAdd]
theorem goX_Bs (n T : Nat) (l : List UInt8) : nxBs n (goX T l) = goX (T + 24 * n) l := by
  induction n generalizing T with
  | zero => rfl
  | succ n ih => rw [nxBs, goX_B, ih]; congr 1; omega
/-- A block of 24 bytes. -/
def blk8 (s : List UInt8) : B8 :=
  ⟨getN (s.take 4), getN ((s.drop 4).take 1), sg (getN ((s.drop 5).take 3)), getN ((s.drop 8).take 4), getN ((s.drop 12).take 4), getN ((s.drop 16).take 4), getN ((s.drop 20).take 4)⟩
theorem goX_rdB (T : Nat) (l : List UInt8) (h : T + 24 ≤ l.length) : rdB (goX T l) = blk8 ((l.drop T).take 24) := by
  unfold rdB blk8
  simp only [goX_nx, Nat.zero_lt_succ, Nat.add_assoc, Nat.reduceAdd]
  rw [goX_vl _ _ _ (by omega), goX_vl _ _ _ (by omega), goX_vl _ _ _ (by omega), goX_vl _ _ _ (by omega), goX_vl _ _ _ (by omega), goX_vl _ _ _ (by omega), goX_vl _ _ _ (by omega)]
  simp [List.drop_take, List.take_take, List.drop_drop]
def blks (n T : Nat) (l : List UInt8) : List B8 := (List.range n).map fun i => blk8 ((l.drop (T + 24 * i)).take 24)
theorem goX_rdBs (n T : Nat) (l : List UInt8) (h : T + 24 * n ≤ l.length) : rdBs n (goX T l) = blks n T l := by
  induction n generalizing T with
  | zero => rfl
  | succ n ih =>
    rw [rdBs, goX_B, goX_rdB _ _ (by omega), ih _ (by omega)]
    unfold blks
    rw [List.range_succ_eq_map, List.map_cons, List.map_map]
    simp only [Nat.mul_zero, Nat.add_zero]
    congr 1
    apply List.map_congr_left
    intro i _
    simp only [Function.comp]
    congr 3
    omega
theorem blks_succ (n T : Nat) (l : List UInt8) : blks (n + 1) T l = blks n T l ++ [blk8 ((l.drop (T + 24 * n)).take 24)] := by
  unfold blks
  rw [List.range_succ, List.map_append]
  rfl
def snt8 (l : List UInt8) : S8 :=
  ⟨if 256 < getN ((l.drop 4).take 4) then -1 else getN ((l.drop 4).take 8), getN ((l.drop 12).take 4), getN ((l.drop 16).take 4), getN ((l.drop 20).take 4)⟩
theorem get8_eq (l : List UInt8) (h : 24 ≤ l.length) : getN ((l.drop 4).take 8) = getN ((l.drop 4).take 4) * 4294967296 + getN ((l.drop 8).take 4) := by
  have e : (l.drop 4).take 8 = (l.drop 4).take 4 ++ (l.drop 8).take 4 := by
    rw [show (8 : Nat) = 4 + 4 from rfl, List.take_add, List.drop_drop]
  rw [e, getN_append, List.length_take, List.length_drop, Nat.min_eq_left (by omega)]
theorem goX_rdS (l : List UInt8) (h : 24 ≤ l.length) : rdS (goX 4 l) = snt8 l := by
  unfold rdS snt8
  simp only [goX_nx, Nat.zero_lt_succ, Nat.add_assoc, Nat.reduceAdd]
  rw [goX_vl _ _ _ (by omega), goX_vl _ _ _ (by omega), goX_vl _ _ _ (by omega), goX_vl _ _ _ (by omega), goX_vl _ _ _ (by omega)]
  have e : (l.drop 4).take 8 = (l.drop 4).take 4 ++ (l.drop 8).take 4 := by
    rw [show (8 : Nat) = 4 + 4 from rfl, List.take_add, List.drop_drop]
  have e2 : (getN ((l.drop 4).take 8) : Int) = getN ((l.drop 4).take 4) * 4294967296 + getN ((l.drop 8).take 4) := by
    rw [e, getN_append, List.length_take, List.length_drop, Nat.min_eq_left (by omega)]
    rfl
  rw [e2]
  congr 1
  split <;> split <;> omega
/-- The report that lies in so many bytes. -/
def repR (p : Pc) : R8 :=
  ⟨getN (p.2.2.take 4), decide (p.2.1 = 200), if p.2.1 = 200 then snt8 p.2.2 else ⟨0, 0, 0, 0⟩, blks (cntN p.1).toNat (if p.2.1 = 200 then 24 else 4) p.2.2⟩
def lenR (p : Pc) : Nat := (if p.2.1 = 200 then 24 else 4) + 24 * (cntN p.1).toNat
theorem rawX_eq (p : Pc) : rawX p = goX (lenR p) p.2.2 := by
  unfold rawX lenR
  rw [goX_zero, goX_nx _ _ _ (by decide), goX_S]
  split <;> rw [goX_Bs]
theorem rawR_eq (p : Pc) (h : p.2.2.length = lenR p) : rawR p = repR p := by
  unfold rawR repR
  unfold lenR at h
  rw [goX_zero, goX_nx _ _ _ (by decide), goX_S, goX_vl _ _ _ (by split at h <;> omega)]
  split at h
  · rename_i hk
    rw [if_pos hk, if_pos hk, if_pos hk, if_pos hk, goX_rdS _ (by omega), goX_rdBs _ _ _ (by omega)]
    rfl
  · rename_i hk
    rw [if_neg hk, if_neg hk, if_neg hk, if_neg hk, goX_rdBs _ _ _ (by omega)]
    rfl
theorem ofE_eq (p : Pc) : ofE p = if p.2.1 ≠ 200 ∧ p.2.1 ≠ 201 then 5 else if p.2.2.length < lenR p then 2 else if lenR p < p.2.2.length then 1 else if mayR (repR p) = true then 0 else 6 := by
  unfold ofE
  rw [rawX_eq, goX_end]
  split
  · rfl
  · by_cases h1 : p.2.2.length < lenR p
    · rw [if_pos h1, if_pos h1]; rfl
    by_cases h2 : lenR p < p.2.2.length
    · rw [if_neg h1, if_pos h2, if_neg h1, if_pos h2]; rfl
    · rw [if_neg h1, if_neg h2, if_neg h1, if_neg h2, rawR_eq p (by omega)]; rfl
theorem ofR_eq (p : Pc) : ofR p = if ofE p = 0 then repR p else noR := by
  unfold ofR
  by_cases h : ofE p = 0
  · rw [if_pos h, if_pos h]
    rw [ofE_eq] at h
    apply rawR_eq
    split at h
    · cases h
    · split at h
      · cases h
      · split at h
        · cases h
        · omega
  · rw [if_neg h, if_neg h]
set_option maxRecDepth 100000 in
set_option maxHeartbeats 8000000 in
theorem ref_of8 (p : Pc) (hp : p.2.2.length ≤ maxLen) : Spec Tryz.prog 48 [.ca (.val (pcV p))] [] (.ca (.val (.tup [.agg (zr8L (ofR p)), vi (ofE p)]))) [] := by
  obtain ⟨n, k, b⟩ := p
  unfold maxLen at hp
  dsimp only at hp
  obtain ⟨E, hE⟩ : ∃ E, E = ofE (n, k, b) := ⟨_, rfl⟩
  obtain ⟨R, hR⟩ : ∃ R, R = ofR (n, k, b) := ⟨_, rfl⟩
  rw [ofR_eq, ← hE] at hR
  rw [ofE_eq] at hE
  obtain ⟨N, hN⟩ : ∃ N, N = (cntN n).toNat := ⟨_, rfl⟩
  have hcn : max 0 (min n 32) = (N : Int) := by unfold cntN at hN; omega
  have hN32 : N ≤ 32 := by unfold cntN at hN; omega
  obtain ⟨n0, hn0⟩ : ∃ n0 : Nat, n0 = if k = 200 then 24 else 4 := ⟨_, rfl⟩
  have hn24 : n0 = 24 ∨ n0 = 4 := by rw [hn0]; split <;> simp
  unfold lenR at hE
  unfold repR at hE hR
  dsimp only at hE hR
  rw [← hN, ← hn0] at hE hR
  have hEE : E = ofE (n, k, b) := by rw [ofE_eq]; unfold lenR repR; dsimp only; rw [← hN, ← hn0, hE]
  have hRR : R = ofR (n, k, b) := by rw [ofR_eq, ← hEE]; unfold repR; dsimp only; rw [← hN, ← hn0, hR]
  rw [← hEE, ← hRR]
  clear hEE hRR
  refine spec_of Tryz.func48 rfl Tryz.ntmps48 Tryz.results48 ⟨by decide, by simp⟩ fun C hC => ?_
  (repeat ((fail_if_success (refine stop_reg 1 ?_)); (first | refine sp_ ?_ | exact ex0)))
  refine meet_s (α := {_x : Unit // k = 200 ∨ k = 201}) (fun _ => [(.s 1, .av (.ptr (1, 0) 0 0)), (.o (1, 0), .num 3), (.c (1, 0) 0, .av (.val (vi n))), (.c (1, 0) 1, .av (.val (vi k))), (.c (1, 0) 2, .av (.val (vs b))), (.s 2, .av (.ptr (2, 0) 0 0)), (.o (2, 0), .num 7), (.c (2, 0) 0, .av (.val (vi 0))), (.c (2, 0) 1, .av (.val (vb false))), (.c (2, 0) 2, .av (.val (vi 0))), (.c (2, 0) 3, .av (.val (vi 0))), (.c (2, 0) 4, .av (.val (vi 0))), (.c (2, 0) 5, .av (.val (vi 0))), (.c (2, 0) 6, .av (.val (.sc (.slice none 0 0)))), (.s 3, .av (.val (vi 0)))]) ?_ (fun x => ?_)
  · by_cases h1 : k = 200
    · subst h1
      (repeat (first | refine sp_ ?_ | exact ex0))
      refine at_meet ⟨(), .inl rfl⟩ ?_
      simp (decide := true) (disch := omega) only [go_sem, ↓reduceIte, ↓put_at]
    by_cases h2 : k = 201
    · subst h2
      (repeat (first | refine sp_ ?_ | exact ex0))
      refine at_meet ⟨(), .inr rfl⟩ ?_
      simp (decide := true) (disch := omega) only [go_sem, ↓reduceIte, ↓put_at]
    · rw [if_pos ⟨h1, h2⟩] at hE
      subst hE
      rw [if_neg (by decide)] at hR
      subst hR
      (repeat (first | refine sp_ ?_ | exact ex0))
      (refine ret_s [] ?_; simp (decide := true) (disch := omega) only [go_sem, ↓reduceIte, ↓put_at])
  obtain ⟨_, hk⟩ := x
  rw [if_neg (by omega)] at hE
  have h4 : decide (k = 200) = (k == 200) := rfl
  (repeat ((fail_if_success (refine stop_reg 4 ?_)); (first | refine sp_ ?_ | exact ex0)))
  refine meet_s (α := {_x : Unit // True}) (fun _ => [(.s 1, .av (.ptr (1, 0) 0 0)), (.o (1, 0), .num 3), (.c (1, 0) 0, .av (.val (vi n))), (.c (1, 0) 1, .av (.val (vi k))), (.c (1, 0) 2, .av (.val (vs b))), (.s 2, .av (.ptr (2, 0) 0 0)), (.o (2, 0), .num 7), (.c (2, 0) 0, .av (.val (vi 0))), (.c (2, 0) 1, .av (.val (vb false))), (.c (2, 0) 2, .av (.val (vi 0))), (.c (2, 0) 3, .av (.val (vi 0))), (.c (2, 0) 4, .av (.val (vi 0))), (.c (2, 0) 5, .av (.val (vi 0))), (.c (2, 0) 6, .av (.val (.sc (.slice none 0 0)))), (.s 3, .av (.val (vi 0))), (.s 4, .av (.val (vi n0)))]) ?_ (fun x => ?_)
  · rcases hk with rfl | rfl
    · rw [if_pos rfl] at hn0
      subst hn0
      (repeat (first | refine sp_ ?_ | exact ex0))
      refine at_meet ⟨(), trivial⟩ ?_
      simp (decide := true) (disch := omega) only [go_sem, ↓reduceIte, ↓put_at]
    · rw [if_neg (by decide)] at hn0
      subst hn0
      (repeat (first | refine sp_ ?_ | exact ex0))
      refine at_meet ⟨(), trivial⟩ ?_
      simp (decide := true) (disch := omega) only [go_sem, ↓reduceIte, ↓put_at]
  by_cases hl1 : b.length < n0 + 24 * N
  · rw [if_pos hl1] at hE
    subst hE
    rw [if_neg (by decide)] at hR
    subst hR
    (repeat (first | refine sp_ ?_ | exact ex0))
    (refine ret_s [] ?_; simp (decide := true) (disch := omega) only [go_sem, ↓reduceIte, ↓put_at])
  by_cases hl2 : n0 + 24 * N < b.length
  · rw [if_neg hl1, if_pos hl2] at hE
    subst hE
    rw [if_neg (by decide)] at hR
    subst hR
    (repeat (first | refine sp_ ?_ | exact ex0))
    (refine ret_s [] ?_; simp (decide := true) (disch := omega) only [go_sem, ↓reduceIte, ↓put_at])
  rw [if_neg hl1, if_neg hl2] at hE
  have hlen : b.length = n0 + 24 * N := by omega
  clear hl1 hl2
  (repeat (first | refine sp_ ?_ | exact ex0))
  refine call_s Tryz.call74 (q_get (b.take 4) (by rw [List.length_take]; omega)) [] ?_
  obtain ⟨is, his⟩ : ∃ x, x = decide (k = 200) := ⟨_, rfl⟩
  obtain ⟨st, hst⟩ : ∃ x, x = if k = 200 then snt8 b else ⟨0, 0, 0, 0⟩ := ⟨_, rfl⟩
  rw [← his, ← hst] at hE hR
  (repeat ((fail_if_success (refine stop_reg 12 ?_)); (first | refine sp_ ?_ | exact ex0)))
  refine meet_s (α := {_x : Unit // True}) (fun _ => [(.s 1, .av (.ptr (1, 0) 0 0)), (.o (1, 0), .num 3), (.c (1, 0) 0, .av (.val (vi n))), (.c (1, 0) 1, .av (.val (vi k))), (.c (1, 0) 2, .av (.val (vs b))), (.s 2, .av (.ptr (2, 0) 0 0)), (.o (2, 0), .num 7), (.c (2, 0) 0, .av (.val (vi 0))), (.c (2, 0) 1, .av (.val (vb false))), (.c (2, 0) 2, .av (.val (vi 0))), (.c (2, 0) 3, .av (.val (vi 0))), (.c (2, 0) 4, .av (.val (vi 0))), (.c (2, 0) 5, .av (.val (vi 0))), (.c (2, 0) 6, .av (.val (.sc (.slice none 0 0)))), (.s 3, .av (.val (vi 0))), (.s 4, .av (.val (vi n0))), (.s 5, .av (.val (vi N))), (.o (6, 0), .num 7), (.c (6, 0) 0, .av (.val (vi ↑(getN (List.take 4 b))))), (.c (6, 0) 1, .av (.val (vb is))), (.c (6, 0) 2, .av (.val (vi st.clock))), (.c (6, 0) 3, .av (.val (vi st.time))), (.c (6, 0) 4, .av (.val (vi st.packets))), (.c (6, 0) 5, .av (.val (vi st.bytes))), (.c (6, 0) 6, .av (.val (.sc (.slice none 0 0)))), (.s 6, .av (.ptr (6, 0) 0 0))]) ?_ (fun x => ?_)
  · rcases hk with rfl | rfl
    · rw [if_pos rfl] at hst hn0
      rw [decide_eq_true rfl] at his
      unfold snt8 at hst
      have g1 := q_getw b 4 4 (by decide)
      by_cases hh : 256 < getN ((b.drop 4).take 4)
      · rw [if_pos hh] at hst
        have hm : mayR ⟨(getN (b.take 4) : Int), is, st, blks N n0 b⟩ = false := by unfold mayR isS; rw [hst]; simp
        rw [hm, if_neg (by decide)] at hE
        subst hE
        rw [if_neg (by decide)] at hR
        subst hR
        (repeat (first | refine sp_ ?_ | exact ex0))
        refine call_s Tryz.call74 g1 [] ?_
        (repeat (first | refine sp_ ?_ | exact ex0))
        (refine ret_s [] ?_; simp (decide := true) (disch := omega) only [go_sem, ↓reduceIte, ↓put_at])
      · rw [if_neg hh] at hst
        have hv := get8_eq b (by omega)
        have hv2 := getN_lt ((b.drop 8).take 4)
        rw [List.length_take, List.length_drop, Nat.min_eq_left (by omega)] at hv2
        have g2 := q_get8 ((b.drop 4).take 8) (by rw [List.length_take]; omega) (by omega)
        subst hst his
        (repeat (first | refine sp_ ?_ | exact ex0))
        refine call_s Tryz.call74 g1 [] ?_
        (repeat (first | refine sp_ ?_ | exact ex0))
        refine call_s Tryz.call74 g2 [] ?_
        (repeat (first | refine sp_ ?_ | exact ex0))
        refine call_s Tryz.call74 (q_getw b 12 4 (by decide)) [] ?_
        (repeat (first | refine sp_ ?_ | exact ex0))
        refine call_s Tryz.call74 (q_getw b 16 4 (by decide)) [] ?_
        (repeat (first | refine sp_ ?_ | exact ex0))
        refine call_s Tryz.call74 (q_getw b 20 4 (by decide)) [] ?_
        (repeat (first | refine sp_ ?_ | exact ex0))
        refine at_meet ⟨(), trivial⟩ ?_
        simp (decide := true) (disch := omega) only [go_sem, ↓reduceIte, ↓put_at]
        exact hcn
    · rw [if_neg (by decide)] at hst
      rw [decide_eq_false (by decide)] at his
      subst his hst
      (repeat (first | refine sp_ ?_ | exact ex0))
      refine at_meet ⟨(), trivial⟩ ?_
      simp (decide := true) (disch := omega) only [go_sem, ↓reduceIte, ↓put_at]
      exact hcn
  (repeat (first | refine sp_ ?_ | exact ex0))
  refine own_c (6, 0) 6 (6, 7) 170 7 ?_
  simp (decide := true) (disch := omega) only [go_sem, ↓reduceIte, ↓put_at]
  refine loop_s (α := {j : Nat // j ≤ N}) (fun j => [(.s 1, .av (.ptr (1, 0) 0 0)), (.o (1, 0), .num 3), (.c (1, 0) 0, .av (.val (vi n))), (.c (1, 0) 1, .av (.val (vi k))), (.c (1, 0) 2, .av (.val (vs b))), (.s 2, .av (.ptr (2, 0) 0 0)), (.o (2, 0), .num 7), (.c (2, 0) 0, .av (.val (vi 0))), (.c (2, 0) 1, .av (.val (vb false))), (.c (2, 0) 2, .av (.val (vi 0))), (.c (2, 0) 3, .av (.val (vi 0))), (.c (2, 0) 4, .av (.val (vi 0))), (.c (2, 0) 5, .av (.val (vi 0))), (.c (2, 0) 6, .av (.val (.sc (.slice none 0 0)))), (.s 3, .av (.val (vi 0))), (.s 4, .av (.val (vi n0))), (.s 5, .av (.val (vi N))), (.o (6, 0), .num 7), (.c (6, 0) 0, .av (.val (vi ↑(getN (List.take 4 b))))), (.c (6, 0) 1, .av (.val (vb is))), (.c (6, 0) 2, .av (.val (vi st.clock))), (.c (6, 0) 3, .av (.val (vi st.time))), (.c (6, 0) 4, .av (.val (vi st.packets))), (.c (6, 0) 5, .av (.val (vi st.bytes))), (.c (6, 0) 6, .av (.own (6, 7) 0 170 7 ((blks j.1 n0 b).map z8El))), (.s 6, .av (.ptr (6, 0) 0 0)), (.k (6, 7), .row 170 7 (blks j.1 n0 b).length), (.s 7, .av (.val (vi j.1)))]) (fun j => N - j.1) ⟨0, Nat.zero_le _⟩ ?_ (fun j => ?_)
  · simp only [blks, List.range_zero, List.map_nil]
    simp (decide := true) (disch := omega) only [go_sem, ↓reduceIte, ↓put_at]
  · obtain ⟨j, hj⟩ := j
    dsimp only at hj ⊢
    have hbl : (blks j n0 b).length = j := by simp [blks]
    by_cases hlt : j < N
    · have e1 : ((n0 : Int) + 24 * (j : Int) + 24).toNat = n0 + 24 * j + 24 := by omega
      have e2 : ((n0 : Int) + 24 * (j : Int)).toNat = n0 + 24 * j := by omega
      have hbs := blks_succ j n0 b
      have hsl : ((b.drop (n0 + 24 * j)).take 24).length = 24 := by rw [List.length_take, List.length_drop]; omega
      (repeat (first | refine sp_ ?_ | exact ex0))
      simp only [e1, e2, Nat.add_sub_cancel_left]
      generalize (b.drop (n0 + 24 * j)).take 24 = s at *
      refine ⟨by omega, ?_⟩
      have w1 := q_getw s 5 3 (by decide)
      have w2 := q_getw s 4 1 (by decide)
      have w3 := q_getw s 8 4 (by decide)
      have w4 := q_getw s 12 4 (by decide)
      have w5 := q_getw s 16 4 (by decide)
      have w6 := q_getw s 20 4 (by decide)
      have w0 := q_get (s.take 4) (by rw [List.length_take]; omega)
      refine call_s Tryz.call74 w1 [] ?_
      (repeat ((fail_if_success (refine stop_reg 24 ?_)); (first | refine sp_ ?_ | exact ex0)))
      refine meet_s (α := {_x : Unit // True}) (fun _ => [(.s 1, .av (.ptr (1, 0) 0 0)), (.o (1, 0), .num 3), (.c (1, 0) 0, .av (.val (vi n))), (.c (1, 0) 1, .av (.val (vi k))), (.c (1, 0) 2, .av (.val (vs b))), (.s 2, .av (.ptr (2, 0) 0 0)), (.o (2, 0), .num 7), (.c (2, 0) 0, .av (.val (vi 0))), (.c (2, 0) 1, .av (.val (vb false))), (.c (2, 0) 2, .av (.val (vi 0))), (.c (2, 0) 3, .av (.val (vi 0))), (.c (2, 0) 4, .av (.val (vi 0))), (.c (2, 0) 5, .av (.val (vi 0))), (.c (2, 0) 6, .av (.val (.sc (.slice none 0 0)))), (.s 3, .av (.val (vi 0))), (.s 4, .av (.val (vi n0))), (.s 5, .av (.val (vi N))), (.o (6, 0), .num 7), (.c (6, 0) 0, .av (.val (vi ↑(getN (List.take 4 b))))), (.c (6, 0) 1, .av (.val (vb is))), (.c (6, 0) 2, .av (.val (vi st.clock))), (.c (6, 0) 3, .av (.val (vi st.time))), (.c (6, 0) 4, .av (.val (vi st.packets))), (.c (6, 0) 5, .av (.val (vi st.bytes))), (.c (6, 0) 6, .av (.own (6, 7) 0 170 7 ((blks j n0 b).map z8El))), (.s 6, .av (.ptr (6, 0) 0 0)), (.k (6, 7), .row 170 7 (blks j n0 b).length), (.s 7, .av (.val (vi j))), (.s 8, .av (.val (vs s))), (.s 9, .av (.val (vi (sg (getN ((s.drop 5).take 3))))))]) ?_ (fun x => ?_)
      · have hgl : getN ((s.drop 5).take 3) < 16777216 := by
          have := getN_lt ((s.drop 5).take 3)
          rw [List.length_take, List.length_drop, Nat.min_eq_left (by omega)] at this
          exact this
        generalize getN ((s.drop 5).take 3) = g at *
        unfold sg
        by_cases hg : 8388608 ≤ g
        · have hg' : (8388608 : Int) ≤ (g : Int) := by omega
          rw [if_pos hg']
          (repeat (first | refine sp_ ?_ | exact ex0))
          refine at_meet ⟨(), trivial⟩ ?_
          simp (decide := true) (disch := omega) only [go_sem, ↓reduceIte, ↓put_at]
        · have hg' : ¬ (8388608 : Int) ≤ (g : Int) := by omega
          rw [if_neg hg']
          (repeat (first | refine sp_ ?_ | exact ex0))
          refine at_meet ⟨(), trivial⟩ ?_
          simp (decide := true) (disch := omega) only [go_sem, ↓reduceIte, ↓put_at]
      (repeat (first | refine sp_ ?_ | exact ex0))
      refine call_s Tryz.call74 w0 [] ?_
      (repeat (first | refine sp_ ?_ | exact ex0))
      refine call_s Tryz.call74 w2 [] ?_
      (repeat (first | refine sp_ ?_ | exact ex0))
      refine call_s Tryz.call74 w3 [] ?_
      (repeat (first | refine sp_ ?_ | exact ex0))
      refine call_s Tryz.call74 w4 [] ?_
      (repeat (first | refine sp_ ?_ | exact ex0))
      refine call_s Tryz.call74 w5 [] ?_
      (repeat (first | refine sp_ ?_ | exact ex0))
      refine call_s Tryz.call74 w6 [] ?_
      (repeat (first | refine sp_ ?_ | exact ex0))
      refine next_s ⟨j + 1, hlt⟩ ⟨?_, by dsimp only; omega⟩
      rw [hbs]
      simp (decide := true) (disch := omega) only [go_sem, ↓reduceIte, ↓put_at]
      rw [List.map_append]; rfl
    · have hjN : j = N := by omega
      subst hjN
      have c2 := ref_may8 ⟨(getN (b.take 4) : Int), is, st, blks j n0 b⟩ (by dsimp only; omega)
      cases hm : mayR ⟨(getN (b.take 4) : Int), is, st, blks j n0 b⟩ with
      | false =>
        rw [hm] at c2
        rw [hm, if_neg (by decide)] at hE
        subst hE
        rw [if_neg (by decide)] at hR
        subst hR
        (repeat (first | refine sp_ ?_ | exact ex0))
        refine call_s Tryz.call80 c2 [] ?_
        (repeat (first | refine sp_ ?_ | exact ex0))
        (refine ret_s [] ?_; simp (decide := true) (disch := omega) only [go_sem, ↓reduceIte, ↓put_at])
      | true =>
        rw [hm] at c2
        rw [hm, if_pos rfl] at hE
        subst hE
        rw [if_pos rfl] at hR
        subst hR
        (repeat (first | refine sp_ ?_ | exact ex0))
        refine call_s Tryz.call80 c2 [] ?_
        (repeat (first | refine sp_ ?_ | exact ex0))
        (refine ret_s [] ?_; simp (decide := true) (disch := omega) only [go_sem, ↓reduceIte, ↓put_at])
end Go.Proofs.YtjkmnjmmnjhacaaGreat

