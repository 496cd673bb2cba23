/- Package report: Piece. -/
import Derived.Test.YtjkmnjmmnjhacaaGreatQReportz
import Derived.Test.YtjkmnjmmnjhacaaGreatQPiecez
import Derived.Test.YtjkmnjmmnjhacaaGreatRHz
namespace Go.Proofs.YtjkmnjmmnjhacaaGreat
open Go.RowKit
set_option linter.unusedVariables false
set_option linter.unusedSimpArgs false

theorem wrB_len (b : B8) : (wrB b).length = 24 := by simp [wrB, puts'_length]
theorem wrBs_len (bs : List B8) : (bs.flatMap wrB).length = 24 * bs.length := by
  induction bs with
  | nil => rfl
  | cons b bs ih => simp [wrB_len, ih]; omega
theorem wrS_len (s : S8) : (wrS s).length = 20 := by simp [wrS, puts'_length]
def hdR (r : R8) : List UInt8 := puts' 4 [r.src] ++ (if r.isS = true then wrS r.sent else [])
def pieceR (r : R8) : Pc := if mayR r = true then (r.bs.length, if r.isS = true then 200 else 201, hdR r ++ r.bs.flatMap wrB) else (0, 0, [])
structure R8.Ok (r : R8) : Prop where
  src : 0 ≤ r.src ∧ r.src < 4294967296
  sent : r.sent.Ok
  bs : ∀ b ∈ r.bs, b.Ok
set_option maxRecDepth 100000 in
set_option maxHeartbeats 4000000 in
theorem report_piece (r : R8) (hr : r.Ok) (hl : r.bs.length ≤ 1099511627776) : Spec Tryz.prog 30 [.ca (.val (.agg (r8L r)))] [] (.ca (.val (pcV (pieceR r)))) [] := by
  obtain ⟨src, is, st, bs⟩ := r
  have hc := report_check ⟨src, is, st, bs⟩ hl
  obtain ⟨hsrc, hst, hb⟩ := hr
  dsimp only at *
  cases hm : mayR ⟨src, is, st, bs⟩ with
  | false =>
    rw [hm, if_neg (by decide)] at hc
    have e : pieceR ⟨src, is, st, bs⟩ = (0, 0, []) := by unfold pieceR; rw [hm]; rfl
    rw [e]
    refine spec_of Tryz.func30 rfl Tryz.ntmps30 Tryz.results30 ⟨by decide, by simp⟩ fun C hC => ?_
    (repeat (first | refine sp_ ?_ | exact ex0))
    refine call_s Tryz.call63 hc [] ?_
    (repeat (first | refine sp_ ?_ | exact ex0))
    (refine ret_s [] ?_; simp (decide := true) (disch := omega) only [go_sem, ↓reduceIte, ↓put_at])
  | true =>
    rw [hm, if_pos rfl] at hc
    have hmm := hm
    unfold mayR isS at hmm
    simp only [Bool.and_eq_true, decide_eq_true_eq] at hmm
    obtain ⟨⟨⟨hclk, _⟩, h31⟩, _⟩ := hmm
    have hsl := wrS_len st
    have hz := puts'_length 4 [src]
    simp only [List.length_cons, List.length_nil] at hz
    have c1 := out_u32 [] [src] (by simp) (by simpa using hsrc)
    rw [List.nil_append] at c1
    cases is with
    | true =>
      have e : pieceR ⟨src, true, st, bs⟩ = ((bs.length : Int), (200 : Int), (puts' 4 [src] ++ wrS st) ++ bs.flatMap wrB) := by unfold pieceR; rw [if_pos hm]; rfl
      rw [e]
      have c2 := report_put st hst hclk (puts' 4 [src]) (by omega)
      obtain ⟨hd, hhd⟩ : ∃ hd, hd = puts' 4 [src] ++ wrS st := ⟨_, rfl⟩
      have hdl : hd.length = 24 := by rw [hhd, List.length_append, hz, hsl]
      rw [← hhd] at c2 ⊢
      clear hhd
      refine spec_of Tryz.func30 rfl Tryz.ntmps30 Tryz.results30 ⟨by decide, by simp⟩ fun C hC => ?_
      (repeat (first | refine sp_ ?_ | exact ex0))
      refine call_s Tryz.call63 hc [] ?_
      (repeat (first | refine sp_ ?_ | exact ex0))
      refine call_s Tryz.call45 c1 [(3, 0)] ?_
      (repeat (first | refine sp_ ?_ | exact ex0))
      refine call_s Tryz.call64 c2 [(3, 0)] ?_
      (repeat (first | refine sp_ ?_ | exact ex0))
      refine loop_s (α := {j : Nat // j ≤ bs.length}) (fun j => [(.s 1, .av (.ptr (1, 0) 0 0)), (.o (1, 0), .num 7), (.c (1, 0) 6, .av (.val (.lst 7 (bs.map b8El)))), (.s 2, .av (.ptr (2, 0) 0 0)), (.o (2, 0), .num 3), (.s 3, .av (.ptr (3, 0) 0 0)), (.o (3, 0), .num 1), (.c (3, 0) 0, .av (.own (3, 1) 0 5 1 ((hd ++ (bs.take j.1).flatMap wrB).map byteEl))), (.k (3, 1), .row 5 1 ((hd ++ (bs.take j.1).flatMap wrB).map byteEl).length), (.s 4, .av (.val (vi 200))), (.s 21, .av (.val (.lst 7 (bs.map b8El)))), (.s 22, .av (.val (vi bs.length))), (.s 23, .av (.val (vi j.1)))]) (fun j => bs.length - j.1) ⟨0, Nat.zero_le _⟩ ?_ (fun j => ?_)
      · simp only [List.take_zero, List.flatMap_nil, List.append_nil]
        simp (decide := true) (disch := omega) only [go_sem, ↓reduceIte, ↓put_at]
      · obtain ⟨j, hj⟩ := j
        dsimp only at hj ⊢
        have hw := wrBs_len (bs.take j)
        rw [List.length_take, Nat.min_eq_left hj] at hw
        by_cases hlt : j < bs.length
        · have ht : bs.take (j + 1) = bs.take j ++ [bs[j]] := List.take_succ_eq_append_getElem hlt
          have hwr := report_write bs[j] (hb _ (List.getElem_mem hlt)) (hd ++ (bs.take j).flatMap wrB) (by rw [List.length_append]; omega)
          (repeat (first | refine sp_ ?_ | exact ex0))
          refine call_s Tryz.call65 hwr [(3, 0)] ?_
          (repeat (first | refine sp_ ?_ | exact ex0))
          refine next_s ⟨j + 1, hlt⟩ ⟨?_, by dsimp only; omega⟩
          rw [ht, List.flatMap_append]
          simp (decide := true) (disch := omega) only [go_sem, ↓reduceIte, ↓put_at]
          simp [Nat.add_assoc]
        · have e : bs.take j = bs := List.take_of_length_le (by omega)
          rw [e] at hw ⊢
          (repeat (first | refine sp_ ?_ | exact ex0))
          refine call_s Tryz.call47 (out_bytes (hd ++ bs.flatMap wrB) (by rw [List.length_append]; omega)) [(3, 0)] ?_
          (repeat (first | refine sp_ ?_ | exact ex0))
          (refine ret_s [] ?_; simp (decide := true) (disch := omega) only [go_sem, ↓reduceIte, ↓put_at])
    | false =>
      have e : pieceR ⟨src, false, st, bs⟩ = ((bs.length : Int), (201 : Int), puts' 4 [src] ++ bs.flatMap wrB) := by unfold pieceR; rw [if_pos hm]; simp [hdR]
      rw [e]
      obtain ⟨hd, hhd⟩ : ∃ hd, hd = puts' 4 [src] := ⟨_, rfl⟩
      have hdl : hd.length = 4 := by rw [hhd, hz]
      rw [← hhd] at c1 ⊢
      clear hhd
      refine spec_of Tryz.func30 rfl Tryz.ntmps30 Tryz.results30 ⟨by decide, by simp⟩ fun C hC => ?_
      (repeat (first | refine sp_ ?_ | exact ex0))
      refine call_s Tryz.call63 hc [] ?_
      (repeat (first | refine sp_ ?_ | exact ex0))
      refine call_s Tryz.call45 c1 [(3, 0)] ?_
      (repeat (first | refine sp_ ?_ | exact ex0))
      refine loop_s (α := {j : Nat // j ≤ bs.length}) (fun j => [(.s 1, .av (.ptr (1, 0) 0 0)), (.o (1, 0), .num 7), (.c (1, 0) 6, .av (.val (.lst 7 (bs.map b8El)))), (.s 2, .av (.ptr (2, 0) 0 0)), (.o (2, 0), .num 3), (.s 3, .av (.ptr (3, 0) 0 0)), (.o (3, 0), .num 1), (.c (3, 0) 0, .av (.own (3, 1) 0 5 1 ((hd ++ (bs.take j.1).flatMap wrB).map byteEl))), (.k (3, 1), .row 5 1 ((hd ++ (bs.take j.1).flatMap wrB).map byteEl).length), (.s 4, .av (.val (vi 201))), (.s 21, .av (.val (.lst 7 (bs.map b8El)))), (.s 22, .av (.val (vi bs.length))), (.s 23, .av (.val (vi j.1)))]) (fun j => bs.length - j.1) ⟨0, Nat.zero_le _⟩ ?_ (fun j => ?_)
      · simp only [List.take_zero, List.flatMap_nil, List.append_nil]
        simp (decide := true) (disch := omega) only [go_sem, ↓reduceIte, ↓put_at]
      · obtain ⟨j, hj⟩ := j
        dsimp only at hj ⊢
        have hw := wrBs_len (bs.take j)
        rw [List.length_take, Nat.min_eq_left hj] at hw
        by_cases hlt : j < bs.length
        · have ht : bs.take (j + 1) = bs.take j ++ [bs[j]] := List.take_succ_eq_append_getElem hlt
          have hwr := report_write bs[j] (hb _ (List.getElem_mem hlt)) (hd ++ (bs.take j).flatMap wrB) (by rw [List.length_append]; omega)
          (repeat (first | refine sp_ ?_ | exact ex0))
          refine call_s Tryz.call65 hwr [(3, 0)] ?_
          (repeat (first | refine sp_ ?_ | exact ex0))
          refine next_s ⟨j + 1, hlt⟩ ⟨?_, by dsimp only; omega⟩
          rw [ht, List.flatMap_append]
          simp (decide := true) (disch := omega) only [go_sem, ↓reduceIte, ↓put_at]
          simp [Nat.add_assoc]
        · have e : bs.take j = bs := List.take_of_length_le (by omega)
          rw [e] at hw ⊢
          (repeat (first | refine sp_ ?_ | exact ex0))
          refine call_s Tryz.call47 (out_bytes (hd ++ bs.flatMap wrB) (by rw [List.length_append]; omega)) [(3, 0)] ?_
          (repeat (first | refine sp_ ?_ | exact ex0))
          (refine ret_s [] ?_; simp (decide := true) (disch := omega) only [go_sem, ↓reduceIte, ↓put_at])
end Go.Proofs.YtjkmnjmmnjhacaaGreat

namespace Go.Proofs.YtjkmnjmmnjhacaaGreat
open Go.RowKit
set_option linter.unusedVariables false
set_option linter.unusedSimpArgs false

/-- So many blocks read, and what is left. -/
def rdBs : Nat → List UInt8 × Int → List B8
  | 0, _ => []
  | n + 1, x => rdB x :: rdBs n (nxB x)
def nxBs : Nat → List UInt8 × Int → List UInt8 × Int
  | 0, x => x
  | n + 1, x => nxBs n (nxB x)
theorem nxB_len (x : List UInt8 × Int) : (nxB x).1.length ≤ x.1.length := by
  unfold nxB
  exact Nat.le_trans (nx_len _ _) (Nat.le_trans (nx_len _ _) (Nat.le_trans (nx_len _ _) (Nat.le_trans (nx_len _ _) (Nat.le_trans (nx_len _ _) (Nat.le_trans (nx_len _ _) (nx_len _ _))))))
theorem nxS_len (x : List UInt8 × Int) : (nxS x).1.length ≤ x.1.length := by
  unfold nxS
  exact Nat.le_trans (nx_len _ _) (Nat.le_trans (nx_len _ _) (Nat.le_trans (nx_len _ _) (Nat.le_trans (nx_len _ _) (nx_len _ _))))
theorem rdBs_len (n : Nat) (x : List UInt8 × Int) : (rdBs n x).length = n := by
  induction n generalizing x with
  | zero => rfl
  | succ n ih => simp [rdBs, ih]
def cntN (n : Int) : Int := max 0 (min n 32)
/-- The report as it is read, before it is judged. -/
def rawR (p : Pc) : R8 :=
  ⟨vl 4 (p.2.2, 0), decide (p.2.1 = 200), if p.2.1 = 200 then rdS (nx 4 (p.2.2, 0)) else ⟨0, 0, 0, 0⟩,
    rdBs (cntN p.1).toNat (if p.2.1 = 200 then nxS (nx 4 (p.2.2, 0)) else nx 4 (p.2.2, 0))⟩
def rawX (p : Pc) : List UInt8 × Int := nxBs (cntN p.1).toNat (if p.2.1 = 200 then nxS (nx 4 (p.2.2, 0)) else nx 4 (p.2.2, 0))
def noR : R8 := ⟨0, false, ⟨0, 0, 0, 0⟩, []⟩
def ofE (p : Pc) : Int :=
  if p.2.1 ≠ 200 ∧ p.2.1 ≠ 201 then 5 else if endE (rawX p).1 (rawX p).2 ≠ 0 then endE (rawX p).1 (rawX p).2 else if mayR (rawR p) = true then 0 else 6
def ofR (p : Pc) : R8 := if ofE p = 0 then rawR p else noR
set_option maxRecDepth 100000 in
set_option maxHeartbeats 4000000 in
theorem report_of (p : Pc) (hp : p.2.2.length ≤ maxLen) : Spec Tryz.prog 99 [.ca (.val (pcV p))] [] (.ca (.val (.tup [.agg (r8L (ofR p)), vi (ofE p)]))) [] := by
  obtain ⟨n, k, b⟩ := p
  dsimp only at hp
  have q1 := rd32 (b, 0) hp
  have l1 := Nat.le_trans (nx_len 4 (b, 0)) hp
  have q2 := report_sent (nx 4 (b, 0)) l1
  have l2 := Nat.le_trans (nxS_len (nx 4 (b, 0))) l1
  obtain ⟨E, hE⟩ : ∃ E, E = ofE (n, k, b) := ⟨_, rfl⟩
  obtain ⟨R, hR⟩ : ∃ R, R = ofR (n, k, b) := ⟨_, rfl⟩
  rw [← hE, ← hR]
  refine spec_of Tryz.func99 rfl Tryz.ntmps99 Tryz.results99 ⟨by decide, by simp⟩ fun C hC => ?_
  (repeat ((fail_if_success (refine stop_reg 1 ?_)); (first | refine sp_ ?_ | exact ex0)))
  refine meet_s (α := {_x : Unit // k = 200 ∨ k = 201}) (fun _ => [(.s 1, .av (.ptr (1, 0) 0 0)), (.o (1, 0), .num 3), (.c (1, 0) 0, .av (.val (vi n))), (.c (1, 0) 1, .av (.val (vi k))), (.c (1, 0) 2, .av (.val (vs b))),
    (.s 2, .av (.ptr (2, 0) 0 0)), (.o (2, 0), .num 7), (.c (2, 0) 0, .av (.val (vu 0))), (.c (2, 0) 1, .av (.val (vb false))), (.c (2, 0) 2, .av (.val (vi 0))), (.c (2, 0) 3, .av (.val (vu 0))), (.c (2, 0) 4, .av (.val (vu 0))), (.c (2, 0) 5, .av (.val (vu 0))), (.c (2, 0) 6, .av (.val (.sc (.slice none 0 0)))), (.s 3, .av (.val (vi 0)))]) ?_ (fun x => ?_)
  · by_cases h1 : k = 200
    · subst h1
      (repeat (first | refine sp_ ?_ | exact ex0))
      refine at_meet ⟨(), .inl rfl⟩ ?_
      simp (decide := true) (disch := omega) only [go_sem, ↓reduceIte, ↓put_at]
    by_cases h2 : k = 201
    · subst h2
      (repeat (first | refine sp_ ?_ | exact ex0))
      refine at_meet ⟨(), .inr rfl⟩ ?_
      simp (decide := true) (disch := omega) only [go_sem, ↓reduceIte, ↓put_at]
    · have e : ofE (n, k, b) = 5 := by unfold ofE; rw [if_pos ⟨h1, h2⟩]
      rw [e] at hE
      have e2 : ofR (n, k, b) = noR := by unfold ofR; rw [e]; rfl
      rw [e2] at hR
      subst hE hR
      (repeat (first | refine sp_ ?_ | exact ex0))
      (refine ret_s [] ?_; simp (decide := true) (disch := omega) only [go_sem, ↓reduceIte, ↓put_at])
  obtain ⟨_, hk⟩ := x
  have hofE : ofE (n, k, b) = if endE (rawX (n, k, b)).1 (rawX (n, k, b)).2 ≠ 0 then endE (rawX (n, k, b)).1 (rawX (n, k, b)).2 else if mayR (rawR (n, k, b)) = true then 0 else 6 := by
    unfold ofE; rw [if_neg (by dsimp only; omega)]
  rw [hofE] at hE
  unfold ofR at hR
  rw [hofE, ← hE] at hR
  unfold rawR rawX at hE
  unfold rawR at hR
  dsimp only at hE hR
  obtain ⟨src, hsrc⟩ : ∃ x, x = vl 4 (b, 0) := ⟨_, rfl⟩
  obtain ⟨is, his⟩ : ∃ x, x = decide (k = 200) := ⟨_, rfl⟩
  obtain ⟨st, hst⟩ : ∃ x, x = if k = 200 then rdS (nx 4 (b, 0)) else ⟨0, 0, 0, 0⟩ := ⟨_, rfl⟩
  obtain ⟨x0, hx0⟩ : ∃ x, x = if k = 200 then nxS (nx 4 (b, 0)) else nx 4 (b, 0) := ⟨_, rfl⟩
  have hxl : x0.1.length ≤ maxLen := by rw [hx0]; split <;> assumption
  rw [← hst, ← hx0, ← hsrc, ← his] at hE hR
  rw [← hsrc] at q1
  have his' : (k == 200) = is := by rw [his]; rfl
  (repeat ((fail_if_success (refine stop_reg 5 ?_)); (first | refine sp_ ?_ | exact ex0)))
  refine call_s Tryz.call69 (pen_of b) [] ?_
  (repeat (first | refine sp_ ?_ | exact ex0))
  refine call_s Tryz.call96 q1 [(18, 0)] ?_
  (repeat ((fail_if_success (refine stop_reg 5 ?_)); (first | refine sp_ ?_ | exact ex0)))
  refine meet_s (α := {_x : Unit // True}) (fun _ => [(.s 1, .av (.ptr (1, 0) 0 0)), (.o (1, 0), .num 3), (.c (1, 0) 0, .av (.val (vi n))), (.s 2, .av (.ptr (2, 0) 0 0)), (.o (2, 0), .num 7), (.c (2, 0) 0, .av (.val (vu 0))), (.c (2, 0) 1, .av (.val (vb false))), (.c (2, 0) 2, .av (.val (vi 0))), (.c (2, 0) 3, .av (.val (vu 0))), (.c (2, 0) 4, .av (.val (vu 0))), (.c (2, 0) 5, .av (.val (vu 0))), (.c (2, 0) 6, .av (.val (.sc (.slice none 0 0)))), (.s 3, .av (.val (vi 0))), (.o (18, 0), .num 2), (.c (18, 0) 0, .av (.val (vs x0.1))), (.c (18, 0) 1, .av (.val (vi x0.2))), (.s 4, .av (.ptr (18, 0) 0 0)), (.o (5, 0), .num 7), (.c (5, 0) 0, .av (.val (vu src))), (.c (5, 0) 1, .av (.val (vb is))), (.c (5, 0) 2, .av (.val (vi st.clock))), (.c (5, 0) 3, .av (.val (vu st.time))), (.c (5, 0) 4, .av (.val (vu st.packets))), (.c (5, 0) 5, .av (.val (vu st.bytes))), (.c (5, 0) 6, .av (.val (.sc (.slice none 0 0)))), (.s 5, .av (.ptr (5, 0) 0 0))]) ?_ (fun _ => ?_)
  · rcases hk with rfl | rfl
    · rw [if_pos rfl] at hst hx0
      rw [decide_eq_true rfl] at his
      subst his
      (repeat (first | refine sp_ ?_ | exact ex0))
      refine call_s Tryz.call118 q2 [(18, 0)] ?_
      (repeat (first | refine sp_ ?_ | exact ex0))
      subst hst hx0
      refine at_meet ⟨(), trivial⟩ ?_
      simp (decide := true) (disch := omega) only [go_sem, ↓reduceIte, ↓put_at]
    · rw [if_neg (by decide)] at hst hx0
      rw [decide_eq_false (by decide)] at his
      subst his
      (repeat (first | refine sp_ ?_ | exact ex0))
      subst hst hx0
      refine at_meet ⟨(), trivial⟩ ?_
      simp (decide := true) (disch := omega) only [go_sem, ↓reduceIte, ↓put_at]
  obtain ⟨N, hN⟩ : ∃ N, N = (cntN n).toNat := ⟨_, rfl⟩
  have hcn : max 0 (min n 32) = (N : Int) := by unfold cntN at hN; omega
  have hN32 : N ≤ 32 := by unfold cntN at hN; omega
  obtain ⟨BS, hBS⟩ : ∃ x, x = rdBs N x0 := ⟨_, rfl⟩
  obtain ⟨XF, hXF⟩ : ∃ x, x = nxBs N x0 := ⟨_, rfl⟩
  rw [← hN, ← hBS, ← hXF] at hE
  rw [← hN, ← hBS] at hR
  (repeat (first | refine sp_ ?_ | exact ex0))
  refine own_c (5, 0) 6 (5, 7) 154 7 ?_
  simp (decide := true) (disch := omega) only [go_sem, ↓reduceIte, ↓put_at]
  refine loop_s (α := {y : Nat × (List UInt8 × Int) × List B8 // y.1 ≤ N ∧ y.2.1.1.length ≤ maxLen ∧ y.2.2.length = y.1 ∧ y.2.2 ++ rdBs (N - y.1) y.2.1 = BS ∧ nxBs (N - y.1) y.2.1 = XF}) (fun y => [(.s 1, .av (.ptr (1, 0) 0 0)), (.o (1, 0), .num 3), (.c (1, 0) 0, .av (.val (vi n))), (.s 2, .av (.ptr (2, 0) 0 0)), (.o (2, 0), .num 7), (.c (2, 0) 0, .av (.val (vu 0))), (.c (2, 0) 1, .av (.val (vb false))), (.c (2, 0) 2, .av (.val (vi 0))), (.c (2, 0) 3, .av (.val (vu 0))), (.c (2, 0) 4, .av (.val (vu 0))), (.c (2, 0) 5, .av (.val (vu 0))), (.c (2, 0) 6, .av (.val (.sc (.slice none 0 0)))), (.s 3, .av (.val (vi 0))), (.o (18, 0), .num 2), (.c (18, 0) 0, .av (.val (vs y.1.2.1.1))), (.c (18, 0) 1, .av (.val (vi y.1.2.1.2))), (.s 4, .av (.ptr (18, 0) 0 0)), (.o (5, 0), .num 7), (.c (5, 0) 0, .av (.val (vu src))), (.c (5, 0) 1, .av (.val (vb is))), (.c (5, 0) 2, .av (.val (vi st.clock))), (.c (5, 0) 3, .av (.val (vu st.time))), (.c (5, 0) 4, .av (.val (vu st.packets))), (.c (5, 0) 5, .av (.val (vu st.bytes))), (.c (5, 0) 6, .av (.own (5, 7) 0 154 7 (y.1.2.2.map b8El))), (.s 5, .av (.ptr (5, 0) 0 0)), (.k (5, 7), .row 154 7 y.1.2.2.length), (.s 33, .av (.val (vi N))), (.s 34, .av (.val (vi y.1.1)))]) (fun y => N - y.1.1) ⟨(0, x0, []), Nat.zero_le _, hxl, rfl, hBS.symm, hXF.symm⟩ ?_ (fun y => ?_)
  · simp only [List.map_nil]
    simp (decide := true) (disch := omega) only [go_sem, ↓reduceIte, ↓put_at]
    exact hcn
  · obtain ⟨⟨j, x, acc⟩, hj, hxl', hac, hb1, hb2⟩ := y
    dsimp only at hj hxl' hac hb1 hb2 ⊢
    by_cases hlt : j < N
    · have hbl := report_block x hxl'
      have hnl := Nat.le_trans (nxB_len x) hxl'
      obtain ⟨m, hm⟩ : ∃ m, N - j = m + 1 := ⟨N - j - 1, by omega⟩
      have hm2 : N - (j + 1) = m := by omega
      rw [hm] at hb1 hb2
      rw [rdBs] at hb1
      rw [nxBs] at hb2
      (repeat (first | refine sp_ ?_ | exact ex0))
      refine call_s Tryz.call119 hbl [(18, 0)] ?_
      (repeat (first | refine sp_ ?_ | exact ex0))
      refine next_s ⟨(j + 1, nxB x, acc ++ [rdB x]), hlt, hnl, by simp [hac], by dsimp only; rw [hm2, List.append_assoc]; exact hb1, by dsimp only; rw [hm2]; exact hb2⟩ ⟨?_, by dsimp only; omega⟩
      simp (decide := true) (disch := omega) only [go_sem, ↓reduceIte, ↓put_at]
      rw [List.map_append]; rfl
    · have hjN : N - j = 0 := by omega
      rw [hjN] at hb1 hb2
      simp only [rdBs, nxBs, List.append_nil] at hb1 hb2
      clear hBS hXF
      subst hb1 hb2
      have c1 := in_end x.1 x.2
      have c2 := report_check ⟨src, is, st, acc⟩ (by dsimp only; omega)
      obtain ⟨e, he⟩ : ∃ e, e = endE x.1 x.2 := ⟨_, rfl⟩
      rw [← he] at hE c1
      by_cases h0 : e = 0
      · rw [if_neg (by simpa using h0)] at hE
        subst h0
        cases hm : mayR ⟨src, is, st, acc⟩ with
        | false =>
          rw [hm, if_neg (by decide)] at hE c2
          subst hE
          rw [if_neg (by decide)] at hR
          subst hR
          (repeat (first | refine sp_ ?_ | exact ex0))
          refine call_s Tryz.call120 c1 [(18, 0)] ?_
          (repeat (first | refine sp_ ?_ | exact ex0))
          refine call_s Tryz.call63 c2 [] ?_
          (repeat (first | refine sp_ ?_ | exact ex0))
          (refine ret_s [] ?_; simp (decide := true) (disch := omega) only [go_sem, ↓reduceIte, ↓put_at])
        | true =>
          rw [hm, if_pos rfl] at hE c2
          subst hE
          rw [if_pos rfl] at hR
          subst hR
          (repeat (first | refine sp_ ?_ | exact ex0))
          refine call_s Tryz.call120 c1 [(18, 0)] ?_
          (repeat (first | refine sp_ ?_ | exact ex0))
          refine call_s Tryz.call63 c2 [] ?_
          (repeat (first | refine sp_ ?_ | exact ex0))
          (refine ret_s [] ?_; simp (decide := true) (disch := omega) only [go_sem, ↓reduceIte, ↓put_at])
      · rw [if_pos h0] at hE
        subst hE
        rw [if_neg h0] at hR
        subst hR
        (repeat (first | refine sp_ ?_ | exact ex0))
        refine call_s Tryz.call120 c1 [(18, 0)] ?_
        (repeat (first | refine sp_ ?_ | exact ex0))
        (refine ret_s [] ?_; simp (decide := true) (disch := omega) only [go_sem, ↓reduceIte, ↓put_at])
end Go.Proofs.YtjkmnjmmnjhacaaGreat

