/- Package report: Piece. -/
import Derived.Test.YtbnnfmleoebelaaGreatQReportz
import Derived.Test.YtbnnfmleoebelaaGreatRLz
import Derived.Test.YtbnnfmleoebelaaGreatQRefZz
import Derived.Test.YtbnnfmleoebelaaGreatSubMz
import Derived.Test.YtbnnfmleoebelaaGreatOpenz
import Derived.Shelf.Strings.Repeat
import Derived.Test.YtbnnfmleoebelaaGreatProg
namespace Go.Proofs.YtbnnfmleoebelaaGreat
open Go.RowKit
set_option linter.unusedVariables false
set_option linter.unusedSimpArgs false

theorem wrB_len (b : B8) : (wrB b).length = 24 := by simp [wrB, puts'_length]
theorem wrBs_len (bs : List B8) : (bs.flatMap wrB).length = 24 * bs.length := by
  induction bs with
  | nil => rfl
  | cons b bs ih => simp [wrB_len, ih]; omega
theorem wrS_len (s : S8) : (wrS s).length = 20 := by simp [wrS, puts'_length]
def hdR (r : R8) : List UInt8 := puts' 4 [r.src] ++ (if r.isS = true then wrS r.sent else [])
def pieceR (r : R8) : Pc := if mayR r = true then (r.bs.length, if r.isS = true then 200 else 201, hdR r ++ r.bs.flatMap wrB) else (0, 0, [])
structure R8.Ok (r : R8) : Prop where
  src : 0 ≤ r.src ∧ r.src < 4294967296
  sent : r.sent.Ok
  bs : ∀ b ∈ r.bs, b.Ok
set_option maxRecDepth 100000 in
set_option maxHeartbeats 4000000 in
theorem report_piece (r : R8) (hr : r.Ok) (hl : r.bs.length ≤ 9223372036854775807) : Spec Tryz.prog 121 [.ca (.val (.agg (r8L r)))] [] (.ca (.val (pcV (pieceR r)))) [] := by
  obtain ⟨src, is, st, bs⟩ := r
  have hc := report_check ⟨src, is, st, bs⟩ hl
  obtain ⟨hsrc, hst, hb⟩ := hr
  dsimp only at *
  cases hm : mayR ⟨src, is, st, bs⟩ with
  | false =>
    rw [hm, if_neg (by decide)] at hc
    have e : pieceR ⟨src, is, st, bs⟩ = (0, 0, []) := by unfold pieceR; rw [hm]; rfl
    rw [e]
    refine spec_of Tryz.func121 rfl Tryz.ntmps121 Tryz.results121 ⟨by decide, by simp⟩ fun C hC => ?_
    (repeat (first | refine sp_ ?_ | exact ex0))
    refine call_s Tryz.call76 hc [] ?_
    (repeat (first | refine sp_ ?_ | exact ex0))
    (refine ret_s [] ?_; simp (decide := true) (disch := omega) only [go_sem, ↓reduceIte, ↓put_at])
  | true =>
    rw [hm, if_pos rfl] at hc
    have hmm := hm
    unfold mayR isS at hmm
    simp only [Bool.and_eq_true, decide_eq_true_eq] at hmm
    obtain ⟨⟨⟨hclk, _⟩, h31⟩, _⟩ := hmm
    have hsl := wrS_len st
    have hz := puts'_length 4 [src]
    simp only [List.length_cons, List.length_nil] at hz
    have c1 := out_u32 [] [src] (by simp) (by simpa using hsrc)
    rw [List.nil_append] at c1
    cases is with
    | true =>
      have e : pieceR ⟨src, true, st, bs⟩ = ((bs.length : Int), (200 : Int), (puts' 4 [src] ++ wrS st) ++ bs.flatMap wrB) := by unfold pieceR; rw [if_pos hm]; rfl
      rw [e]
      have c2 := report_put st hst hclk (puts' 4 [src]) (by omega)
      obtain ⟨hd, hhd⟩ : ∃ hd, hd = puts' 4 [src] ++ wrS st := ⟨_, rfl⟩
      have hdl : hd.length = 24 := by rw [hhd, List.length_append, hz, hsl]
      rw [← hhd] at c2 ⊢
      clear hhd
      refine spec_of Tryz.func121 rfl Tryz.ntmps121 Tryz.results121 ⟨by decide, by simp⟩ fun C hC => ?_
      (repeat (first | refine sp_ ?_ | exact ex0))
      refine call_s Tryz.call76 hc [] ?_
      (repeat (first | refine sp_ ?_ | exact ex0))
      refine call_s Tryz.call39 c1 [(3, 0)] ?_
      (repeat (first | refine sp_ ?_ | exact ex0))
      refine call_s Tryz.call122 c2 [(3, 0)] ?_
      (repeat (first | refine sp_ ?_ | exact ex0))
      refine loop_s (α := {j : Nat // j ≤ bs.length}) (fun j => [(.s 1, .av (.ptr (1, 0) 0 0)), (.o (1, 0), .num 7), (.c (1, 0) 6, .av (.val (.lst 7 (bs.map b8El)))), (.s 2, .av (.ptr (2, 0) 0 0)), (.o (2, 0), .num 3), (.s 3, .av (.ptr (3, 0) 0 0)), (.o (3, 0), .num 1), (.c (3, 0) 0, .av (.own (3, 1) 0 5 1 ((hd ++ (bs.take j.1).flatMap wrB).map byteEl))), (.k (3, 1), .row 5 1 ((hd ++ (bs.take j.1).flatMap wrB).map byteEl).length), (.s 4, .av (.val (vi 200))), (.s 21, .av (.val (.lst 7 (bs.map b8El)))), (.s 22, .av (.val (vi bs.length))), (.s 23, .av (.val (vi j.1)))]) (fun j => bs.length - j.1) ⟨0, Nat.zero_le _⟩ ?_ (fun j => ?_)
      · simp only [List.take_zero, List.flatMap_nil, List.append_nil]
        simp (decide := true) (disch := omega) only [go_sem, ↓reduceIte, ↓put_at]
      · obtain ⟨j, hj⟩ := j
        dsimp only at hj ⊢
        have hw := wrBs_len (bs.take j)
        rw [List.length_take, Nat.min_eq_left hj] at hw
        by_cases hlt : j < bs.length
        · have ht : bs.take (j + 1) = bs.take j ++ [bs[j]] := List.take_succ_eq_append_getElem hlt
          have hwr := report_write bs[j] (hb _ (List.getElem_mem hlt)) (hd ++ (bs.take j).flatMap wrB) (by rw [List.length_append]; omega)
          (repeat (first | refine sp_ ?_ | exact ex0))
          refine call_s Tryz.call123 hwr [(3, 0)] ?_
          (repeat (first | refine sp_ ?_ | exact ex0))
          refine next_s ⟨j + 1, hlt⟩ ⟨?_, by dsimp only; omega⟩
          rw [ht, List.flatMap_append]
          simp (decide := true) (disch := omega) only [go_sem, ↓reduceIte, ↓put_at]
          simp [Nat.add_assoc]
        · have e : bs.take j = bs := List.take_of_length_le (by omega)
          rw [e] at hw ⊢
          (repeat (first | refine sp_ ?_ | exact ex0))
          refine call_s Tryz.call37 (out_bytes (hd ++ bs.flatMap wrB) (by rw [List.length_append]; omega)) [(3, 0)] ?_
          (repeat (first | refine sp_ ?_ | exact ex0))
          (refine ret_s [] ?_; simp (decide := true) (disch := omega) only [go_sem, ↓reduceIte, ↓put_at])
    | false =>
      have e : pieceR ⟨src, false, st, bs⟩ = ((bs.length : Int), (201 : Int), puts' 4 [src] ++ bs.flatMap wrB) := by unfold pieceR; rw [if_pos hm]; simp [hdR]
      rw [e]
      obtain ⟨hd, hhd⟩ : ∃ hd, hd = puts' 4 [src] := ⟨_, rfl⟩
      have hdl : hd.length = 4 := by rw [hhd, hz]
      rw [← hhd] at c1 ⊢
      clear hhd
      refine spec_of Tryz.func121 rfl Tryz.ntmps121 Tryz.results121 ⟨by decide, by simp⟩ fun C hC => ?_
      (repeat (first | refine sp_ ?_ | exact ex0))
      refine call_s Tryz.call76 hc [] ?_
      (repeat (first | refine sp_ ?_ | exact ex0))
      refine call_s Tryz.call39 c1 [(3, 0)] ?_
      (repeat (first | refine sp_ ?_ | exact ex0))
      refine loop_s (α := {j : Nat // j ≤ bs.length}) (fun j => [(.s 1, .av (.ptr (1, 0) 0 0)), (.o (1, 0), .num 7), (.c (1, 0) 6, .av (.val (.lst 7 (bs.map b8El)))), (.s 2, .av (.ptr (2, 0) 0 0)), (.o (2, 0), .num 3), (.s 3, .av (.ptr (3, 0) 0 0)), (.o (3, 0), .num 1), (.c (3, 0) 0, .av (.own (3, 1) 0 5 1 ((hd ++ (bs.take j.1).flatMap wrB).map byteEl))), (.k (3, 1), .row 5 1 ((hd ++ (bs.take j.1).flatMap wrB).map byteEl).length), (.s 4, .av (.val (vi 201))), (.s 21, .av (.val (.lst 7 (bs.map b8El)))), (.s 22, .av (.val (vi bs.length))), (.s 23, .av (.val (vi j.1)))]) (fun j => bs.length - j.1) ⟨0, Nat.zero_le _⟩ ?_ (fun j => ?_)
      · simp only [List.take_zero, List.flatMap_nil, List.append_nil]
        simp (decide := true) (disch := omega) only [go_sem, ↓reduceIte, ↓put_at]
      · obtain ⟨j, hj⟩ := j
        dsimp only at hj ⊢
        have hw := wrBs_len (bs.take j)
        rw [List.length_take, Nat.min_eq_left hj] at hw
        by_cases hlt : j < bs.length
        · have ht : bs.take (j + 1) = bs.take j ++ [bs[j]] := List.take_succ_eq_append_getElem hlt
          have hwr := report_write bs[j] (hb _ (List.getElem_mem hlt)) (hd ++ (bs.take j).flatMap wrB) (by rw [List.length_append]; omega)
          (repeat (first | refine sp_ ?_ | exact ex0))
          refine call_s Tryz.call123 hwr [(3, 0)] ?_
          (repeat (first | refine sp_ ?_ | exact ex0))
          refine next_s ⟨j + 1, hlt⟩ ⟨?_, by dsimp only; omega⟩
          rw [ht, List.flatMap_append]
          simp (decide := true) (disch := omega) only [go_sem, ↓reduceIte, ↓put_at]
          simp [Nat.add_assoc]
        · have e : bs.take j = bs := List.take_of_length_le (by omega)
          rw [e] at hw ⊢
          (repeat (first | refine sp_ ?_ | exact ex0))
          refine call_s Tryz.call37 (out_bytes (hd ++ bs.flatMap wrB) (by rw [List.length_append]; omega)) [(3, 0)] ?_
          (repeat (first | refine sp_ ?_ | exact ex0))
          (refine ret_s [] ?_; simp (decide := true) (disch := omega) only [go_sem, ↓reduceIte, ↓put_at])
end Go.Proofs.YtbnnfmleoebelaaGreat

namespace Go.Proofs.YtbnnfmleoebelaaGreat
open Go.RowKit
set_option linter.unusedVariables false
set_option linter.unusedSimpArgs false

/-- So many blocks read, and what is left. -/
def rdBs : Nat → List UInt8 × Int → List B8
  | 0, _ => []
  | n + 1, x => rdB x :: rdBs n (nxB x)
def nxBs : Nat → List UInt8 × Int → List UInt8 × Int
  | 0, x => x
  | n + 1, x => nxBs n (nxB x)
theorem nxB_len (x : List UInt8 × Int) : (nxB x).1.length ≤ x.1.length := by
  unfold nxB
  exact Nat.le_trans (nx_len _ _) (Nat.le_trans (nx_len _ _) (Nat.le_trans (nx_len _ _) (Nat.le_trans (nx_len _ _) (Nat.le_trans (nx_len _ _) (Nat.le_trans (nx_len _ _) (nx_len _ _))))))
theorem nxS_len (x : List UInt8 × Int) : (nxS x).1.length ≤ x.1.length := by
  unfold nxS
  exact Nat.le_trans (nx_len _ _) (Nat.le_trans (nx_len _ _) (Nat.le_trans (nx_len _ _) (Nat.le_trans (nx_len _ _) (nx_len _ _))))
def cntN (n : Int) : Int := max 0 (min n 32)
/-- The report as it is read, before it is judged. -/
def rawR (p : Pc) : R8 :=
  ⟨vl 4 (p.2.2, 0), decide (p.2.1 = 200), if p.2.1 = 200 then rdS (nx 4 (p.2.2, 0)) else ⟨0, 0, 0, 0⟩,
    rdBs (cntN p.1).toNat (if p.2.1 = 200 then nxS (nx 4 (p.2.2, 0)) else nx 4 (p.2.2, 0))⟩
def rawX (p : Pc) : List UInt8 × Int := nxBs (cntN p.1).toNat (if p.2.1 = 200 then nxS (nx 4 (p.2.2, 0)) else nx 4 (p.2.2, 0))
def noR : R8 := ⟨0, false, ⟨0, 0, 0, 0⟩, []⟩
def ofE (p : Pc) : Int :=
  if p.2.1 ≠ 200 ∧ p.2.1 ≠ 201 then 5 else if endE (rawX p).1 (rawX p).2 ≠ 0 then endE (rawX p).1 (rawX p).2 else if mayR (rawR p) = true then 0 else 6
def ofR (p : Pc) : R8 := if ofE p = 0 then rawR p else noR
set_option maxRecDepth 100000 in
set_option maxHeartbeats 4000000 in
theorem report_of (p : Pc) (hp : p.2.2.length ≤ maxLen) : Spec Tryz.prog 50 [.ca (.val (pcV p))] [] (.ca (.val (.tup [.agg (r8L (ofR p)), vi (ofE p)]))) [] := by
  obtain ⟨n, k, b⟩ := p
  dsimp only at hp
  have q1 := rd32 (b, 0) hp
  have l1 := Nat.le_trans (nx_len 4 (b, 0)) hp
  have q2 := report_sent (nx 4 (b, 0)) l1
  have l2 := Nat.le_trans (nxS_len (nx 4 (b, 0))) l1
  obtain ⟨E, hE⟩ : ∃ E, E = ofE (n, k, b) := ⟨_, rfl⟩
  obtain ⟨R, hR⟩ : ∃ R, R = ofR (n, k, b) := ⟨_, rfl⟩
  rw [← hE, ← hR]
  refine spec_of Tryz.func50 rfl Tryz.ntmps50 Tryz.results50 ⟨by decide, by simp⟩ fun C hC => ?_
  (repeat ((fail_if_success (refine stop_reg 1 ?_)); (first | refine sp_ ?_ | exact ex0)))
  refine meet_s (α := {_x : Unit // k = 200 ∨ k = 201}) (fun _ => [(.s 1, .av (.ptr (1, 0) 0 0)), (.o (1, 0), .num 3), (.c (1, 0) 0, .av (.val (vi n))), (.c (1, 0) 1, .av (.val (vi k))), (.c (1, 0) 2, .av (.val (vs b))),
    (.s 2, .av (.ptr (2, 0) 0 0)), (.o (2, 0), .num 7), (.c (2, 0) 0, .av (.val (vu 0))), (.c (2, 0) 1, .av (.val (vb false))), (.c (2, 0) 2, .av (.val (vi 0))), (.c (2, 0) 3, .av (.val (vu 0))), (.c (2, 0) 4, .av (.val (vu 0))), (.c (2, 0) 5, .av (.val (vu 0))), (.c (2, 0) 6, .av (.val (.sc (.slice none 0 0)))), (.s 3, .av (.val (vi 0)))]) ?_ (fun x => ?_)
  · by_cases h1 : k = 200
    · subst h1
      (repeat (first | refine sp_ ?_ | exact ex0))
      refine at_meet ⟨(), .inl rfl⟩ ?_
      simp (decide := true) (disch := omega) only [go_sem, ↓reduceIte, ↓put_at]
    by_cases h2 : k = 201
    · subst h2
      (repeat (first | refine sp_ ?_ | exact ex0))
      refine at_meet ⟨(), .inr rfl⟩ ?_
      simp (decide := true) (disch := omega) only [go_sem, ↓reduceIte, ↓put_at]
    · have e : ofE (n, k, b) = 5 := by unfold ofE; rw [if_pos ⟨h1, h2⟩]
      rw [e] at hE
      have e2 : ofR (n, k, b) = noR := by unfold ofR; rw [e]; rfl
      rw [e2] at hR
      subst hE hR
      (repeat (first | refine sp_ ?_ | exact ex0))
      (refine ret_s [] ?_; simp (decide := true) (disch := omega) only [go_sem, ↓reduceIte, ↓put_at])
  obtain ⟨_, hk⟩ := x
  have hofE : ofE (n, k, b) = if endE (rawX (n, k, b)).1 (rawX (n, k, b)).2 ≠ 0 then endE (rawX (n, k, b)).1 (rawX (n, k, b)).2 else if mayR (rawR (n, k, b)) = true then 0 else 6 := by
    unfold ofE; rw [if_neg (by dsimp only; omega)]
  rw [hofE] at hE
  unfold ofR at hR
  rw [hofE, ← hE] at hR
  unfold rawR rawX at hE
  unfold rawR at hR
  dsimp only at hE hR
  obtain ⟨src, hsrc⟩ : ∃ x, x = vl 4 (b, 0) := ⟨_, rfl⟩
  obtain ⟨is, his⟩ : ∃ x, x = decide (k = 200) := ⟨_, rfl⟩
  obtain ⟨st, hst⟩ : ∃ x, x = if k = 200 then rdS (nx 4 (b, 0)) else ⟨0, 0, 0, 0⟩ := ⟨_, rfl⟩
  obtain ⟨x0, hx0⟩ : ∃ x, x = if k = 200 then nxS (nx 4 (b, 0)) else nx 4 (b, 0) := ⟨_, rfl⟩
  have hxl : x0.1.length ≤ maxLen := by rw [hx0]; split <;> assumption
  rw [← hst, ← hx0, ← hsrc, ← his] at hE hR
  rw [← hsrc] at q1
  have his' : (k == 200) = is := by rw [his]; rfl
  (repeat ((fail_if_success (refine stop_reg 5 ?_)); (first | refine sp_ ?_ | exact ex0)))
  refine call_s Tryz.call43 (pen_of b) [] ?_
  (repeat (first | refine sp_ ?_ | exact ex0))
  refine call_s Tryz.call71 q1 [(18, 0)] ?_
  (repeat ((fail_if_success (refine stop_reg 5 ?_)); (first | refine sp_ ?_ | exact ex0)))
  refine meet_s (α := {_x : Unit // True}) (fun _ => [(.s 1, .av (.ptr (1, 0) 0 0)), (.o (1, 0), .num 3), (.c (1, 0) 0, .av (.val (vi n))), (.s 2, .av (.ptr (2, 0) 0 0)), (.o (2, 0), .num 7), (.c (2, 0) 0, .av (.val (vu 0))), (.c (2, 0) 1, .av (.val (vb false))), (.c (2, 0) 2, .av (.val (vi 0))), (.c (2, 0) 3, .av (.val (vu 0))), (.c (2, 0) 4, .av (.val (vu 0))), (.c (2, 0) 5, .av (.val (vu 0))), (.c (2, 0) 6, .av (.val (.sc (.slice none 0 0)))), (.s 3, .av (.val (vi 0))), (.o (18, 0), .num 2), (.c (18, 0) 0, .av (.val (vs x0.1))), (.c (18, 0) 1, .av (.val (vi x0.2))), (.s 4, .av (.ptr (18, 0) 0 0)), (.o (5, 0), .num 7), (.c (5, 0) 0, .av (.val (vu src))), (.c (5, 0) 1, .av (.val (vb is))), (.c (5, 0) 2, .av (.val (vi st.clock))), (.c (5, 0) 3, .av (.val (vu st.time))), (.c (5, 0) 4, .av (.val (vu st.packets))), (.c (5, 0) 5, .av (.val (vu st.bytes))), (.c (5, 0) 6, .av (.val (.sc (.slice none 0 0)))), (.s 5, .av (.ptr (5, 0) 0 0))]) ?_ (fun _ => ?_)
  · rcases hk with rfl | rfl
    · rw [if_pos rfl] at hst hx0
      rw [decide_eq_true rfl] at his
      subst his
      (repeat (first | refine sp_ ?_ | exact ex0))
      refine call_s Tryz.call73 q2 [(18, 0)] ?_
      (repeat (first | refine sp_ ?_ | exact ex0))
      subst hst hx0
      refine at_meet ⟨(), trivial⟩ ?_
      simp (decide := true) (disch := omega) only [go_sem, ↓reduceIte, ↓put_at]
    · rw [if_neg (by decide)] at hst hx0
      rw [decide_eq_false (by decide)] at his
      subst his
      (repeat (first | refine sp_ ?_ | exact ex0))
      subst hst hx0
      refine at_meet ⟨(), trivial⟩ ?_
      simp (decide := true) (disch := omega) only [go_sem, ↓reduceIte, ↓put_at]
  obtain ⟨N, hN⟩ : ∃ N, N = (cntN n).toNat := ⟨_, rfl⟩
  have hcn : max 0 (min n 32) = (N : Int) := by unfold cntN at hN; omega
  have hN32 : N ≤ 32 := by unfold cntN at hN; omega
  obtain ⟨BS, hBS⟩ : ∃ x, x = rdBs N x0 := ⟨_, rfl⟩
  obtain ⟨XF, hXF⟩ : ∃ x, x = nxBs N x0 := ⟨_, rfl⟩
  rw [← hN, ← hBS, ← hXF] at hE
  rw [← hN, ← hBS] at hR
  (repeat (first | refine sp_ ?_ | exact ex0))
  refine own_c (5, 0) 6 (5, 7) 152 7 ?_
  simp (decide := true) (disch := omega) only [go_sem, ↓reduceIte, ↓put_at]
  refine loop_s (α := {y : Nat × (List UInt8 × Int) × List B8 // y.1 ≤ N ∧ y.2.1.1.length ≤ maxLen ∧ y.2.2.length = y.1 ∧ y.2.2 ++ rdBs (N - y.1) y.2.1 = BS ∧ nxBs (N - y.1) y.2.1 = XF}) (fun y => [(.s 1, .av (.ptr (1, 0) 0 0)), (.o (1, 0), .num 3), (.c (1, 0) 0, .av (.val (vi n))), (.s 2, .av (.ptr (2, 0) 0 0)), (.o (2, 0), .num 7), (.c (2, 0) 0, .av (.val (vu 0))), (.c (2, 0) 1, .av (.val (vb false))), (.c (2, 0) 2, .av (.val (vi 0))), (.c (2, 0) 3, .av (.val (vu 0))), (.c (2, 0) 4, .av (.val (vu 0))), (.c (2, 0) 5, .av (.val (vu 0))), (.c (2, 0) 6, .av (.val (.sc (.slice none 0 0)))), (.s 3, .av (.val (vi 0))), (.o (18, 0), .num 2), (.c (18, 0) 0, .av (.val (vs y.1.2.1.1))), (.c (18, 0) 1, .av (.val (vi y.1.2.1.2))), (.s 4, .av (.ptr (18, 0) 0 0)), (.o (5, 0), .num 7), (.c (5, 0) 0, .av (.val (vu src))), (.c (5, 0) 1, .av (.val (vb is))), (.c (5, 0) 2, .av (.val (vi st.clock))), (.c (5, 0) 3, .av (.val (vu st.time))), (.c (5, 0) 4, .av (.val (vu st.packets))), (.c (5, 0) 5, .av (.val (vu st.bytes))), (.c (5, 0) 6, .av (.own (5, 7) 0 152 7 (y.1.2.2.map b8El))), (.s 5, .av (.ptr (5, 0) 0 0)), (.k (5, 7), .row 152 7 y.1.2.2.length), (.s 33, .av (.val (vi N))), (.s 34, .av (.val (vi y.1.1)))]) (fun y => N - y.1.1) ⟨(0, x0, []), Nat.zero_le _, hxl, rfl, hBS.symm, hXF.symm⟩ ?_ (fun y => ?_)
  · simp only [List.map_nil]
    simp (decide := true) (disch := omega) only [go_sem, ↓reduceIte, ↓put_at]
    exact hcn
  · obtain ⟨⟨j, x, acc⟩, hj, hxl', hac, hb1, hb2⟩ := y
    dsimp only at hj hxl' hac hb1 hb2 ⊢
    by_cases hlt : j < N
    · have hbl := report_block x hxl'
      have hnl := Nat.le_trans (nxB_len x) hxl'
      obtain ⟨m, hm⟩ : ∃ m, N - j = m + 1 := ⟨N - j - 1, by omega⟩
      have hm2 : N - (j + 1) = m := by omega
      rw [hm] at hb1 hb2
      rw [rdBs] at hb1
      rw [nxBs] at hb2
      (repeat (first | refine sp_ ?_ | exact ex0))
      refine call_s Tryz.call74 hbl [(18, 0)] ?_
      (repeat (first | refine sp_ ?_ | exact ex0))
      refine next_s ⟨(j + 1, nxB x, acc ++ [rdB x]), hlt, hnl, by simp [hac], by dsimp only; rw [hm2, List.append_assoc]; exact hb1, by dsimp only; rw [hm2]; exact hb2⟩ ⟨?_, by dsimp only; omega⟩
      simp (decide := true) (disch := omega) only [go_sem, ↓reduceIte, ↓put_at]
      rw [List.map_append]; rfl
    · have hjN : N - j = 0 := by omega
      rw [hjN] at hb1 hb2
      simp only [rdBs, nxBs, List.append_nil] at hb1 hb2
      clear hBS hXF
      subst hb1 hb2
      have c1 := in_end x.1 x.2
      have c2 := report_check ⟨src, is, st, acc⟩ (by dsimp only; omega)
      obtain ⟨e, he⟩ : ∃ e, e = endE x.1 x.2 := ⟨_, rfl⟩
      rw [← he] at hE c1
      by_cases h0 : e = 0
      · rw [if_neg (by simpa using h0)] at hE
        subst h0
        cases hm : mayR ⟨src, is, st, acc⟩ with
        | false =>
          rw [hm, if_neg (by decide)] at hE c2
          subst hE
          rw [if_neg (by decide)] at hR
          subst hR
          (repeat (first | refine sp_ ?_ | exact ex0))
          refine call_s Tryz.call75 c1 [(18, 0)] ?_
          (repeat (first | refine sp_ ?_ | exact ex0))
          refine call_s Tryz.call76 c2 [] ?_
          (repeat (first | refine sp_ ?_ | exact ex0))
          (refine ret_s [] ?_; simp (decide := true) (disch := omega) only [go_sem, ↓reduceIte, ↓put_at])
        | true =>
          rw [hm, if_pos rfl] at hE c2
          subst hE
          rw [if_pos rfl] at hR
          subst hR
          (repeat (first | refine sp_ ?_ | exact ex0))
          refine call_s Tryz.call75 c1 [(18, 0)] ?_
          (repeat (first | refine sp_ ?_ | exact ex0))
          refine call_s Tryz.call76 c2 [] ?_
          (repeat (first | refine sp_ ?_ | exact ex0))
          (refine ret_s [] ?_; simp (decide := true) (disch := omega) only [go_sem, ↓reduceIte, ↓put_at])
      · rw [if_pos h0] at hE
        subst hE
        rw [if_neg h0] at hR
        subst hR
        (repeat (first | refine sp_ ?_ | exact ex0))
        refine call_s Tryz.call75 c1 [(18, 0)] ?_
        (repeat (first | refine sp_ ?_ | exact ex0))
        (refine ret_s [] ?_; simp (decide := true) (disch := omega) only [go_sem, ↓reduceIte, ↓put_at])
end Go.Proofs.YtbnnfmleoebelaaGreat

namespace Go.Proofs.YtbnnfmleoebelaaGreat
open Go.RowKit
set_option linter.unusedVariables false
set_option linter.unusedSimpArgs false

abbrev z8L (b : B8) : List V := [vi b.src, vi b.fr, vi b.lost, vi b.hi, vi b.ji, vi b.la, vi b.de]
def z8El (b : B8) : List V := z8L b
attribute [go_sem] z8El
attribute [go_sem] putZ_length
theorem hdR_len (r : R8) : (hdR r).length ≤ 24 := by
  unfold hdR
  have := wrS_len r.sent
  split <;> simp [puts'_length, this]
end Go.Proofs.YtbnnfmleoebelaaGreat

namespace Go.Proofs.YtbnnfmleoebelaaGreat
open Go.RowKit
set_option linter.unusedVariables false
set_option linter.unusedSimpArgs false

end Go.Proofs.YtbnnfmleoebelaaGreat

namespace Go.Proofs.YtbnnfmleoebelaaGreat
open Go.RowKit
set_option linter.unusedVariables false
set_option linter.unusedSimpArgs false

end Go.Proofs.YtbnnfmleoebelaaGreat

namespace Go.Proofs.YtbnnfmleoebelaaGreat
open Go.RowKit
set_option linter.unusedVariables false
set_option linter.unusedSimpArgs false

def zer (k : Nat) : List UInt8 := List.replicate k 0
/-- How many bytes 0 are laid behind n bytes: at least so many, and up to a multiple of 4. -/
def padN (n least : Nat) : Nat := least + (4 - (n + least) % 4) % 4
theorem padN_mod (n m least : Nat) (h : n % 4 = m % 4) : padN n least = padN m least := by unfold padN; omega
theorem padN_sum (n least : Nat) : (n + padN n least) % 4 = 0 := by unfold padN; omega
theorem zer_len (k : Nat) : (zer k).length = k := List.length_replicate ..
/-- Bytes 0 up to a multiple of 4. -/
def fillB (s : List UInt8) : List UInt8 := s ++ zer (padN s.length 0)
/-- Who a source is. -/
structure N9 where
  src : Int
  text : List UInt8
  deriving DecidableEq
def mayN (x : N9) : Bool := decide (1 ≤ x.text.length ∧ x.text.length ≤ 255)
def itemB (x : N9) : List UInt8 := puts' 4 [x.src] ++ puts' 1 [1, (x.text.length : Int)] ++ x.text ++ zer (padN (6 + x.text.length) 1)
theorem itemB_len (x : N9) : (itemB x).length = 6 + x.text.length + padN (6 + x.text.length) 1 := by
  unfold itemB
  simp only [List.length_append, puts'_length, zer_len, List.length_cons, List.length_nil]
theorem itemB_mod (x : N9) : (itemB x).length % 4 = 0 := by rw [itemB_len]; exact padN_sum _ _
def namesP (l : List N9) : Pc := if l.length ≤ 31 ∧ l.all mayN = true then ((l.length : Int), 202, l.flatMap itemB) else (0, 0, [])
theorem items_mod (l : List N9) : (l.flatMap itemB).length % 4 = 0 := by
  induction l with
  | nil => rfl
  | cons x l ih =>
    have := itemB_mod x
    rw [List.flatMap_cons, List.length_append]
    omega
theorem items_le (l : List N9) (h : l.all mayN = true) : (l.flatMap itemB).length ≤ 300 * l.length := by
  induction l with
  | nil => simp
  | cons x l ih =>
    simp only [List.all_cons, Bool.and_eq_true] at h
    have h1 := h.1
    unfold mayN at h1
    rw [decide_eq_true_eq] at h1
    have h2 := itemB_len x
    have h3 : padN (6 + x.text.length) 1 ≤ 4 := by unfold padN; omega
    have := ih h.2
    rw [List.flatMap_cons, List.length_append, List.length_cons]
    omega
/-- Who goes. -/
structure Y9 where
  reason : List UInt8
  srcs : List Int
  deriving DecidableEq
def mayY (b : Y9) : Bool := decide (b.srcs.length ≤ 31 ∧ b.reason.length ≤ 255)
def reasonB (r : List UInt8) : List UInt8 := if r = [] then [] else puts' 1 [(r.length : Int)] ++ r ++ zer (padN (1 + r.length) 0)
def byeP (b : Y9) : Pc := if mayY b = true then ((b.srcs.length : Int), 203, puts' 4 b.srcs ++ reasonB b.reason) else (0, 0, [])
/-- What an application says. -/
structure A9 where
  sub : Int
  src : Int
  name : List UInt8
  data : List UInt8
  deriving DecidableEq
def mayA (a : A9) : Bool := decide (0 ≤ a.sub ∧ a.sub ≤ 31 ∧ a.name.length = 4 ∧ a.data.length % 4 = 0 ∧ a.data.length ≤ 1024)
def appP (a : A9) : Pc := if mayA a = true then (a.sub, 204, puts' 4 [a.src] ++ a.name ++ a.data) else (0, 0, [])
end Go.Proofs.YtbnnfmleoebelaaGreat

namespace Go.Proofs
open Go.Shelf
def Tryz.lays105_ren : Go.Shelf.Ren := ⟨fun | 105 => 65 | 212 => 83 | 99 => 84 | 165 => 85 | 166 => 86 | 170 => 87 | 169 => 88 | 263 => 99 | 264 => 100 | 206 => 101 | 240 => 102 | 241 => 103 | 276 => 104 | 277 => 105 | n => n, fun | 9 => 9 | 3 => 3 | 4 => 4 | 20 => 20 | 0 => 0 | 46 => 109 | 109 => 161 | 5 => 5 | 72 => 166 | 76 => 170 | 51 => 22 | 146 => 179 | 53 => 181 | 148 => 182 | 70 => 164 | 37 => 95 | 75 => 169 | 127 => 184 | 164 => 186 | 80 => 102 | n => n, fun | n => n⟩
theorem Tryz.lays105 : Go.Proofs.Lays.n105 Tryz.prog Tryz.lays105_ren := {
  mixed := by kernel_rfl
  f99 := Tryz.func84.trans (congrArg some (by kernel_rfl))
  f105 := Tryz.func65.trans (congrArg some (by kernel_rfl))
  f165 := Tryz.func85.trans (congrArg some (by kernel_rfl))
  f166 := Tryz.func86.trans (congrArg some (by kernel_rfl))
  f169 := Tryz.func88.trans (congrArg some (by kernel_rfl))
  f170 := Tryz.func87.trans (congrArg some (by kernel_rfl))
  f206 := Tryz.func101.trans (congrArg some (by kernel_rfl))
  f212 := Tryz.func83.trans (congrArg some (by kernel_rfl))
  f240 := Tryz.func102.trans (congrArg some (by kernel_rfl))
  f241 := Tryz.func103.trans (congrArg some (by kernel_rfl))
  f263 := Tryz.func99.trans (congrArg some (by kernel_rfl))
  f264 := Tryz.func100.trans (congrArg some (by kernel_rfl))
  f276 := Tryz.func104.trans (congrArg some (by kernel_rfl))
  f277 := Tryz.func105.trans (congrArg some (by kernel_rfl))
  t0 := Tryz.underlying0
  a0 := Tryz.isAgg0
  z0 := Tryz.sizeOf0
  v0 := Tryz.zeroValue0
  t3 := Tryz.underlying3
  a3 := Tryz.isAgg3
  z3 := Tryz.sizeOf3
  v3 := Tryz.zeroValue3
  t4 := Tryz.underlying4
  a4 := Tryz.isAgg4
  z4 := Tryz.sizeOf4
  v4 := Tryz.zeroValue4
  t5 := Tryz.underlying5
  a5 := Tryz.isAgg5
  z5 := Tryz.sizeOf5
  v5 := Tryz.zeroValue5
  t9 := Tryz.underlying9
  a9 := Tryz.isAgg9
  z9 := Tryz.sizeOf9
  v9 := Tryz.zeroValue9
  t20 := Tryz.underlying20
  a20 := Tryz.isAgg20
  z20 := Tryz.sizeOf20
  v20 := Tryz.zeroValue20
  t37 := Tryz.underlying95
  a37 := Tryz.isAgg95
  z37 := Tryz.sizeOf95
  v37 := Tryz.zeroValue95
  t46 := Tryz.underlying109
  a46 := Tryz.isAgg109
  z46 := Tryz.sizeOf109
  v46 := Tryz.zeroValue109
  t51 := Tryz.underlying22
  a51 := Tryz.isAgg22
  z51 := Tryz.sizeOf22
  v51 := Tryz.zeroValue22
  t53 := Tryz.underlying181
  a53 := Tryz.isAgg181
  z53 := Tryz.sizeOf181
  v53 := Tryz.zeroValue181
  t70 := Tryz.underlying164
  a70 := Tryz.isAgg164
  z70 := Tryz.sizeOf164
  v70 := Tryz.zeroValue164
  t72 := Tryz.underlying166
  a72 := Tryz.isAgg166
  z72 := Tryz.sizeOf166
  v72 := Tryz.zeroValue166
  t75 := Tryz.underlying169
  a75 := Tryz.isAgg169
  z75 := Tryz.sizeOf169
  v75 := Tryz.zeroValue169
  t76 := Tryz.underlying170
  a76 := Tryz.isAgg170
  z76 := Tryz.sizeOf170
  v76 := Tryz.zeroValue170
  t109 := Tryz.underlying161
  a109 := Tryz.isAgg161
  z109 := Tryz.sizeOf161
  v109 := Tryz.zeroValue161
  t127 := Tryz.underlying184
  a127 := Tryz.isAgg184
  z127 := Tryz.sizeOf184
  v127 := Tryz.zeroValue184
  t146 := Tryz.underlying179
  a146 := Tryz.isAgg179
  z146 := Tryz.sizeOf179
  v146 := Tryz.zeroValue179
  t148 := Tryz.underlying182
  a148 := Tryz.isAgg182
  z148 := Tryz.sizeOf182
  v148 := Tryz.zeroValue182
  t164 := Tryz.underlying186
  a164 := Tryz.isAgg186
  z164 := Tryz.sizeOf186
  v164 := Tryz.zeroValue186 }
theorem Tryz.Builder_Extra_105 : Builder.Extra Tryz.prog Tryz.lays105_ren := {
  sizeBuilder := by kernel_rfl
  liesBuilder := by kernel_rfl
  t5 := Tryz.underlying5
  a5 := Tryz.isAgg5
  z5 := Tryz.sizeOf5
  v5 := Tryz.zeroValue5
  infoByte := by kernel_rfl
  cellsByte := by kernel_rfl
  sizeByte := by kernel_rfl
  neB5 := by decide }
open Go.RowKit Go.Lib in
theorem Tryz.strings_Repeat (s : ByteArray) (c : Nat) (w : World) (hc : c ≤ 9223372036854775807) (hlen : s.size * c ≤ 140737488355328) :
    Calls Tryz.prog 65 #[.string s, .int .i64 c] w fun e w' => e = .returned (.string ⟨(Lib.repeatL s.data.toList c).toArray⟩) ∧ Below w.heap.size w w' := Any.strings_Repeat Tryz.lays105 Tryz.Builder_Extra_105 s c w hc hlen
end Go.Proofs

