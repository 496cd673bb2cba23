/- Package piece, by abstract values. -/
import Derived.Test.YthnbeodpckmjnaaGreatDoorQInz
import Derived.Test.YthnbeodpckmjnaaGreatDoorOpenz
import Derived.Test.YthnbeodpckmjnaaGreatDoorQReportz
import Derived.Test.YthnbeodpckmjnaaGreatDoorRHz
namespace Go.Proofs.YthnbeodpckmjnaaGreatDoor
open Go.RowKit
set_option linter.unusedVariables false
set_option linter.unusedSimpArgs false

abbrev pcV (p : Pc) : V := .agg [vi p.1, vi p.2.1, vs p.2.2]
def pcEl (p : Pc) : List V := [vi p.1, vi p.2.1, vs p.2.2]
attribute [go_sem] pcEl
def kindOk (n : Int) : Bool := decide (192 ≤ n ∧ n ≤ 223)
set_option maxRecDepth 100000 in
set_option maxHeartbeats 8000000 in
theorem piece_kind (n : Int) : Spec Tryz.prog 70 [.ca (.val (vi n))] [] (.ca (.val (vb (kindOk n)))) [] := by
  refine spec_of Tryz.func70 rfl Tryz.ntmps70 Tryz.results70 ⟨by decide, by simp⟩ fun C hC => ?_
  by_cases h1 : 192 ≤ n
  · (repeat (first | refine sp_ ?_ | exact ex0))
    (refine ret_s [] ?_; simp (decide := true) (disch := omega) only [go_sem, ↓reduceIte, ↓put_at])
    unfold kindOk
    simp [h1]
  · (repeat (first | refine sp_ ?_ | exact ex0))
    (refine ret_s [] ?_; simp (decide := true) (disch := omega) only [go_sem, ↓reduceIte, ↓put_at])
    unfold kindOk
    simp [h1]
set_option maxRecDepth 100000 in
set_option maxHeartbeats 1000000 in
theorem piece_check (p : Pc) (hl : p.2.2.length ≤ maxLen) : Spec Tryz.prog 48 [.ca (.val (pcV p))] [] (.ca (.val (vi (checkE p)))) [] := by
  obtain ⟨c, k, b⟩ := p
  dsimp only at hl ⊢
  have hm := mayP_iff (c, k, b)
  dsimp only at hm
  unfold maxLen at hl
  have hbad : ¬ (0 ≤ c ∧ c ≤ 31 ∧ 192 ≤ k ∧ k ≤ 223 ∧ b.length % 4 = 0 ∧ b.length ≤ 262140) → checkE (c, k, b) = 6 := fun h => by unfold checkE; rw [if_neg (fun e => h (hm.1 e))]
  have hgood : (0 ≤ c ∧ c ≤ 31 ∧ 192 ≤ k ∧ k ≤ 223 ∧ b.length % 4 = 0 ∧ b.length ≤ 262140) → checkE (c, k, b) = 0 := fun h => by unfold checkE; rw [if_pos (hm.2 h)]
  refine spec_of Tryz.func48 rfl Tryz.ntmps48 Tryz.results48 ⟨by decide, by simp⟩ fun C hC => ?_
  by_cases h1 : c < 0
  · (repeat (first | refine sp_ ?_ | exact ex0))
    (refine ret_s [] ?_; simp (decide := true) (disch := omega) only [go_sem, ↓reduceIte, ↓put_at])
    exact (hbad (by omega)).symm
  by_cases h2 : 31 < c
  · (repeat (first | refine sp_ ?_ | exact ex0))
    (refine ret_s [] ?_; simp (decide := true) (disch := omega) only [go_sem, ↓reduceIte, ↓put_at])
    exact (hbad (by omega)).symm
  (repeat (first | refine sp_ ?_ | exact ex0))
  refine gcall_s Tryz.call70 (piece_kind k) [] ?_
  rcases h3 : kindOk k with _ | _
  · have h4 : ¬ (192 ≤ k ∧ k ≤ 223) := by simpa [kindOk] using h3
    (repeat (first | refine sp_ ?_ | exact ex0))
    (refine ret_s [] ?_; simp (decide := true) (disch := omega) only [go_sem, ↓reduceIte, ↓put_at])
    exact (hbad (by omega)).symm
  have h4 : 192 ≤ k ∧ k ≤ 223 := by simpa [kindOk] using h3
  by_cases h5 : (b.length : Int) % 4 = 0
  · by_cases h6 : 262140 < (b.length : Int)
    · (repeat (first | refine sp_ ?_ | exact ex0))
      (refine ret_s [] ?_; simp (decide := true) (disch := omega) only [go_sem, ↓reduceIte, ↓put_at])
      exact (hbad (by omega)).symm
    · (repeat (first | refine sp_ ?_ | exact ex0))
      (refine ret_s [] ?_; simp (decide := true) (disch := omega) only [go_sem, ↓reduceIte, ↓put_at])
      exact (hgood (by omega)).symm
  · (repeat (first | refine sp_ ?_ | exact ex0))
    (refine ret_s [] ?_; simp (decide := true) (disch := omega) only [go_sem, ↓reduceIte, ↓put_at])
    exact (hbad (by omega)).symm
theorem raw_some (l : List UInt8) (e n : Int) (h : n ≤ l.length) : rawT l n = l.take n.toNat ∧ rawL l e n = l.drop n.toNat ∧ rawE l e n = e := by
  unfold rawT rawL rawE; rw [if_pos h, if_pos h, if_pos h]; exact ⟨rfl, rfl, rfl⟩
theorem raw_nil (e n : Int) (he : e ≠ 0) : rawT [] n = [] ∧ rawL [] e n = [] ∧ rawE [] e n = e := by
  unfold rawT rawL rawE failL failE
  simp [he]
theorem raw_short (l : List UInt8) (n : Int) (h : ¬n ≤ l.length) : rawT l n = [] ∧ rawL l 0 n = [] ∧ rawE l 0 n = 2 := by
  unfold rawT rawL rawE failL failE
  rw [if_neg h, if_neg h, if_neg h]; exact ⟨rfl, rfl, rfl⟩
/-- What one next piece is, what is left, and the first error. -/
def oneP (l : List UInt8) : Pc := if l.length < 4 then (0, 0, []) else ((hdA l % 32 : Nat), (hdK l : Nat), if stepE l = 0 then (l.drop 4).take (4 * hdN l) else [])
def oneL (l : List UInt8) : List UInt8 := if stepE l = 0 then stepR l else []
set_option maxRecDepth 100000 in
set_option maxHeartbeats 2000000 in
theorem piece_one (l : List UInt8) (hl : l.length ≤ 140737488355328) : Spec Tryz.prog 45 [.ptr 0 0] [inO l 0] (.ca (.val (pcV (oneP l)))) [inO (oneL l) (stepE l)] := by
  by_cases h4 : l.length < 4
  · have e1 : stepE l = 2 := by unfold stepE; rw [if_pos h4]
    have e2 : oneL l = [] := by unfold oneL; rw [if_neg (by omega)]
    have e3 : oneP l = (0, 0, []) := by unfold oneP; rw [if_pos h4]
    rw [e1, e2, e3]
    refine spec_of Tryz.func45 rfl Tryz.ntmps45 Tryz.results45 ⟨by decide, by simp⟩ fun C hC => ?_
    (repeat (first | refine sp_ ?_ | exact ex0))
    refine call_s Tryz.call44 (in_left l 0) [(1000, 0)] ?_
    (repeat (first | refine sp_ ?_ | exact ex0))
    refine call_s Tryz.call69 (in_fail l 0 2) [(1000, 0)] ?_
    (repeat (first | refine sp_ ?_ | exact ex0))
    (refine ret_s [] ?_; simp (decide := true) (disch := omega) only [go_sem, ↓reduceIte, ↓put_at])
    rfl
  have hml : l.length ≤ maxLen := by unfold maxLen; omega
  have s1 := in_u8 l 0 hml
  rw [(raw_some l 0 1 (by omega)).1, (raw_some l 0 1 (by omega)).2.1, (raw_some l 0 1 (by omega)).2.2] at s1
  have s2 := in_u8 (l.drop 1) 0 (by rw [List.length_drop]; omega)
  rw [(raw_some (l.drop 1) 0 1 (by rw [List.length_drop]; omega)).1, (raw_some (l.drop 1) 0 1 (by rw [List.length_drop]; omega)).2.1, (raw_some (l.drop 1) 0 1 (by rw [List.length_drop]; omega)).2.2] at s2
  have s3 := in_u16 ((l.drop 1).drop 1) 0 (by rw [List.length_drop, List.length_drop]; omega)
  rw [(raw_some ((l.drop 1).drop 1) 0 2 (by rw [List.length_drop, List.length_drop]; omega)).1, (raw_some ((l.drop 1).drop 1) 0 2 (by rw [List.length_drop, List.length_drop]; omega)).2.1, (raw_some ((l.drop 1).drop 1) 0 2 (by rw [List.length_drop, List.length_drop]; omega)).2.2] at s3
  change Spec Tryz.prog 50 _ _ (.ca (.val (vi (hdA l)))) _ at s1
  change Spec Tryz.prog 50 _ _ (.ca (.val (vi (hdK l)))) _ at s2
  change Spec Tryz.prog 51 _ _ (.ca (.val (vi (hdN l)))) _ at s3
  have d4 : ((l.drop 1).drop 1).drop (2 : Int).toNat = l.drop 4 := by rw [List.drop_drop, List.drop_drop]; rfl
  rw [d4] at s3
  change Spec Tryz.prog 50 _ _ _ [inO (l.drop 1) 0] at s1
  change Spec Tryz.prog 50 _ _ _ [inO ((l.drop 1).drop 1) 0] at s2
  have hA : hdA l < 256 := hd_lt l 1
  have hK : hdK l < 256 := hd_lt (l.drop 1) 1
  have hN : hdN l < 65536 := hd_lt ((l.drop 1).drop 1) 2
  have hd : (l.drop 4).length = l.length - 4 := List.length_drop
  generalize ha : hdA l = A at *
  generalize hk : hdK l = K at *
  generalize hn : hdN l = N at *
  have k5 := piece_kind K
  have sF : ∀ f : Int, f ≠ 0 → Spec Tryz.prog 69 [.ptr 0 0, .ca (.val (vi f))] [inO (l.drop 4) 0] (.ca (.val (.tup []))) [inO [] f] := fun f hf => by
    have h := in_fail (l.drop 4) 0 f
    unfold failL failE at h
    rwa [if_pos ⟨rfl, hf⟩, if_pos ⟨rfl, hf⟩] at h
  have hbad : ∀ e, stepE l = e → e ≠ 0 → oneL l = [] ∧ oneP l = (((A % 32 : Nat) : Int), ((K : Nat) : Int), []) := fun e h1 h2 =>
    ⟨by unfold oneL; rw [if_neg (by omega)], by unfold oneP; rw [if_neg h4, if_neg (by omega), ha, hk]⟩
  by_cases hB : A / 32 ≠ 4
  · have e1 : stepE l = 1 := by unfold stepE; rw [if_neg h4, ha, if_pos hB]
    obtain ⟨e2, e3⟩ := hbad 1 e1 (by decide)
    have s4 := in_raw [] 1 (4 * N) (by simp) (by unfold maxLen; omega)
    rw [(raw_nil 1 _ (by decide)).1, (raw_nil 1 _ (by decide)).2.1, (raw_nil 1 _ (by decide)).2.2] at s4
    rw [e1, e2, e3]
    refine spec_of Tryz.func45 rfl Tryz.ntmps45 Tryz.results45 ⟨by decide, by simp⟩ fun C hC => ?_
    (repeat (first | refine sp_ ?_ | exact ex0))
    refine call_s Tryz.call44 (in_left l 0) [(1000, 0)] ?_
    (repeat (first | refine sp_ ?_ | exact ex0))
    refine call_s Tryz.call50 s1 [(1000, 0)] ?_
    (repeat (first | refine sp_ ?_ | exact ex0))
    refine call_s Tryz.call50 s2 [(1000, 0)] ?_
    (repeat (first | refine sp_ ?_ | exact ex0))
    refine call_s Tryz.call51 s3 [(1000, 0)] ?_
    (repeat (first | refine sp_ ?_ | exact ex0))
    refine call_s Tryz.call69 (sF 1 (by decide)) [(1000, 0)] ?_
    (repeat (first | refine sp_ ?_ | exact ex0))
    refine call_s Tryz.call53 s4 [(1000, 0)] ?_
    (repeat (first | refine sp_ ?_ | exact ex0))
    (refine ret_s [] ?_; simp (decide := true) (disch := omega) only [go_sem, ↓reduceIte, ↓put_at])
    omega
  by_cases hC' : ¬ (192 ≤ K ∧ K ≤ 223)
  · have e1 : stepE l = 5 := by unfold stepE; rw [if_neg h4, ha, hk, if_neg hB, if_pos hC']
    obtain ⟨e2, e3⟩ := hbad 5 e1 (by decide)
    have hk0 : kindOk K = false := by unfold kindOk; simp; omega
    rw [hk0] at k5
    have s4 := in_raw [] 5 (4 * N) (by simp) (by unfold maxLen; omega)
    rw [(raw_nil 5 _ (by decide)).1, (raw_nil 5 _ (by decide)).2.1, (raw_nil 5 _ (by decide)).2.2] at s4
    rw [e1, e2, e3]
    refine spec_of Tryz.func45 rfl Tryz.ntmps45 Tryz.results45 ⟨by decide, by simp⟩ fun C hC => ?_
    (repeat (first | refine sp_ ?_ | exact ex0))
    refine call_s Tryz.call44 (in_left l 0) [(1000, 0)] ?_
    (repeat (first | refine sp_ ?_ | exact ex0))
    refine call_s Tryz.call50 s1 [(1000, 0)] ?_
    (repeat (first | refine sp_ ?_ | exact ex0))
    refine call_s Tryz.call50 s2 [(1000, 0)] ?_
    (repeat (first | refine sp_ ?_ | exact ex0))
    refine call_s Tryz.call51 s3 [(1000, 0)] ?_
    (repeat (first | refine sp_ ?_ | exact ex0))
    refine call_s Tryz.call70 k5 [] ?_
    (repeat (first | refine sp_ ?_ | exact ex0))
    refine call_s Tryz.call69 (sF 5 (by decide)) [(1000, 0)] ?_
    (repeat (first | refine sp_ ?_ | exact ex0))
    refine call_s Tryz.call53 s4 [(1000, 0)] ?_
    (repeat (first | refine sp_ ?_ | exact ex0))
    (refine ret_s [] ?_; simp (decide := true) (disch := omega) only [go_sem, ↓reduceIte, ↓put_at])
    omega
  have hk1 : kindOk K = true := by unfold kindOk; simp; omega
  rw [hk1] at k5
  have s4 := in_raw (l.drop 4) 0 (4 * N) (by omega) (by unfold maxLen; omega)
  by_cases hD : l.length < 4 + 4 * N
  · have e1 : stepE l = 2 := by unfold stepE; rw [if_neg h4, ha, hk, hn, if_neg hB, if_neg hC', if_pos hD]
    obtain ⟨e2, e3⟩ := hbad 2 e1 (by decide)
    obtain ⟨r1, r2, r3⟩ := raw_short (l.drop 4) (4 * N) (by omega)
    rw [r1, r2, r3] at s4
    rw [e1, e2, e3]
    refine spec_of Tryz.func45 rfl Tryz.ntmps45 Tryz.results45 ⟨by decide, by simp⟩ fun C hC => ?_
    (repeat (first | refine sp_ ?_ | exact ex0))
    refine call_s Tryz.call44 (in_left l 0) [(1000, 0)] ?_
    (repeat (first | refine sp_ ?_ | exact ex0))
    refine call_s Tryz.call50 s1 [(1000, 0)] ?_
    (repeat (first | refine sp_ ?_ | exact ex0))
    refine call_s Tryz.call50 s2 [(1000, 0)] ?_
    (repeat (first | refine sp_ ?_ | exact ex0))
    refine call_s Tryz.call51 s3 [(1000, 0)] ?_
    (repeat (first | refine sp_ ?_ | exact ex0))
    refine call_s Tryz.call70 k5 [] ?_
    (repeat (first | refine sp_ ?_ | exact ex0))
    refine call_s Tryz.call53 s4 [(1000, 0)] ?_
    (repeat (first | refine sp_ ?_ | exact ex0))
    (refine ret_s [] ?_; simp (decide := true) (disch := omega) only [go_sem, ↓reduceIte, ↓put_at])
    omega
  · have e1 : stepE l = 0 := by unfold stepE; rw [if_neg h4, ha, hk, hn, if_neg hB, if_neg hC', if_neg hD]
    have e2 : oneL l = (l.drop 4).drop (4 * N) := by unfold oneL stepR; rw [if_pos e1, hn, List.drop_drop]
    have e3 : oneP l = (((A % 32 : Nat) : Int), ((K : Nat) : Int), (l.drop 4).take (4 * N)) := by unfold oneP; rw [if_neg h4, if_pos e1, ha, hk, hn]
    obtain ⟨r1, r2, r3⟩ := raw_some (l.drop 4) 0 (4 * N) (by omega)
    rw [r1, r2, r3] at s4
    have en : (4 * (N : Int)).toNat = 4 * N := by omega
    rw [en] at s4
    rw [e1, e2, e3]
    refine spec_of Tryz.func45 rfl Tryz.ntmps45 Tryz.results45 ⟨by decide, by simp⟩ fun C hC => ?_
    (repeat (first | refine sp_ ?_ | exact ex0))
    refine call_s Tryz.call44 (in_left l 0) [(1000, 0)] ?_
    (repeat (first | refine sp_ ?_ | exact ex0))
    refine call_s Tryz.call50 s1 [(1000, 0)] ?_
    (repeat (first | refine sp_ ?_ | exact ex0))
    refine call_s Tryz.call50 s2 [(1000, 0)] ?_
    (repeat (first | refine sp_ ?_ | exact ex0))
    refine call_s Tryz.call51 s3 [(1000, 0)] ?_
    (repeat (first | refine sp_ ?_ | exact ex0))
    refine call_s Tryz.call70 k5 [] ?_
    (repeat (first | refine sp_ ?_ | exact ex0))
    refine call_s Tryz.call53 s4 [(1000, 0)] ?_
    (repeat (first | refine sp_ ?_ | exact ex0))
    (refine ret_s [] ?_; simp (decide := true) (disch := omega) only [go_sem, ↓reduceIte, ↓put_at])
    omega
theorem packs_le (ps : List Pc) (h : ps.all mayP = true) : (ps.flatMap packOne).length ≤ 262144 * ps.length := by
  induction ps with
  | nil => simp
  | cons p ps ih =>
    simp only [List.all_cons, Bool.and_eq_true] at h
    have h1 := ((mayP_iff p).1 h.1).2.2.2.2.2
    have := ih h.2
    simp only [List.flatMap_cons, List.length_append, packOne_length, List.length_cons]
    omega
set_option maxRecDepth 100000 in
set_option maxHeartbeats 2000000 in
theorem piece_pack (ps : List Pc) (hl : ∀ p ∈ ps, p.2.2.length ≤ maxLen) (hs : ps.length ≤ 100000000) : Spec Tryz.prog 23 [.ca (.val (.lst 3 (ps.map pcEl)))] [] (.ca (.val (vs (packP ps)))) [] := by
  refine spec_of Tryz.func23 rfl Tryz.ntmps23 Tryz.results23 ⟨by decide, by simp⟩ fun C hC => ?_
  (repeat (first | refine sp_ ?_ | exact ex0))
  refine own_c (3, 0) 0 (3, 1) 5 1 ?_
  simp (decide := true) (disch := omega) only [go_sem, ↓reduceIte, ↓put_at]
  refine loop_s (α := {j : Nat // j ≤ ps.length ∧ (ps.take j).all mayP = true}) (fun j => [(.s 3, .av (.ptr (3, 0) 0 0)), (.s 6, .av (.val (.lst 3 (ps.map pcEl)))), (.s 7, .av (.val (vi ps.length))), (.s 8, .av (.val (vi j.1))), (.o (3, 0), .num 1), (.c (3, 0) 0, .av (.own (3, 1) 0 5 1 (((ps.take j.1).flatMap packOne).map byteEl))), (.k (3, 1), .row 5 1 (((ps.take j.1).flatMap packOne).map byteEl).length)]) (fun j => ps.length - j.1) ⟨0, Nat.zero_le _, rfl⟩ ?_ (fun j => ?_)
  · simp only [List.take_zero, List.flatMap_nil]
    simp (decide := true) (disch := omega) only [go_sem, ↓reduceIte, ↓put_at]
  · obtain ⟨j, hj, ha⟩ := j
    dsimp only at hj ⊢
    have hb := packs_le _ ha
    rw [List.length_take, Nat.min_eq_left hj] at hb
    by_cases hlt : j < ps.length
    · have ht : ps.take (j + 1) = ps.take j ++ [ps[j]] := List.take_succ_eq_append_getElem hlt
      have hc := piece_check ps[j] (hl _ (List.getElem_mem hlt))
      cases hm : mayP ps[j] with
      | false =>
        have hk : checkE ps[j] = 6 := by unfold checkE; rw [hm]; rfl
        rw [hk] at hc
        have hp : packP ps = [] := by
          unfold packP
          rw [if_neg]
          intro h
          have := List.all_eq_true.1 h _ (List.getElem_mem hlt)
          rw [hm] at this
          cases this
        rw [hp]
        (repeat (first | refine sp_ ?_ | exact ex0))
        refine call_s Tryz.call48 hc [] ?_
        (repeat (first | refine sp_ ?_ | exact ex0))
        (refine ret_s [] ?_; simp (decide := true) (disch := omega) only [go_sem, ↓reduceIte, ↓put_at])
      | true =>
        have hk : checkE ps[j] = 0 := by unfold checkE; rw [hm]; rfl
        rw [hk] at hc
        obtain ⟨m1, m2, m3, m4, m5, m6⟩ := (mayP_iff _).1 hm
        have hor : bits .or .i64 128 ps[j].1 = 128 + ps[j].1 := i64_join 5 _ _ (by omega) (by omega) (by omega) (by omega) (by omega) (by omega)
        (repeat (first | refine sp_ ?_ | exact ex0))
        refine call_s Tryz.call48 hc [] ?_
        (repeat (first | refine sp_ ?_ | exact ex0))
        refine call_s Tryz.call13 (out_u8 ((ps.take j).flatMap packOne) [128 + ps[j].1, ps[j].2.1] (by simp only [List.length_cons, List.length_nil]; omega)) [(3, 0)] ?_
        (repeat (first | refine sp_ ?_ | exact ex0))
        refine ⟨by rw [hor], ?_⟩
        (repeat (first | refine sp_ ?_ | exact ex0))
        have hq := puts'_length 1 [128 + ps[j].1, ps[j].2.1]
        simp only [List.length_cons, List.length_nil] at hq
        refine call_s Tryz.call14 (out_u16 ((ps.take j).flatMap packOne ++ puts' 1 [128 + ps[j].1, ps[j].2.1]) [(ps[j].2.2.length : Int) / 4] (by simp only [List.length_append, List.length_cons, List.length_nil]; omega)) [(3, 0)] ?_
        (repeat (first | refine sp_ ?_ | exact ex0))
        have hq2 := puts'_length 2 [(ps[j].2.2.length : Int) / 4]
        simp only [List.length_cons, List.length_nil] at hq2
        refine call_s Tryz.call42 (out_raw ((ps.take j).flatMap packOne ++ puts' 1 [128 + ps[j].1, ps[j].2.1] ++ puts' 2 [(ps[j].2.2.length : Int) / 4]) [ps[j].2.2] (by simp only [List.length_append, List.flatten_cons, List.flatten_nil, List.append_nil]; omega) (by simp)) [(3, 0)] ?_
        (repeat (first | refine sp_ ?_ | exact ex0))
        refine next_s ⟨j + 1, hlt, by rw [ht, List.all_append, ha]; simp [hm]⟩ ⟨?_, by dsimp only; omega⟩
        have e1 : (ps.take (j + 1)).flatMap packOne = (ps.take j).flatMap packOne ++ puts' 1 [128 + ps[j].1, ps[j].2.1] ++ puts' 2 [(ps[j].2.2.length : Int) / 4] ++ [ps[j].2.2].flatten := by
          rw [ht, List.flatMap_append]
          simp [puts', packOne, Int.natCast_ediv]
        dsimp only
        rw [e1]
        simp (decide := true) (disch := omega) only [go_sem, ↓reduceIte, ↓put_at]
    · (repeat (first | refine sp_ ?_ | exact ex0))
      refine call_s Tryz.call17 (out_bytes ((ps.take j).flatMap packOne) (by omega)) [(3, 0)] ?_
      (repeat (first | refine sp_ ?_ | exact ex0))
      (refine ret_s [] ?_; simp (decide := true) (disch := omega) only [go_sem, ↓reduceIte, ↓put_at])
      have e : ps.take j = ps := List.take_of_length_le (by omega)
      rw [e] at ha ⊢
      unfold packP
      rw [if_pos ha]
set_option maxRecDepth 100000 in
set_option maxHeartbeats 2000000 in
theorem piece_split (l : List UInt8) (hl : l.length ≤ 1099511627776) : Spec Tryz.prog 21 [.ca (.val (vs l))] [] (.ca (.val (.tup [.lst 3 ((splitP l).2.map pcEl), vi (splitP l).1]))) [] := by
  obtain ⟨sp, hsp⟩ : ∃ sp, sp = splitP l := ⟨_, rfl⟩
  rw [← hsp]
  refine spec_of Tryz.func21 rfl Tryz.ntmps21 Tryz.results21 ⟨by decide, by simp⟩ fun C hC => ?_
  (repeat (first | refine sp_ ?_ | exact ex0))
  refine call_s Tryz.call43 (pen_of l) [] ?_
  (repeat (first | refine sp_ ?_ | exact ex0))
  refine own_s 5 (5, 0) 41 3 ?_
  simp (decide := true) (disch := omega) only [go_sem, ↓reduceIte, ↓put_at]
  refine loop_s (α := {x : List UInt8 × Int × List Pc // x.1.length + x.2.2.length ≤ l.length ∧ ((x.2.1 = 0 ∧ ∃ f, x.1.length ≤ f ∧ sp = runP f x.1 x.2.2) ∨ (x.2.1 ≠ 0 ∧ x.1 = [] ∧ sp = (x.2.1, [])))}) (fun x => [(.s 4, .av (.ptr (8, 0) 0 0)), (.o (8, 0), .num 2), (.c (8, 0) 0, .av (.val (vs x.1.1))), (.c (8, 0) 1, .av (.val (vi x.1.2.1))), (.s 5, .av (.own (5, 0) 0 41 3 (x.1.2.2.map pcEl))), (.k (5, 0), .row 41 3 (x.1.2.2.map pcEl).length)]) (fun x => x.1.1.length) ⟨(l, 0, []), by simp, .inl ⟨rfl, l.length, Nat.le_refl _, hsp⟩⟩ ?_ (fun x => ?_)
  · simp only [List.map_nil]
    simp (decide := true) (disch := omega) only [go_sem, ↓reduceIte, ↓put_at]
  · obtain ⟨⟨r, e, acc⟩, hx1, hx⟩ := x
    dsimp only at hx1 hx ⊢
    by_cases h0 : 0 < r.length
    · rcases hx with ⟨rfl, f, hf, hx⟩ | ⟨_, rfl, _⟩
      · have ho := piece_one r (by omega)
        have hr0 : r ≠ [] := List.length_pos_iff.1 h0
        have hlen : (oneL r).length < r.length := by
          unfold oneL; split
          · exact stepR_lt r hr0
          · simpa using h0
        (repeat (first | refine sp_ ?_ | exact ex0))
        refine call_s Tryz.call44 (in_left r 0) [(8, 0)] ?_
        (repeat (first | refine sp_ ?_ | exact ex0))
        refine call_s Tryz.call45 ho [(8, 0)] ?_
        (repeat (first | refine sp_ ?_ | exact ex0))
        have hn : (oneL r).length + (acc ++ [oneP r]).length ≤ l.length := by rw [List.length_append]; simp only [List.length_cons, List.length_nil]; omega
        have hnext : (stepE r = 0 ∧ ∃ f, (oneL r).length ≤ f ∧ sp = runP f (oneL r) (acc ++ [oneP r])) ∨ (stepE r ≠ 0 ∧ oneL r = [] ∧ sp = (stepE r, [])) := by
          obtain ⟨f', rfl⟩ : ∃ f', f = f' + 1 := ⟨f - 1, by omega⟩
          rw [runP, if_neg hr0] at hx
          by_cases hs : stepE r = 0
          · rw [if_pos hs] at hx
            have e1 : oneL r = stepR r := by unfold oneL; rw [if_pos hs]
            have e2 : oneP r = stepV r := by
              unfold oneP stepV
              rw [if_pos hs, if_neg]
              intro h
              unfold stepE at hs
              rw [if_pos h] at hs
              cases hs
            rw [e1, e2]
            exact .inl ⟨hs, f', by have := stepR_lt r hr0; omega, hx⟩
          · rw [if_neg hs] at hx
            exact .inr ⟨hs, by unfold oneL; rw [if_neg hs], hx⟩
        refine next_s ⟨(oneL r, stepE r, acc ++ [oneP r]), hn, hnext⟩ ⟨?_, by dsimp only; omega⟩
        simp (decide := true) (disch := omega) only [go_sem, ↓reduceIte, ↓put_at]
        simp [pcEl]
      · simp at h0
    · have hr0 : r = [] := List.eq_nil_of_length_eq_zero (by omega)
      subst hr0
      rcases hx with ⟨rfl, f, hf, hx⟩ | ⟨he, _, hx⟩
      · have hx2 : sp = (0, acc) := by rw [hx]; cases f <;> simp [runP]
        clear hsp
        subst hx2
        (repeat (first | refine sp_ ?_ | exact ex0))
        refine call_s Tryz.call44 (in_left [] 0) [(8, 0)] ?_
        (repeat (first | refine sp_ ?_ | exact ex0))
        refine call_s Tryz.call46 (in_err [] 0) [(8, 0)] ?_
        (repeat (first | refine sp_ ?_ | exact ex0))
        (refine ret_s [] ?_; simp (decide := true) (disch := omega) only [go_sem, ↓reduceIte, ↓put_at])
      · clear hsp
        subst hx
        (repeat (first | refine sp_ ?_ | exact ex0))
        refine call_s Tryz.call44 (in_left [] e) [(8, 0)] ?_
        (repeat (first | refine sp_ ?_ | exact ex0))
        refine call_s Tryz.call46 (in_err [] e) [(8, 0)] ?_
        (repeat (first | refine sp_ ?_ | exact ex0))
        (refine ret_s [] ?_; simp (decide := true) (disch := omega) only [go_sem, ↓reduceIte, ↓put_at])
end Go.Proofs.YthnbeodpckmjnaaGreatDoor

namespace Go.Proofs.YthnbeodpckmjnaaGreatDoor
open Go.RowKit
set_option linter.unusedVariables false
set_option linter.unusedSimpArgs false

structure R8.Ok (r : R8) : Prop where
  src : 0 ≤ r.src ∧ r.src < 4294967296
  sent : r.sent.Ok
  bs : ∀ b ∈ r.bs, b.Ok
end Go.Proofs.YthnbeodpckmjnaaGreatDoor

namespace Go.Proofs.YthnbeodpckmjnaaGreatDoor
open Go.RowKit
set_option linter.unusedVariables false
set_option linter.unusedSimpArgs false

/-- So many blocks read, and what is left. -/
def rdBs : Nat → List UInt8 × Int → List B8
  | 0, _ => []
  | n + 1, x => rdB x :: rdBs n (nxB x)
def nxBs : Nat → List UInt8 × Int → List UInt8 × Int
  | 0, x => x
  | n + 1, x => nxBs n (nxB x)
theorem nxB_len (x : List UInt8 × Int) : (nxB x).1.length ≤ x.1.length := by
  unfold nxB
  exact Nat.le_trans (nx_len _ _) (Nat.le_trans (nx_len _ _) (Nat.le_trans (nx_len _ _) (Nat.le_trans (nx_len _ _) (Nat.le_trans (nx_len _ _) (Nat.le_trans (nx_len _ _) (nx_len _ _))))))
theorem nxS_len (x : List UInt8 × Int) : (nxS x).1.length ≤ x.1.length := by
  unfold nxS
  exact Nat.le_trans (nx_len _ _) (Nat.le_trans (nx_len _ _) (Nat.le_trans (nx_len _ _) (Nat.le_trans (nx_len _ _) (nx_len _ _))))
def cntN (n : Int) : Int := max 0 (min n 32)
/-- The report as it is read, before it is judged. -/
def rawR (p : Pc) : R8 :=
  ⟨vl 4 (p.2.2, 0), decide (p.2.1 = 200), if p.2.1 = 200 then rdS (nx 4 (p.2.2, 0)) else ⟨0, 0, 0, 0⟩,
    rdBs (cntN p.1).toNat (if p.2.1 = 200 then nxS (nx 4 (p.2.2, 0)) else nx 4 (p.2.2, 0))⟩
def rawX (p : Pc) : List UInt8 × Int := nxBs (cntN p.1).toNat (if p.2.1 = 200 then nxS (nx 4 (p.2.2, 0)) else nx 4 (p.2.2, 0))
def noR : R8 := ⟨0, false, ⟨0, 0, 0, 0⟩, []⟩
def ofE (p : Pc) : Int :=
  if p.2.1 ≠ 200 ∧ p.2.1 ≠ 201 then 5 else if endE (rawX p).1 (rawX p).2 ≠ 0 then endE (rawX p).1 (rawX p).2 else if mayR (rawR p) = true then 0 else 6
def ofR (p : Pc) : R8 := if ofE p = 0 then rawR p else noR
set_option maxRecDepth 100000 in
set_option maxHeartbeats 4000000 in
theorem report_of (p : Pc) (hp : p.2.2.length ≤ maxLen) : Spec Tryz.prog 73 [.ca (.val (pcV p))] [] (.ca (.val (.tup [.agg (r8L (ofR p)), vi (ofE p)]))) [] := by
  obtain ⟨n, k, b⟩ := p
  dsimp only at hp
  have q1 := rd32 (b, 0) hp
  have l1 := Nat.le_trans (nx_len 4 (b, 0)) hp
  have q2 := report_sent (nx 4 (b, 0)) l1
  have l2 := Nat.le_trans (nxS_len (nx 4 (b, 0))) l1
  obtain ⟨E, hE⟩ : ∃ E, E = ofE (n, k, b) := ⟨_, rfl⟩
  obtain ⟨R, hR⟩ : ∃ R, R = ofR (n, k, b) := ⟨_, rfl⟩
  rw [← hE, ← hR]
  refine spec_of Tryz.func73 rfl Tryz.ntmps73 Tryz.results73 ⟨by decide, by simp⟩ fun C hC => ?_
  (repeat ((fail_if_success (refine stop_reg 1 ?_)); (first | refine sp_ ?_ | exact ex0)))
  refine meet_s (α := {_x : Unit // k = 200 ∨ k = 201}) (fun _ => [(.s 1, .av (.ptr (1, 0) 0 0)), (.o (1, 0), .num 3), (.c (1, 0) 0, .av (.val (vi n))), (.c (1, 0) 1, .av (.val (vi k))), (.c (1, 0) 2, .av (.val (vs b))),
    (.s 2, .av (.ptr (2, 0) 0 0)), (.o (2, 0), .num 7), (.c (2, 0) 0, .av (.val (vu 0))), (.c (2, 0) 1, .av (.val (vb false))), (.c (2, 0) 2, .av (.val (vi 0))), (.c (2, 0) 3, .av (.val (vu 0))), (.c (2, 0) 4, .av (.val (vu 0))), (.c (2, 0) 5, .av (.val (vu 0))), (.c (2, 0) 6, .av (.val (.sc (.slice none 0 0)))), (.s 3, .av (.val (vi 0)))]) ?_ (fun x => ?_)
  · by_cases h1 : k = 200
    · subst h1
      (repeat (first | refine sp_ ?_ | exact ex0))
      refine at_meet ⟨(), .inl rfl⟩ ?_
      simp (decide := true) (disch := omega) only [go_sem, ↓reduceIte, ↓put_at]
    by_cases h2 : k = 201
    · subst h2
      (repeat (first | refine sp_ ?_ | exact ex0))
      refine at_meet ⟨(), .inr rfl⟩ ?_
      simp (decide := true) (disch := omega) only [go_sem, ↓reduceIte, ↓put_at]
    · have e : ofE (n, k, b) = 5 := by unfold ofE; rw [if_pos ⟨h1, h2⟩]
      rw [e] at hE
      have e2 : ofR (n, k, b) = noR := by unfold ofR; rw [e]; rfl
      rw [e2] at hR
      subst hE hR
      (repeat (first | refine sp_ ?_ | exact ex0))
      (refine ret_s [] ?_; simp (decide := true) (disch := omega) only [go_sem, ↓reduceIte, ↓put_at])
  obtain ⟨_, hk⟩ := x
  have hofE : ofE (n, k, b) = if endE (rawX (n, k, b)).1 (rawX (n, k, b)).2 ≠ 0 then endE (rawX (n, k, b)).1 (rawX (n, k, b)).2 else if mayR (rawR (n, k, b)) = true then 0 else 6 := by
    unfold ofE; rw [if_neg (by dsimp only; omega)]
  rw [hofE] at hE
  unfold ofR at hR
  rw [hofE, ← hE] at hR
  unfold rawR rawX at hE
  unfold rawR at hR
  dsimp only at hE hR
  obtain ⟨src, hsrc⟩ : ∃ x, x = vl 4 (b, 0) := ⟨_, rfl⟩
  obtain ⟨is, his⟩ : ∃ x, x = decide (k = 200) := ⟨_, rfl⟩
  obtain ⟨st, hst⟩ : ∃ x, x = if k = 200 then rdS (nx 4 (b, 0)) else ⟨0, 0, 0, 0⟩ := ⟨_, rfl⟩
  obtain ⟨x0, hx0⟩ : ∃ x, x = if k = 200 then nxS (nx 4 (b, 0)) else nx 4 (b, 0) := ⟨_, rfl⟩
  have hxl : x0.1.length ≤ maxLen := by rw [hx0]; split <;> assumption
  rw [← hst, ← hx0, ← hsrc, ← his] at hE hR
  rw [← hsrc] at q1
  have his' : (k == 200) = is := by rw [his]; rfl
  (repeat ((fail_if_success (refine stop_reg 5 ?_)); (first | refine sp_ ?_ | exact ex0)))
  refine call_s Tryz.call43 (pen_of b) [] ?_
  (repeat (first | refine sp_ ?_ | exact ex0))
  refine call_s Tryz.call52 q1 [(18, 0)] ?_
  (repeat ((fail_if_success (refine stop_reg 5 ?_)); (first | refine sp_ ?_ | exact ex0)))
  refine meet_s (α := {_x : Unit // True}) (fun _ => [(.s 1, .av (.ptr (1, 0) 0 0)), (.o (1, 0), .num 3), (.c (1, 0) 0, .av (.val (vi n))), (.s 2, .av (.ptr (2, 0) 0 0)), (.o (2, 0), .num 7), (.c (2, 0) 0, .av (.val (vu 0))), (.c (2, 0) 1, .av (.val (vb false))), (.c (2, 0) 2, .av (.val (vi 0))), (.c (2, 0) 3, .av (.val (vu 0))), (.c (2, 0) 4, .av (.val (vu 0))), (.c (2, 0) 5, .av (.val (vu 0))), (.c (2, 0) 6, .av (.val (.sc (.slice none 0 0)))), (.s 3, .av (.val (vi 0))), (.o (18, 0), .num 2), (.c (18, 0) 0, .av (.val (vs x0.1))), (.c (18, 0) 1, .av (.val (vi x0.2))), (.s 4, .av (.ptr (18, 0) 0 0)), (.o (5, 0), .num 7), (.c (5, 0) 0, .av (.val (vu src))), (.c (5, 0) 1, .av (.val (vb is))), (.c (5, 0) 2, .av (.val (vi st.clock))), (.c (5, 0) 3, .av (.val (vu st.time))), (.c (5, 0) 4, .av (.val (vu st.packets))), (.c (5, 0) 5, .av (.val (vu st.bytes))), (.c (5, 0) 6, .av (.val (.sc (.slice none 0 0)))), (.s 5, .av (.ptr (5, 0) 0 0))]) ?_ (fun _ => ?_)
  · rcases hk with rfl | rfl
    · rw [if_pos rfl] at hst hx0
      rw [decide_eq_true rfl] at his
      subst his
      (repeat (first | refine sp_ ?_ | exact ex0))
      refine call_s Tryz.call100 q2 [(18, 0)] ?_
      (repeat (first | refine sp_ ?_ | exact ex0))
      subst hst hx0
      refine at_meet ⟨(), trivial⟩ ?_
      simp (decide := true) (disch := omega) only [go_sem, ↓reduceIte, ↓put_at]
    · rw [if_neg (by decide)] at hst hx0
      rw [decide_eq_false (by decide)] at his
      subst his
      (repeat (first | refine sp_ ?_ | exact ex0))
      subst hst hx0
      refine at_meet ⟨(), trivial⟩ ?_
      simp (decide := true) (disch := omega) only [go_sem, ↓reduceIte, ↓put_at]
  obtain ⟨N, hN⟩ : ∃ N, N = (cntN n).toNat := ⟨_, rfl⟩
  have hcn : max 0 (min n 32) = (N : Int) := by unfold cntN at hN; omega
  have hN32 : N ≤ 32 := by unfold cntN at hN; omega
  obtain ⟨BS, hBS⟩ : ∃ x, x = rdBs N x0 := ⟨_, rfl⟩
  obtain ⟨XF, hXF⟩ : ∃ x, x = nxBs N x0 := ⟨_, rfl⟩
  rw [← hN, ← hBS, ← hXF] at hE
  rw [← hN, ← hBS] at hR
  (repeat (first | refine sp_ ?_ | exact ex0))
  refine own_c (5, 0) 6 (5, 7) 186 7 ?_
  simp (decide := true) (disch := omega) only [go_sem, ↓reduceIte, ↓put_at]
  refine loop_s (α := {y : Nat × (List UInt8 × Int) × List B8 // y.1 ≤ N ∧ y.2.1.1.length ≤ maxLen ∧ y.2.2.length = y.1 ∧ y.2.2 ++ rdBs (N - y.1) y.2.1 = BS ∧ nxBs (N - y.1) y.2.1 = XF}) (fun y => [(.s 1, .av (.ptr (1, 0) 0 0)), (.o (1, 0), .num 3), (.c (1, 0) 0, .av (.val (vi n))), (.s 2, .av (.ptr (2, 0) 0 0)), (.o (2, 0), .num 7), (.c (2, 0) 0, .av (.val (vu 0))), (.c (2, 0) 1, .av (.val (vb false))), (.c (2, 0) 2, .av (.val (vi 0))), (.c (2, 0) 3, .av (.val (vu 0))), (.c (2, 0) 4, .av (.val (vu 0))), (.c (2, 0) 5, .av (.val (vu 0))), (.c (2, 0) 6, .av (.val (.sc (.slice none 0 0)))), (.s 3, .av (.val (vi 0))), (.o (18, 0), .num 2), (.c (18, 0) 0, .av (.val (vs y.1.2.1.1))), (.c (18, 0) 1, .av (.val (vi y.1.2.1.2))), (.s 4, .av (.ptr (18, 0) 0 0)), (.o (5, 0), .num 7), (.c (5, 0) 0, .av (.val (vu src))), (.c (5, 0) 1, .av (.val (vb is))), (.c (5, 0) 2, .av (.val (vi st.clock))), (.c (5, 0) 3, .av (.val (vu st.time))), (.c (5, 0) 4, .av (.val (vu st.packets))), (.c (5, 0) 5, .av (.val (vu st.bytes))), (.c (5, 0) 6, .av (.own (5, 7) 0 186 7 (y.1.2.2.map b8El))), (.s 5, .av (.ptr (5, 0) 0 0)), (.k (5, 7), .row 186 7 y.1.2.2.length), (.s 33, .av (.val (vi N))), (.s 34, .av (.val (vi y.1.1)))]) (fun y => N - y.1.1) ⟨(0, x0, []), Nat.zero_le _, hxl, rfl, hBS.symm, hXF.symm⟩ ?_ (fun y => ?_)
  · simp only [List.map_nil]
    simp (decide := true) (disch := omega) only [go_sem, ↓reduceIte, ↓put_at]
    exact hcn
  · obtain ⟨⟨j, x, acc⟩, hj, hxl', hac, hb1, hb2⟩ := y
    dsimp only at hj hxl' hac hb1 hb2 ⊢
    by_cases hlt : j < N
    · have hbl := report_block x hxl'
      have hnl := Nat.le_trans (nxB_len x) hxl'
      obtain ⟨m, hm⟩ : ∃ m, N - j = m + 1 := ⟨N - j - 1, by omega⟩
      have hm2 : N - (j + 1) = m := by omega
      rw [hm] at hb1 hb2
      rw [rdBs] at hb1
      rw [nxBs] at hb2
      (repeat (first | refine sp_ ?_ | exact ex0))
      refine call_s Tryz.call101 hbl [(18, 0)] ?_
      (repeat (first | refine sp_ ?_ | exact ex0))
      refine next_s ⟨(j + 1, nxB x, acc ++ [rdB x]), hlt, hnl, by simp [hac], by dsimp only; rw [hm2, List.append_assoc]; exact hb1, by dsimp only; rw [hm2]; exact hb2⟩ ⟨?_, by dsimp only; omega⟩
      simp (decide := true) (disch := omega) only [go_sem, ↓reduceIte, ↓put_at]
      rw [List.map_append]; rfl
    · have hjN : N - j = 0 := by omega
      rw [hjN] at hb1 hb2
      simp only [rdBs, nxBs, List.append_nil] at hb1 hb2
      clear hBS hXF
      subst hb1 hb2
      have c1 := in_end x.1 x.2
      have c2 := report_check ⟨src, is, st, acc⟩ (by dsimp only; omega)
      obtain ⟨e, he⟩ : ∃ e, e = endE x.1 x.2 := ⟨_, rfl⟩
      rw [← he] at hE c1
      by_cases h0 : e = 0
      · rw [if_neg (by simpa using h0)] at hE
        subst h0
        cases hm : mayR ⟨src, is, st, acc⟩ with
        | false =>
          rw [hm, if_neg (by decide)] at hE c2
          subst hE
          rw [if_neg (by decide)] at hR
          subst hR
          (repeat (first | refine sp_ ?_ | exact ex0))
          refine call_s Tryz.call102 c1 [(18, 0)] ?_
          (repeat (first | refine sp_ ?_ | exact ex0))
          refine call_s Tryz.call103 c2 [] ?_
          (repeat (first | refine sp_ ?_ | exact ex0))
          (refine ret_s [] ?_; simp (decide := true) (disch := omega) only [go_sem, ↓reduceIte, ↓put_at])
        | true =>
          rw [hm, if_pos rfl] at hE c2
          subst hE
          rw [if_pos rfl] at hR
          subst hR
          (repeat (first | refine sp_ ?_ | exact ex0))
          refine call_s Tryz.call102 c1 [(18, 0)] ?_
          (repeat (first | refine sp_ ?_ | exact ex0))
          refine call_s Tryz.call103 c2 [] ?_
          (repeat (first | refine sp_ ?_ | exact ex0))
          (refine ret_s [] ?_; simp (decide := true) (disch := omega) only [go_sem, ↓reduceIte, ↓put_at])
      · rw [if_pos h0] at hE
        subst hE
        rw [if_neg h0] at hR
        subst hR
        (repeat (first | refine sp_ ?_ | exact ex0))
        refine call_s Tryz.call102 c1 [(18, 0)] ?_
        (repeat (first | refine sp_ ?_ | exact ex0))
        (refine ret_s [] ?_; simp (decide := true) (disch := omega) only [go_sem, ↓reduceIte, ↓put_at])
end Go.Proofs.YthnbeodpckmjnaaGreatDoor

namespace Go.Proofs.YthnbeodpckmjnaaGreatDoor
open Go.RowKit
set_option linter.unusedVariables false
set_option linter.unusedSimpArgs false

set_option maxRecDepth 100000 in
set_option maxHeartbeats 8000000 in
theorem q_cut (l : List UInt8) (n : Int) (hl : l.length ≤ maxLen) (hn : 0 ≤ n) : Spec Tryz.prog 8 [.ca (.val (vs l)), .ca (.val (vi n))] [] (.ca (.val (vs (l.take n.toNat)))) [] := by
  unfold maxLen at hl
  refine spec_of Tryz.func8 rfl Tryz.ntmps8 Tryz.results8 ⟨by decide, by simp⟩ fun C hC => ?_
  by_cases h : n < l.length
  · (repeat (first | refine sp_ ?_ | exact ex0))
    (refine ret_s [] ?_; simp (decide := true) (disch := omega) only [go_sem, ↓reduceIte, ↓put_at])
  · (repeat (first | refine sp_ ?_ | exact ex0))
    (refine ret_s [] ?_; simp (decide := true) (disch := omega) only [go_sem, ↓reduceIte, ↓put_at])
    rw [List.take_of_length_le (by omega)]
end Go.Proofs.YthnbeodpckmjnaaGreatDoor

namespace Go.Proofs.YthnbeodpckmjnaaGreatDoor
open Go.RowKit
set_option linter.unusedVariables false
set_option linter.unusedSimpArgs false

end Go.Proofs.YthnbeodpckmjnaaGreatDoor

