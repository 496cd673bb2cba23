/- Package piece, by abstract values. -/
import Derived.Test.YtbnnfmleoebelaaGreatSubMz
import Derived.Test.YtbnnfmleoebelaaGreatOpenz
import Derived.Test.YtbnnfmleoebelaaGreatQRefZz
import Derived.Laws.OwnMore
import Derived.Lib.SliceRun
import Derived.WalkSpells
namespace Go.Proofs.YtbnnfmleoebelaaGreat
open Go.RowKit
set_option linter.unusedVariables false
set_option linter.unusedSimpArgs false

abbrev pcV (p : Pc) : V := .agg [vi p.1, vi p.2.1, vs p.2.2]
def pcEl (p : Pc) : List V := [vi p.1, vi p.2.1, vs p.2.2]
attribute [go_sem] pcEl
def kindOk (n : Int) : Bool := decide (192 ≤ n ∧ n ≤ 223)
set_option maxRecDepth 100000 in
set_option maxHeartbeats 8000000 in
theorem piece_kind (n : Int) : Spec Tryz.prog 62 [.ca (.val (vi n))] [] (.ca (.val (vb (kindOk n)))) [] := by
  refine spec_of Tryz.func62 rfl Tryz.ntmps62 Tryz.results62 ⟨by decide, by simp⟩ fun C hC => ?_
  by_cases h1 : 192 ≤ n
  · (repeat (first | refine sp_ ?_ | exact ex0))
    (refine ret_s [] ?_; simp (decide := true) (disch := omega) only [go_sem, ↓reduceIte, ↓put_at])
    unfold kindOk
    simp [h1]
  · (repeat (first | refine sp_ ?_ | exact ex0))
    (refine ret_s [] ?_; simp (decide := true) (disch := omega) only [go_sem, ↓reduceIte, ↓put_at])
    unfold kindOk
    simp [h1]
set_option maxRecDepth 100000 in
set_option maxHeartbeats 1000000 in
theorem piece_check (p : Pc) (hl : p.2.2.length ≤ maxLen) : Spec Tryz.prog 33 [.ca (.val (pcV p))] [] (.ca (.val (vi (checkE p)))) [] := by
  obtain ⟨c, k, b⟩ := p
  dsimp only at hl ⊢
  have hm := mayP_iff (c, k, b)
  dsimp only at hm
  unfold maxLen at hl
  have hbad : ¬ (0 ≤ c ∧ c ≤ 31 ∧ 192 ≤ k ∧ k ≤ 223 ∧ b.length % 4 = 0 ∧ b.length ≤ 262140) → checkE (c, k, b) = 6 := fun h => by unfold checkE; rw [if_neg (fun e => h (hm.1 e))]
  have hgood : (0 ≤ c ∧ c ≤ 31 ∧ 192 ≤ k ∧ k ≤ 223 ∧ b.length % 4 = 0 ∧ b.length ≤ 262140) → checkE (c, k, b) = 0 := fun h => by unfold checkE; rw [if_pos (hm.2 h)]
  refine spec_of Tryz.func33 rfl Tryz.ntmps33 Tryz.results33 ⟨by decide, by simp⟩ fun C hC => ?_
  by_cases h1 : c < 0
  · (repeat (first | refine sp_ ?_ | exact ex0))
    (refine ret_s [] ?_; simp (decide := true) (disch := omega) only [go_sem, ↓reduceIte, ↓put_at])
    exact (hbad (by omega)).symm
  by_cases h2 : 31 < c
  · (repeat (first | refine sp_ ?_ | exact ex0))
    (refine ret_s [] ?_; simp (decide := true) (disch := omega) only [go_sem, ↓reduceIte, ↓put_at])
    exact (hbad (by omega)).symm
  (repeat (first | refine sp_ ?_ | exact ex0))
  refine gcall_s Tryz.call62 (piece_kind k) [] ?_
  rcases h3 : kindOk k with _ | _
  · have h4 : ¬ (192 ≤ k ∧ k ≤ 223) := by simpa [kindOk] using h3
    (repeat (first | refine sp_ ?_ | exact ex0))
    (refine ret_s [] ?_; simp (decide := true) (disch := omega) only [go_sem, ↓reduceIte, ↓put_at])
    exact (hbad (by omega)).symm
  have h4 : 192 ≤ k ∧ k ≤ 223 := by simpa [kindOk] using h3
  by_cases h5 : (b.length : Int) % 4 = 0
  · by_cases h6 : 262140 < (b.length : Int)
    · (repeat (first | refine sp_ ?_ | exact ex0))
      (refine ret_s [] ?_; simp (decide := true) (disch := omega) only [go_sem, ↓reduceIte, ↓put_at])
      exact (hbad (by omega)).symm
    · (repeat (first | refine sp_ ?_ | exact ex0))
      (refine ret_s [] ?_; simp (decide := true) (disch := omega) only [go_sem, ↓reduceIte, ↓put_at])
      exact (hgood (by omega)).symm
  · (repeat (first | refine sp_ ?_ | exact ex0))
    (refine ret_s [] ?_; simp (decide := true) (disch := omega) only [go_sem, ↓reduceIte, ↓put_at])
    exact (hbad (by omega)).symm
theorem raw_some (l : List UInt8) (e n : Int) (h : n ≤ l.length) : rawT l n = l.take n.toNat ∧ rawL l e n = l.drop n.toNat ∧ rawE l e n = e := by
  unfold rawT rawL rawE; rw [if_pos h, if_pos h, if_pos h]; exact ⟨rfl, rfl, rfl⟩
theorem raw_nil (e n : Int) (he : e ≠ 0) : rawT [] n = [] ∧ rawL [] e n = [] ∧ rawE [] e n = e := by
  unfold rawT rawL rawE failL failE
  simp [he]
theorem raw_short (l : List UInt8) (n : Int) (h : ¬n ≤ l.length) : rawT l n = [] ∧ rawL l 0 n = [] ∧ rawE l 0 n = 2 := by
  unfold rawT rawL rawE failL failE
  rw [if_neg h, if_neg h, if_neg h]; exact ⟨rfl, rfl, rfl⟩
/-- What one next piece is, what is left, and the first error. -/
def oneP (l : List UInt8) : Pc := if l.length < 4 then (0, 0, []) else ((hdA l % 32 : Nat), (hdK l : Nat), if stepE l = 0 then (l.drop 4).take (4 * hdN l) else [])
def oneL (l : List UInt8) : List UInt8 := if stepE l = 0 then stepR l else []
set_option maxRecDepth 100000 in
set_option maxHeartbeats 2000000 in
theorem piece_one (l : List UInt8) (hl : l.length ≤ 140737488355328) : Spec Tryz.prog 45 [.ptr 0 0] [inO l 0] (.ca (.val (pcV (oneP l)))) [inO (oneL l) (stepE l)] := by
  by_cases h4 : l.length < 4
  · have e1 : stepE l = 2 := by unfold stepE; rw [if_pos h4]
    have e2 : oneL l = [] := by unfold oneL; rw [if_neg (by omega)]
    have e3 : oneP l = (0, 0, []) := by unfold oneP; rw [if_pos h4]
    rw [e1, e2, e3]
    refine spec_of Tryz.func45 rfl Tryz.ntmps45 Tryz.results45 ⟨by decide, by simp⟩ fun C hC => ?_
    (repeat (first | refine sp_ ?_ | exact ex0))
    refine call_s Tryz.call44 (in_left l 0) [(1000, 0)] ?_
    (repeat (first | refine sp_ ?_ | exact ex0))
    refine call_s Tryz.call67 (in_fail l 0 2) [(1000, 0)] ?_
    (repeat (first | refine sp_ ?_ | exact ex0))
    (refine ret_s [] ?_; simp (decide := true) (disch := omega) only [go_sem, ↓reduceIte, ↓put_at])
    rfl
  have hml : l.length ≤ maxLen := by unfold maxLen; omega
  have s1 := in_u8 l 0 hml
  rw [(raw_some l 0 1 (by omega)).1, (raw_some l 0 1 (by omega)).2.1, (raw_some l 0 1 (by omega)).2.2] at s1
  have s2 := in_u8 (l.drop 1) 0 (by rw [List.length_drop]; omega)
  rw [(raw_some (l.drop 1) 0 1 (by rw [List.length_drop]; omega)).1, (raw_some (l.drop 1) 0 1 (by rw [List.length_drop]; omega)).2.1, (raw_some (l.drop 1) 0 1 (by rw [List.length_drop]; omega)).2.2] at s2
  have s3 := in_u16 ((l.drop 1).drop 1) 0 (by rw [List.length_drop, List.length_drop]; omega)
  rw [(raw_some ((l.drop 1).drop 1) 0 2 (by rw [List.length_drop, List.length_drop]; omega)).1, (raw_some ((l.drop 1).drop 1) 0 2 (by rw [List.length_drop, List.length_drop]; omega)).2.1, (raw_some ((l.drop 1).drop 1) 0 2 (by rw [List.length_drop, List.length_drop]; omega)).2.2] at s3
  change Spec Tryz.prog 68 _ _ (.ca (.val (vi (hdA l)))) _ at s1
  change Spec Tryz.prog 68 _ _ (.ca (.val (vi (hdK l)))) _ at s2
  change Spec Tryz.prog 69 _ _ (.ca (.val (vi (hdN l)))) _ at s3
  have d4 : ((l.drop 1).drop 1).drop (2 : Int).toNat = l.drop 4 := by rw [List.drop_drop, List.drop_drop]; rfl
  rw [d4] at s3
  change Spec Tryz.prog 68 _ _ _ [inO (l.drop 1) 0] at s1
  change Spec Tryz.prog 68 _ _ _ [inO ((l.drop 1).drop 1) 0] at s2
  have hA : hdA l < 256 := hd_lt l 1
  have hK : hdK l < 256 := hd_lt (l.drop 1) 1
  have hN : hdN l < 65536 := hd_lt ((l.drop 1).drop 1) 2
  have hd : (l.drop 4).length = l.length - 4 := List.length_drop
  generalize ha : hdA l = A at *
  generalize hk : hdK l = K at *
  generalize hn : hdN l = N at *
  have k5 := piece_kind K
  have sF : ∀ f : Int, f ≠ 0 → Spec Tryz.prog 67 [.ptr 0 0, .ca (.val (vi f))] [inO (l.drop 4) 0] (.ca (.val (.tup []))) [inO [] f] := fun f hf => by
    have h := in_fail (l.drop 4) 0 f
    unfold failL failE at h
    rwa [if_pos ⟨rfl, hf⟩, if_pos ⟨rfl, hf⟩] at h
  have hbad : ∀ e, stepE l = e → e ≠ 0 → oneL l = [] ∧ oneP l = (((A % 32 : Nat) : Int), ((K : Nat) : Int), []) := fun e h1 h2 =>
    ⟨by unfold oneL; rw [if_neg (by omega)], by unfold oneP; rw [if_neg h4, if_neg (by omega), ha, hk]⟩
  by_cases hB : A / 32 ≠ 4
  · have e1 : stepE l = 1 := by unfold stepE; rw [if_neg h4, ha, if_pos hB]
    obtain ⟨e2, e3⟩ := hbad 1 e1 (by decide)
    have s4 := in_raw [] 1 (4 * N) (by simp) (by unfold maxLen; omega)
    rw [(raw_nil 1 _ (by decide)).1, (raw_nil 1 _ (by decide)).2.1, (raw_nil 1 _ (by decide)).2.2] at s4
    rw [e1, e2, e3]
    refine spec_of Tryz.func45 rfl Tryz.ntmps45 Tryz.results45 ⟨by decide, by simp⟩ fun C hC => ?_
    (repeat (first | refine sp_ ?_ | exact ex0))
    refine call_s Tryz.call44 (in_left l 0) [(1000, 0)] ?_
    (repeat (first | refine sp_ ?_ | exact ex0))
    refine call_s Tryz.call68 s1 [(1000, 0)] ?_
    (repeat (first | refine sp_ ?_ | exact ex0))
    refine call_s Tryz.call68 s2 [(1000, 0)] ?_
    (repeat (first | refine sp_ ?_ | exact ex0))
    refine call_s Tryz.call69 s3 [(1000, 0)] ?_
    (repeat (first | refine sp_ ?_ | exact ex0))
    refine call_s Tryz.call67 (sF 1 (by decide)) [(1000, 0)] ?_
    (repeat (first | refine sp_ ?_ | exact ex0))
    refine call_s Tryz.call70 s4 [(1000, 0)] ?_
    (repeat (first | refine sp_ ?_ | exact ex0))
    (refine ret_s [] ?_; simp (decide := true) (disch := omega) only [go_sem, ↓reduceIte, ↓put_at])
    omega
  by_cases hC' : ¬ (192 ≤ K ∧ K ≤ 223)
  · have e1 : stepE l = 5 := by unfold stepE; rw [if_neg h4, ha, hk, if_neg hB, if_pos hC']
    obtain ⟨e2, e3⟩ := hbad 5 e1 (by decide)
    have hk0 : kindOk K = false := by unfold kindOk; simp; omega
    rw [hk0] at k5
    have s4 := in_raw [] 5 (4 * N) (by simp) (by unfold maxLen; omega)
    rw [(raw_nil 5 _ (by decide)).1, (raw_nil 5 _ (by decide)).2.1, (raw_nil 5 _ (by decide)).2.2] at s4
    rw [e1, e2, e3]
    refine spec_of Tryz.func45 rfl Tryz.ntmps45 Tryz.results45 ⟨by decide, by simp⟩ fun C hC => ?_
    (repeat (first | refine sp_ ?_ | exact ex0))
    refine call_s Tryz.call44 (in_left l 0) [(1000, 0)] ?_
    (repeat (first | refine sp_ ?_ | exact ex0))
    refine call_s Tryz.call68 s1 [(1000, 0)] ?_
    (repeat (first | refine sp_ ?_ | exact ex0))
    refine call_s Tryz.call68 s2 [(1000, 0)] ?_
    (repeat (first | refine sp_ ?_ | exact ex0))
    refine call_s Tryz.call69 s3 [(1000, 0)] ?_
    (repeat (first | refine sp_ ?_ | exact ex0))
    refine call_s Tryz.call62 k5 [] ?_
    (repeat (first | refine sp_ ?_ | exact ex0))
    refine call_s Tryz.call67 (sF 5 (by decide)) [(1000, 0)] ?_
    (repeat (first | refine sp_ ?_ | exact ex0))
    refine call_s Tryz.call70 s4 [(1000, 0)] ?_
    (repeat (first | refine sp_ ?_ | exact ex0))
    (refine ret_s [] ?_; simp (decide := true) (disch := omega) only [go_sem, ↓reduceIte, ↓put_at])
    omega
  have hk1 : kindOk K = true := by unfold kindOk; simp; omega
  rw [hk1] at k5
  have s4 := in_raw (l.drop 4) 0 (4 * N) (by omega) (by unfold maxLen; omega)
  by_cases hD : l.length < 4 + 4 * N
  · have e1 : stepE l = 2 := by unfold stepE; rw [if_neg h4, ha, hk, hn, if_neg hB, if_neg hC', if_pos hD]
    obtain ⟨e2, e3⟩ := hbad 2 e1 (by decide)
    obtain ⟨r1, r2, r3⟩ := raw_short (l.drop 4) (4 * N) (by omega)
    rw [r1, r2, r3] at s4
    rw [e1, e2, e3]
    refine spec_of Tryz.func45 rfl Tryz.ntmps45 Tryz.results45 ⟨by decide, by simp⟩ fun C hC => ?_
    (repeat (first | refine sp_ ?_ | exact ex0))
    refine call_s Tryz.call44 (in_left l 0) [(1000, 0)] ?_
    (repeat (first | refine sp_ ?_ | exact ex0))
    refine call_s Tryz.call68 s1 [(1000, 0)] ?_
    (repeat (first | refine sp_ ?_ | exact ex0))
    refine call_s Tryz.call68 s2 [(1000, 0)] ?_
    (repeat (first | refine sp_ ?_ | exact ex0))
    refine call_s Tryz.call69 s3 [(1000, 0)] ?_
    (repeat (first | refine sp_ ?_ | exact ex0))
    refine call_s Tryz.call62 k5 [] ?_
    (repeat (first | refine sp_ ?_ | exact ex0))
    refine call_s Tryz.call70 s4 [(1000, 0)] ?_
    (repeat (first | refine sp_ ?_ | exact ex0))
    (refine ret_s [] ?_; simp (decide := true) (disch := omega) only [go_sem, ↓reduceIte, ↓put_at])
    omega
  · have e1 : stepE l = 0 := by unfold stepE; rw [if_neg h4, ha, hk, hn, if_neg hB, if_neg hC', if_neg hD]
    have e2 : oneL l = (l.drop 4).drop (4 * N) := by unfold oneL stepR; rw [if_pos e1, hn, List.drop_drop]
    have e3 : oneP l = (((A % 32 : Nat) : Int), ((K : Nat) : Int), (l.drop 4).take (4 * N)) := by unfold oneP; rw [if_neg h4, if_pos e1, ha, hk, hn]
    obtain ⟨r1, r2, r3⟩ := raw_some (l.drop 4) 0 (4 * N) (by omega)
    rw [r1, r2, r3] at s4
    have en : (4 * (N : Int)).toNat = 4 * N := by omega
    rw [en] at s4
    rw [e1, e2, e3]
    refine spec_of Tryz.func45 rfl Tryz.ntmps45 Tryz.results45 ⟨by decide, by simp⟩ fun C hC => ?_
    (repeat (first | refine sp_ ?_ | exact ex0))
    refine call_s Tryz.call44 (in_left l 0) [(1000, 0)] ?_
    (repeat (first | refine sp_ ?_ | exact ex0))
    refine call_s Tryz.call68 s1 [(1000, 0)] ?_
    (repeat (first | refine sp_ ?_ | exact ex0))
    refine call_s Tryz.call68 s2 [(1000, 0)] ?_
    (repeat (first | refine sp_ ?_ | exact ex0))
    refine call_s Tryz.call69 s3 [(1000, 0)] ?_
    (repeat (first | refine sp_ ?_ | exact ex0))
    refine call_s Tryz.call62 k5 [] ?_
    (repeat (first | refine sp_ ?_ | exact ex0))
    refine call_s Tryz.call70 s4 [(1000, 0)] ?_
    (repeat (first | refine sp_ ?_ | exact ex0))
    (refine ret_s [] ?_; simp (decide := true) (disch := omega) only [go_sem, ↓reduceIte, ↓put_at])
    omega
theorem packs_le (ps : List Pc) (h : ps.all mayP = true) : (ps.flatMap packOne).length ≤ 262144 * ps.length := by
  induction ps with
  | nil => simp
  | cons p ps ih =>
    simp only [List.all_cons, Bool.and_eq_true] at h
    have h1 := ((mayP_iff p).1 h.1).2.2.2.2.2
    have := ih h.2
    simp only [List.flatMap_cons, List.length_append, packOne_length, List.length_cons]
    omega
set_option maxRecDepth 100000 in
set_option maxHeartbeats 2000000 in
theorem piece_pack (ps : List Pc) (hl : ∀ p ∈ ps, p.2.2.length ≤ maxLen) (hs : ps.length ≤ 100000000) : Spec Tryz.prog 17 [.ca (.val (.lst 3 (ps.map pcEl)))] [] (.ca (.val (vs (packP ps)))) [] := by
  refine spec_of Tryz.func17 rfl Tryz.ntmps17 Tryz.results17 ⟨by decide, by simp⟩ fun C hC => ?_
  (repeat (first | refine sp_ ?_ | exact ex0))
  refine own_c (3, 0) 0 (3, 1) 5 1 ?_
  simp (decide := true) (disch := omega) only [go_sem, ↓reduceIte, ↓put_at]
  refine loop_s (α := {j : Nat // j ≤ ps.length ∧ (ps.take j).all mayP = true}) (fun j => [(.s 3, .av (.ptr (3, 0) 0 0)), (.s 6, .av (.val (.lst 3 (ps.map pcEl)))), (.s 7, .av (.val (vi ps.length))), (.s 8, .av (.val (vi j.1))), (.o (3, 0), .num 1), (.c (3, 0) 0, .av (.own (3, 1) 0 5 1 (((ps.take j.1).flatMap packOne).map byteEl))), (.k (3, 1), .row 5 1 (((ps.take j.1).flatMap packOne).map byteEl).length)]) (fun j => ps.length - j.1) ⟨0, Nat.zero_le _, rfl⟩ ?_ (fun j => ?_)
  · simp only [List.take_zero, List.flatMap_nil]
    simp (decide := true) (disch := omega) only [go_sem, ↓reduceIte, ↓put_at]
  · obtain ⟨j, hj, ha⟩ := j
    dsimp only at hj ⊢
    have hb := packs_le _ ha
    rw [List.length_take, Nat.min_eq_left hj] at hb
    by_cases hlt : j < ps.length
    · have ht : ps.take (j + 1) = ps.take j ++ [ps[j]] := List.take_succ_eq_append_getElem hlt
      have hc := piece_check ps[j] (hl _ (List.getElem_mem hlt))
      cases hm : mayP ps[j] with
      | false =>
        have hk : checkE ps[j] = 6 := by unfold checkE; rw [hm]; rfl
        rw [hk] at hc
        have hp : packP ps = [] := by
          unfold packP
          rw [if_neg]
          intro h
          have := List.all_eq_true.1 h _ (List.getElem_mem hlt)
          rw [hm] at this
          cases this
        rw [hp]
        (repeat (first | refine sp_ ?_ | exact ex0))
        refine call_s Tryz.call33 hc [] ?_
        (repeat (first | refine sp_ ?_ | exact ex0))
        (refine ret_s [] ?_; simp (decide := true) (disch := omega) only [go_sem, ↓reduceIte, ↓put_at])
      | true =>
        have hk : checkE ps[j] = 0 := by unfold checkE; rw [hm]; rfl
        rw [hk] at hc
        obtain ⟨m1, m2, m3, m4, m5, m6⟩ := (mayP_iff _).1 hm
        have hor : bits .or .i64 128 ps[j].1 = 128 + ps[j].1 := i64_join 5 _ _ (by omega) (by omega) (by omega) (by omega) (by omega) (by omega)
        (repeat (first | refine sp_ ?_ | exact ex0))
        refine call_s Tryz.call33 hc [] ?_
        (repeat (first | refine sp_ ?_ | exact ex0))
        refine call_s Tryz.call34 (out_u8 ((ps.take j).flatMap packOne) [128 + ps[j].1, ps[j].2.1] (by simp only [List.length_cons, List.length_nil]; omega)) [(3, 0)] ?_
        (repeat (first | refine sp_ ?_ | exact ex0))
        refine ⟨by rw [hor], ?_⟩
        (repeat (first | refine sp_ ?_ | exact ex0))
        have hq := puts'_length 1 [128 + ps[j].1, ps[j].2.1]
        simp only [List.length_cons, List.length_nil] at hq
        refine call_s Tryz.call35 (out_u16 ((ps.take j).flatMap packOne ++ puts' 1 [128 + ps[j].1, ps[j].2.1]) [(ps[j].2.2.length : Int) / 4] (by simp only [List.length_append, List.length_cons, List.length_nil]; omega)) [(3, 0)] ?_
        (repeat (first | refine sp_ ?_ | exact ex0))
        have hq2 := puts'_length 2 [(ps[j].2.2.length : Int) / 4]
        simp only [List.length_cons, List.length_nil] at hq2
        refine call_s Tryz.call36 (out_raw ((ps.take j).flatMap packOne ++ puts' 1 [128 + ps[j].1, ps[j].2.1] ++ puts' 2 [(ps[j].2.2.length : Int) / 4]) [ps[j].2.2] (by simp only [List.length_append, List.flatten_cons, List.flatten_nil, List.append_nil]; omega) (by simp)) [(3, 0)] ?_
        (repeat (first | refine sp_ ?_ | exact ex0))
        refine next_s ⟨j + 1, hlt, by rw [ht, List.all_append, ha]; simp [hm]⟩ ⟨?_, by dsimp only; omega⟩
        have e1 : (ps.take (j + 1)).flatMap packOne = (ps.take j).flatMap packOne ++ puts' 1 [128 + ps[j].1, ps[j].2.1] ++ puts' 2 [(ps[j].2.2.length : Int) / 4] ++ [ps[j].2.2].flatten := by
          rw [ht, List.flatMap_append]
          simp [puts', packOne, Int.natCast_ediv]
        dsimp only
        rw [e1]
        simp (decide := true) (disch := omega) only [go_sem, ↓reduceIte, ↓put_at]
    · (repeat (first | refine sp_ ?_ | exact ex0))
      refine call_s Tryz.call37 (out_bytes ((ps.take j).flatMap packOne) (by omega)) [(3, 0)] ?_
      (repeat (first | refine sp_ ?_ | exact ex0))
      (refine ret_s [] ?_; simp (decide := true) (disch := omega) only [go_sem, ↓reduceIte, ↓put_at])
      have e : ps.take j = ps := List.take_of_length_le (by omega)
      rw [e] at ha ⊢
      unfold packP
      rw [if_pos ha]
set_option maxRecDepth 100000 in
set_option maxHeartbeats 2000000 in
theorem piece_split (l : List UInt8) (hl : l.length ≤ 1099511627776) : Spec Tryz.prog 29 [.ca (.val (vs l))] [] (.ca (.val (.tup [.lst 3 ((splitP l).2.map pcEl), vi (splitP l).1]))) [] := by
  obtain ⟨sp, hsp⟩ : ∃ sp, sp = splitP l := ⟨_, rfl⟩
  rw [← hsp]
  refine spec_of Tryz.func29 rfl Tryz.ntmps29 Tryz.results29 ⟨by decide, by simp⟩ fun C hC => ?_
  (repeat (first | refine sp_ ?_ | exact ex0))
  refine call_s Tryz.call43 (pen_of l) [] ?_
  (repeat (first | refine sp_ ?_ | exact ex0))
  refine own_s 5 (5, 0) 67 3 ?_
  simp (decide := true) (disch := omega) only [go_sem, ↓reduceIte, ↓put_at]
  refine loop_s (α := {x : List UInt8 × Int × List Pc // x.1.length + x.2.2.length ≤ l.length ∧ ((x.2.1 = 0 ∧ ∃ f, x.1.length ≤ f ∧ sp = runP f x.1 x.2.2) ∨ (x.2.1 ≠ 0 ∧ x.1 = [] ∧ sp = (x.2.1, [])))}) (fun x => [(.s 4, .av (.ptr (8, 0) 0 0)), (.o (8, 0), .num 2), (.c (8, 0) 0, .av (.val (vs x.1.1))), (.c (8, 0) 1, .av (.val (vi x.1.2.1))), (.s 5, .av (.own (5, 0) 0 67 3 (x.1.2.2.map pcEl))), (.k (5, 0), .row 67 3 (x.1.2.2.map pcEl).length)]) (fun x => x.1.1.length) ⟨(l, 0, []), by simp, .inl ⟨rfl, l.length, Nat.le_refl _, hsp⟩⟩ ?_ (fun x => ?_)
  · simp only [List.map_nil]
    simp (decide := true) (disch := omega) only [go_sem, ↓reduceIte, ↓put_at]
  · obtain ⟨⟨r, e, acc⟩, hx1, hx⟩ := x
    dsimp only at hx1 hx ⊢
    by_cases h0 : 0 < r.length
    · rcases hx with ⟨rfl, f, hf, hx⟩ | ⟨_, rfl, _⟩
      · have ho := piece_one r (by omega)
        have hr0 : r ≠ [] := List.length_pos_iff.1 h0
        have hlen : (oneL r).length < r.length := by
          unfold oneL; split
          · exact stepR_lt r hr0
          · simpa using h0
        (repeat (first | refine sp_ ?_ | exact ex0))
        refine call_s Tryz.call44 (in_left r 0) [(8, 0)] ?_
        (repeat (first | refine sp_ ?_ | exact ex0))
        refine call_s Tryz.call45 ho [(8, 0)] ?_
        (repeat (first | refine sp_ ?_ | exact ex0))
        have hn : (oneL r).length + (acc ++ [oneP r]).length ≤ l.length := by rw [List.length_append]; simp only [List.length_cons, List.length_nil]; omega
        have hnext : (stepE r = 0 ∧ ∃ f, (oneL r).length ≤ f ∧ sp = runP f (oneL r) (acc ++ [oneP r])) ∨ (stepE r ≠ 0 ∧ oneL r = [] ∧ sp = (stepE r, [])) := by
          obtain ⟨f', rfl⟩ : ∃ f', f = f' + 1 := ⟨f - 1, by omega⟩
          rw [runP, if_neg hr0] at hx
          by_cases hs : stepE r = 0
          · rw [if_pos hs] at hx
            have e1 : oneL r = stepR r := by unfold oneL; rw [if_pos hs]
            have e2 : oneP r = stepV r := by
              unfold oneP stepV
              rw [if_pos hs, if_neg]
              intro h
              unfold stepE at hs
              rw [if_pos h] at hs
              cases hs
            rw [e1, e2]
            exact .inl ⟨hs, f', by have := stepR_lt r hr0; omega, hx⟩
          · rw [if_neg hs] at hx
            exact .inr ⟨hs, by unfold oneL; rw [if_neg hs], hx⟩
        refine next_s ⟨(oneL r, stepE r, acc ++ [oneP r]), hn, hnext⟩ ⟨?_, by dsimp only; omega⟩
        simp (decide := true) (disch := omega) only [go_sem, ↓reduceIte, ↓put_at]
        simp [pcEl]
      · simp at h0
    · have hr0 : r = [] := List.eq_nil_of_length_eq_zero (by omega)
      subst hr0
      rcases hx with ⟨rfl, f, hf, hx⟩ | ⟨he, _, hx⟩
      · have hx2 : sp = (0, acc) := by rw [hx]; cases f <;> simp [runP]
        clear hsp
        subst hx2
        (repeat (first | refine sp_ ?_ | exact ex0))
        refine call_s Tryz.call44 (in_left [] 0) [(8, 0)] ?_
        (repeat (first | refine sp_ ?_ | exact ex0))
        refine call_s Tryz.call46 (in_err [] 0) [(8, 0)] ?_
        (repeat (first | refine sp_ ?_ | exact ex0))
        (refine ret_s [] ?_; simp (decide := true) (disch := omega) only [go_sem, ↓reduceIte, ↓put_at])
      · clear hsp
        subst hx
        (repeat (first | refine sp_ ?_ | exact ex0))
        refine call_s Tryz.call44 (in_left [] e) [(8, 0)] ?_
        (repeat (first | refine sp_ ?_ | exact ex0))
        refine call_s Tryz.call46 (in_err [] e) [(8, 0)] ?_
        (repeat (first | refine sp_ ?_ | exact ex0))
        (refine ret_s [] ?_; simp (decide := true) (disch := omega) only [go_sem, ↓reduceIte, ↓put_at])
end Go.Proofs.YtbnnfmleoebelaaGreat

namespace Go.Proofs.YtbnnfmleoebelaaGreat
open Go.RowKit
set_option linter.unusedVariables false
set_option linter.unusedSimpArgs false

theorem spec_lib {P : Program} {K : FuncId} {us : List Value} {u : Value} (h : ∀ w, Calls P K us.toArray w fun e w' => e = .returned u ∧ Below w.heap.size w w') :
    Spec P K (us.map fun v => .ca (.val (.sc v))) [] (.ca (.val (.sc u))) [] := by
  have : (us.map fun v => (Arg.ca (.val (.sc v)))) = (us.map V.sc).map fun x => .ca (.val x) := by simp
  rw [this]
  refine spec_vals fun m w vals hm hl hv => ?_
  have hv : vals = us := by
    apply List.ext_getElem (by simpa using hl)
    intro j h1 h2
    exact Rd.sc_eq (hv j (.sc us[j]) vals[j] (by rw [List.getElem?_map, List.getElem?_eq_getElem h2]; rfl) (List.getElem?_eq_getElem h1))
  subst hv
  refine (h w).mono ?_
  rintro e w' ⟨rfl, hb⟩
  have hc : Chg Nothing w w' := (Chg.ofBelow hb).mono fun i hi h => by omega
  exact ⟨u, m, rfl, Rd.sc u, Mem.le_refl m, fun b i v h1 => (hc.cell (World.block_lt_of_cell? w _ (hm b i v h1)) id).trans (hm b i v h1), hc, fun b i _ => rfl⟩
end Go.Proofs.YtbnnfmleoebelaaGreat
namespace Go.Proofs.YtbnnfmleoebelaaGreat
open Go.RowKit
set_option linter.unusedVariables false
set_option linter.unusedSimpArgs false

section
variable {P : Program} {ops : Array Oper} {C : Ctx} {md : Bool} {σ : St} {K : St → List FP → Prop} {acc : List FP} {rest : List Oper}
theorem stepU_mkS {d : Tmp} {t : TypeId} {x y : Operand} : stepU P σ (some d) (.makeSlice t x y) = none := rfl
attribute [go_sem] stepU_mkS
end
end Go.Proofs.YtbnnfmleoebelaaGreat
namespace Go.Proofs.YtbnnfmleoebelaaGreat
open Go.RowKit
set_option linter.unusedVariables false
set_option linter.unusedSimpArgs false

section
variable {P : Program} {ops : Array Oper} {C : Ctx} {σ : St} {K : St → List FP → Prop} {acc : List FP} {rest : List Oper}
end

/-! ### Rows that change: made, read as a text, taken, let go -/
section
variable {P : Program} {ops : Array Oper} {C : Ctx} {E : Env} {σ : St} {a : Act} {w : World} {md : Bool} {K : St → List FP → Prop} {acc : List FP} {rest : List Oper} {Q : Exit → St → Prop}
end
end Go.Proofs.YtbnnfmleoebelaaGreat

namespace Go.Proofs.YtbnnfmleoebelaaGreat
open Go.RowKit
set_option linter.unusedVariables false
set_option linter.unusedSimpArgs false

def concr (P : Program) (t : TypeId) : Bool := match P.underlying t with | some (.interface _) => false | some _ => true | none => false
theorem concr_some {P : Program} {t : TypeId} (h : concr P t = true) : ∃ d, P.underlying t = some d ∧ ∀ ms, d ≠ .interface ms := by
  unfold concr at h
  cases hd : P.underlying t with
  | none => rw [hd] at h; cases h
  | some d =>
    rw [hd] at h
    refine ⟨d, rfl, fun ms e => ?_⟩
    subst e; cases h
def isIf (P : Program) (t : TypeId) : Bool := match P.underlying t with | some (.interface _) => true | _ => false
theorem isIf_some {P : Program} {t : TypeId} (h : isIf P t = true) : ∃ ms, P.underlying t = some (.interface ms) := by
  unfold isIf at h
  split at h
  · rename_i ms hd; exact ⟨ms, hd⟩
  · cases h
/-- Of another type, or nil. -/
def missI (at' : TypeId) : AV → Prop
  | .val (.ifc t _) => t ≠ at'
  | .val (.sc v) => v = .nilIface
  | _ => False
def nilI : AV → Option Bool
  | .val (.ifc _ _) => some false
  | .val (.sc .nilIface) => some true
  | _ => none
attribute [go_sem] missI nilI
section
variable {P : Program} {ops : Array Oper} {C : Ctx} {E : Env} {σ : St} {a : Act} {w : World} {md : Bool} {K : St → List FP → Prop} {acc : List FP} {rest : List Oper} {Q : Exit → St → Prop}
theorem ok_mkI {d : Tmp} {t : TypeId} {x : Operand} (ht : concr P t = true) : StOk P C σ (some d) (.makeInterface t x) (some (True, rdl x, [(.s d, .av (.val (.ifc t (plain (ev σ x)))))])) := by
  refine ok_pure fun _ ty pos af E σ' a w hr hg => ⟨.iface t (a.eval x), ?_, .ifc t _ _ (by rw [← ev_congr hr]; exact plain_ok (ev_ok hg x))⟩
  obtain ⟨dd, h1, h2⟩ := concr_some ht
  have : (Instr.makeInterface t (a.eval x)).run P w = .ok (.iface t (a.eval x)) w := by
    unfold Instr.makeInterface
    simp only [Sem.run_bind, run_underlying h1, Result.andThen_ok]
    cases dd <;> first | rfl | exact absurd rfl (h2 _)
  simp [execOp, this]
theorem mkI_s {d : Tmp} {t : TypeId} {x : Operand} {ty : TypeId} {pos : String} {af : Array Edge} (ht : concr P t = true)
    (k : exec P ops C md K rest (put σ (.s d) (.av (.val (.ifc t (plain (ev σ x)))))) ((rdl x, [.s d]) :: acc)) : Run P ops C md K (⟨some d, .makeInterface t x, ty, pos, af, none⟩ :: rest) σ acc :=
  run_any (ok_mkI ht) rfl trivial k
theorem ok_taY {d : Tmp} {x : Operand} {xt at' : TypeId} {y : V} (hc : concr P at' = true) (hx : ev σ x = .val (.ifc at' y)) : StOk P C σ (some d) (.typeAssert x xt at' true) (some (True, rdl x, [(.s d, .av (.val (.tup [y, .sc (.bool true)])))])) := by
  refine ok_pure fun _ ty pos af E σ' a w hr hg => ?_
  have h := ev_ok hg x
  rw [ev_congr hr, hx] at h
  have h : Rd E.m (.ifc at' y) (a.eval x) := h
  generalize hv : a.eval x = v at h
  cases h with
  | ifc _ _ u hu =>
    obtain ⟨dd, h1, h2⟩ := concr_some hc
    refine ⟨.tuple #[u, .bool true], ?_, .tup _ _ rfl fun i hi => ?_⟩
    · have : (Instr.typeAssert (.iface at' u) xt at' true).run P w = .ok (.tuple #[u, .bool true]) w := by
        unfold Instr.typeAssert
        simp only [Sem.run_bind, run_underlying h1, Result.andThen_ok]
        cases dd <;> first | exact absurd rfl (h2 _) | simp
      simp [execOp, hv, this]
    · have : i = 0 ∨ i = 1 := by simp at hi; omega
      rcases this with rfl | rfl
      · exact hu
      · exact Rd.sc _
theorem taY_s {d : Tmp} {x : Operand} {xt at' : TypeId} {ty : TypeId} {pos : String} {af : Array Edge} (hc : concr P at' = true) (y : V) (hx : ev σ x = .val (.ifc at' y))
    (k : exec P ops C md K rest (put σ (.s d) (.av (.val (.tup [y, .sc (.bool true)])))) ((rdl x, [.s d]) :: acc)) : Run P ops C md K (⟨some d, .typeAssert x xt at' true, ty, pos, af, none⟩ :: rest) σ acc :=
  run_any (ok_taY hc hx) rfl trivial k
theorem ok_inil {d : Tmp} {op : BinOp} {t t' : TypeId} {x : Operand} {b : Bool} (hop : op = .eql ∨ op = .neq) (ht : isIf P t = true) (hx : nilI (ev σ x) = some b) :
    StOk P C σ (some d) (.binOp op t x (.const .nilIface) t') (some (True, rdl x, [(.s d, .av (.val (.sc (.bool (if op = .eql then b else !b)))))])) := by
  refine ok_pure fun _ ty pos af E σ' a w hr hg => ⟨_, ?_, Rd.sc _⟩
  have h := ev_ok hg x
  rw [ev_congr hr] at h
  obtain ⟨ms, h1⟩ := isIf_some ht
  have hv : (a.eval x = .nilIface ∧ b = true) ∨ ∃ t u, a.eval x = .iface t u ∧ b = false := by
    cases he : ev σ x with
    | val X =>
      rw [he] at h hx
      cases X with
      | sc u =>
        have h := Rd.sc_eq h
        cases u <;> simp [nilI] at hx
        exact .inl ⟨h, hx⟩
      | ifc t y =>
        have h : Rd E.m (.ifc t y) (a.eval x) := h
        simp [nilI] at hx
        generalize a.eval x = v at h
        cases h with
        | ifc _ _ u hu => exact .inr ⟨t, u, rfl, hx⟩
      | _ => simp [nilI] at hx
    | _ => rw [he] at hx; simp [nilI] at hx
  have hq : ∀ v n, ((v = .nilIface ∧ b = true) ∨ ∃ t u, v = .iface t u ∧ b = false) → (Op.equalIn (n + 1) t v .nilIface).run P w = .ok b w := fun v n hv => by
    rcases hv with ⟨rfl, rfl⟩ | ⟨t', u, rfl, rfl⟩ <;> simp [Op.equalIn, run_underlying h1]
  have hg : ∀ v, ((v = .nilIface ∧ b = true) ∨ ∃ t u, v = .iface t u ∧ b = false) → (eqGuard op t x (.const .nilIface) v .nilIface).run P w = .ok () w := fun v hv => by
    unfold eqGuard
    rcases hv with ⟨rfl, rfl⟩ | ⟨t', u, rfl, rfl⟩ <;> rcases hop with rfl | rfl <;> simp
  have hb : ∀ v, ((v = .nilIface ∧ b = true) ∨ ∃ t u, v = .iface t u ∧ b = false) → (binOp op t v .nilIface).run P w = .ok (.bool (if op = .eql then b else !b)) w := fun v hv => by
    have h2 := hq v 9999 hv
    rcases hv with ⟨rfl, rfl⟩ | ⟨t', u, rfl, rfl⟩ <;> rcases hop with rfl | rfl <;> simp [binOp, Op.equal, Op.maxDepth, h2]
  have he : a.eval (.const .nilIface) = .nilIface := rfl
  simp [execOp, he, hg _ hv, hb _ hv]
theorem inil_s {d : Tmp} {op : BinOp} {t t' : TypeId} {x : Operand} {ty : TypeId} {pos : String} {af : Array Edge} (hop : op = .eql ∨ op = .neq) (ht : isIf P t = true) (b : Bool) (hx : nilI (ev σ x) = some b)
    (k : exec P ops C md K rest (put σ (.s d) (.av (.val (.sc (.bool (if op = .eql then b else !b)))))) ((rdl x, [.s d]) :: acc)) : Run P ops C md K (⟨some d, .binOp op t x (.const .nilIface) t', ty, pos, af, none⟩ :: rest) σ acc :=
  run_any (ok_inil hop ht hx) rfl trivial k
end
end Go.Proofs.YtbnnfmleoebelaaGreat

