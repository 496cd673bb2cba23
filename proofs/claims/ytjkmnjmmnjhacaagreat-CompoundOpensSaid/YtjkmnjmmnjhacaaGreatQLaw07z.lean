/- Layer 7: the reference and the law's helpers, by abstract values. -/
import Derived.Test.YtjkmnjmmnjhacaaGreatQPiecez
import Derived.Test.YtjkmnjmmnjhacaaGreatQRefZz
namespace Go.Proofs.YtjkmnjmmnjhacaaGreat
open Go.RowKit
set_option linter.unusedVariables false
set_option linter.unusedSimpArgs false

set_option maxRecDepth 100000 in
set_option maxHeartbeats 1000000 in
theorem ref_may (p : Pc) (hl : p.2.2.length ≤ maxLen) : Spec Tryz.prog 40 [.ca (.val (pcV p))] [] (.ca (.val (vb (mayP p)))) [] := by
  obtain ⟨c, k, b⟩ := p
  dsimp only at hl ⊢
  have hm := mayP_iff (c, k, b)
  dsimp only at hm
  unfold maxLen at hl
  have hbad : ¬ (0 ≤ c ∧ c ≤ 31 ∧ 192 ≤ k ∧ k ≤ 223 ∧ b.length % 4 = 0 ∧ b.length ≤ 262140) → mayP (c, k, b) = false := fun h => by
    cases hv : mayP (c, k, b) with
    | false => rfl
    | true => exact absurd (hm.1 hv) h
  have hgood : (0 ≤ c ∧ c ≤ 31 ∧ 192 ≤ k ∧ k ≤ 223 ∧ b.length % 4 = 0 ∧ b.length ≤ 262140) → mayP (c, k, b) = true := fun h => hm.2 h
  refine spec_of Tryz.func40 rfl Tryz.ntmps40 Tryz.results40 ⟨by decide, by simp⟩ fun C hC => ?_
  by_cases h1 : c < 0
  · (repeat (first | refine sp_ ?_ | exact ex0))
    (refine ret_s [] ?_; simp (decide := true) (disch := omega) only [go_sem, ↓reduceIte, ↓put_at])
    exact (hbad (by omega)).symm
  by_cases h2 : 31 < c
  · (repeat (first | refine sp_ ?_ | exact ex0))
    (refine ret_s [] ?_; simp (decide := true) (disch := omega) only [go_sem, ↓reduceIte, ↓put_at])
    exact (hbad (by omega)).symm
  by_cases h3 : k < 192
  · (repeat (first | refine sp_ ?_ | exact ex0))
    (refine ret_s [] ?_; simp (decide := true) (disch := omega) only [go_sem, ↓reduceIte, ↓put_at])
    exact (hbad (by omega)).symm
  by_cases h4 : 223 < k
  · (repeat (first | refine sp_ ?_ | exact ex0))
    (refine ret_s [] ?_; simp (decide := true) (disch := omega) only [go_sem, ↓reduceIte, ↓put_at])
    exact (hbad (by omega)).symm
  by_cases h5 : (b.length : Int) % 4 = 0
  · by_cases h6 : 262140 < (b.length : Int)
    · (repeat (first | refine sp_ ?_ | exact ex0))
      (refine ret_s [] ?_; simp (decide := true) (disch := omega) only [go_sem, ↓reduceIte, ↓put_at])
      exact (hbad (by omega)).symm
    · (repeat (first | refine sp_ ?_ | exact ex0))
      (refine ret_s [] ?_; simp (decide := true) (disch := omega) only [go_sem, ↓reduceIte, ↓put_at])
      exact (hgood (by omega)).symm
  · (repeat (first | refine sp_ ?_ | exact ex0))
    (refine ret_s [] ?_; simp (decide := true) (disch := omega) only [go_sem, ↓reduceIte, ↓put_at])
    exact (hbad (by omega)).symm
theorem cmp_piece (p q : Pc) (w : World) : (binOp .neq 62 (.agg [.int .i64 p.1, .int .i64 p.2.1, str p.2.2].toArray) (.agg [.int .i64 q.1, .int .i64 q.2.1, str q.2.2].toArray)).run Tryz.prog w = .ok (.bool (!decide (p = q))) w := by
  obtain ⟨a, b, l⟩ := p
  obtain ⟨a', b', l'⟩ := q
  by_cases h1 : a = a'
  · by_cases h2 : b = b'
    · by_cases h3 : l = l'
      · subst h1 h2 h3
        simp [go_sem]
      · have e : (l == l') = false := by simpa using h3
        simp [go_sem, h1, h2, h3, e]
    · simp [go_sem, h1, h2]
  · simp [go_sem, h1]
set_option maxRecDepth 100000 in
set_option maxHeartbeats 1000000 in
theorem law_is (ps qs : List Pc) (hx : ps.length ≤ maxLen) (hy : qs.length ≤ maxLen) : Spec Tryz.prog 13 [.ca (.val (.lst 3 (ps.map pcEl))), .ca (.val (.lst 3 (qs.map pcEl)))] [] (.ca (.val (vb (decide (ps = qs))))) [] := by
  unfold maxLen at hx hy
  refine spec_of Tryz.func13 rfl Tryz.ntmps13 Tryz.results13 ⟨by decide, by simp⟩ fun C hC => ?_
  by_cases hl : ps.length = qs.length
  · (repeat (first | refine sp_ ?_ | exact ex0))
    refine loop_s (α := {j : Nat // j ≤ ps.length ∧ ps.take j = qs.take j}) (fun j => [(.s 0, .av (.val (.lst 3 (ps.map pcEl)))), (.s 1, .av (.val (.lst 3 (qs.map pcEl)))), (.s 12, .av (.val (vi qs.length))), (.s 13, .av (.val (vi j.1)))]) (fun j => ps.length - j.1) ⟨0, Nat.zero_le _, rfl⟩ ?_ (fun j => ?_)
    · simp (decide := true) (disch := omega) only [go_sem, ↓reduceIte, ↓put_at]
    · obtain ⟨j, hj, ht⟩ := j
      dsimp only at hj ⊢
      by_cases hlt : j < ps.length
      · have hlt' : j < qs.length := by omega
        (repeat (first | refine sp_ ?_ | exact ex0))
        refine cmpA_s [.int .i64 ps[j].1, .int .i64 ps[j].2.1, str ps[j].2.2] [.int .i64 qs[j].1, .int .i64 qs[j].2.1, str qs[j].2.2] _ (.inr rfl) (by simp (decide := true) (disch := omega) only [go_sem, ↓reduceIte, ↓put_at]) (by simp (decide := true) (disch := omega) only [go_sem, ↓reduceIte, ↓put_at]) (by kernel_rfl) (cmp_piece ps[j] qs[j]) ?_
        by_cases he : ps[j] = qs[j]
        · rw [decide_eq_true he]
          (repeat (first | refine sp_ ?_ | exact ex0))
          refine next_s ⟨j + 1, hlt, by rw [List.take_succ_eq_append_getElem hlt, List.take_succ_eq_append_getElem hlt', ht, he]⟩ ⟨?_, by dsimp only; omega⟩
          simp (decide := true) (disch := omega) only [go_sem, ↓reduceIte, ↓put_at]
        · rw [decide_eq_false he]
          (repeat (first | refine sp_ ?_ | exact ex0))
          (refine ret_s [] ?_; simp (decide := true) (disch := omega) only [go_sem, ↓reduceIte, ↓put_at])
          try exact (decide_eq_false fun e => he (by simp only [e])).symm
      · have e : ps = qs := by
          rw [List.take_of_length_le (by omega), List.take_of_length_le (by omega)] at ht
          exact ht
        (repeat (first | refine sp_ ?_ | exact ex0))
        (refine ret_s [] ?_; simp (decide := true) (disch := omega) only [go_sem, ↓reduceIte, ↓put_at])
        try exact (decide_eq_true e).symm
  · (repeat (first | refine sp_ ?_ | exact ex0))
    (refine ret_s [] ?_; simp (decide := true) (disch := omega) only [go_sem, ↓reduceIte, ↓put_at])
    try exact (decide_eq_false fun e => hl (by rw [e])).symm
set_option maxRecDepth 100000 in
set_option maxHeartbeats 2000000 in
theorem ref_pack (ps : List Pc) (hl : ∀ p ∈ ps, p.2.2.length ≤ maxLen) (hs : ps.length ≤ 100000000) : Spec Tryz.prog 41 [.ca (.val (.lst 3 (ps.map pcEl)))] [] (.ca (.val (vs (packP ps)))) [] := by
  refine spec_of Tryz.func41 rfl Tryz.ntmps41 Tryz.results41 ⟨by decide, by simp⟩ fun C hC => ?_
  (repeat (first | refine sp_ ?_ | exact ex0))
  refine loop_s (α := {j : Nat // j ≤ ps.length ∧ (ps.take j).all mayP = true}) (fun j => [(.s 6, .av (.val (.lst 3 (ps.map pcEl)))), (.s 7, .av (.val (vi ps.length))), (.s 8, .av (.val (vi j.1))), (.s 3, .av (.val (vs ((ps.take j.1).flatMap packOne))))]) (fun j => ps.length - j.1) ⟨0, Nat.zero_le _, rfl⟩ ?_ (fun j => ?_)
  · simp only [List.take_zero, List.flatMap_nil]
    simp (decide := true) (disch := omega) only [go_sem, ↓reduceIte, ↓put_at]
  · obtain ⟨j, hj, ha⟩ := j
    dsimp only at hj ⊢
    have hb := packs_le _ ha
    rw [List.length_take, Nat.min_eq_left hj] at hb
    by_cases hlt : j < ps.length
    · have ht : ps.take (j + 1) = ps.take j ++ [ps[j]] := List.take_succ_eq_append_getElem hlt
      have hc := ref_may ps[j] (hl _ (List.getElem_mem hlt))
      cases hm : mayP ps[j] with
      | false =>
        rw [hm] at hc
        have hp : packP ps = [] := by
          unfold packP
          rw [if_neg]
          intro h
          have := List.all_eq_true.1 h _ (List.getElem_mem hlt)
          rw [hm] at this
          cases this
        rw [hp]
        (repeat (first | refine sp_ ?_ | exact ex0))
        refine call_s Tryz.call40 hc [] ?_
        (repeat (first | refine sp_ ?_ | exact ex0))
        (refine ret_s [] ?_; simp (decide := true) (disch := omega) only [go_sem, ↓reduceIte, ↓put_at])
      | true =>
        rw [hm] at hc
        obtain ⟨m1, m2, m3, m4, m5, m6⟩ := (mayP_iff _).1 hm
        have z1 := putZ_length (128 + ps[j].1) 1
        have z2 := putZ_length ps[j].2.1 1
        have z3 := putZ_length ((ps[j].2.2.length : Int) / 4) 2
        (repeat (first | refine sp_ ?_ | exact ex0))
        refine call_s Tryz.call40 hc [] ?_
        (repeat (first | refine sp_ ?_ | exact ex0))
        refine call_s Tryz.call77 (q_put (128 + ps[j].1) 1 (by omega) (by decide)) [] ?_
        (repeat (first | refine sp_ ?_ | exact ex0))
        refine call_s Tryz.call77 (q_put ps[j].2.1 1 (by omega) (by decide)) [] ?_
        (repeat (first | refine sp_ ?_ | exact ex0))
        refine call_s Tryz.call77 (q_put ((ps[j].2.2.length : Int) / 4) 2 (by omega) (by decide)) [] ?_
        (repeat (first | refine sp_ ?_ | exact ex0))
        refine next_s ⟨j + 1, hlt, by rw [ht, List.all_append, ha]; simp [hm]⟩ ⟨?_, by dsimp only; omega⟩
        simp (decide := true) (disch := omega) only [go_sem, ↓reduceIte, ↓put_at]
        rw [ht, List.flatMap_append]
        simp [packOne, Int.natCast_ediv]
    · (repeat (first | refine sp_ ?_ | exact ex0))
      (refine ret_s [] ?_; simp (decide := true) (disch := omega) only [go_sem, ↓reduceIte, ↓put_at])
      have e : ps.take j = ps := List.take_of_length_le (by omega)
      rw [e] at ha ⊢
      unfold packP
      rw [if_pos ha]
end Go.Proofs.YtjkmnjmmnjhacaaGreat

