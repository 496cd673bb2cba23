/- Layer 12: isSum, Pack, Parse; the document's Parse and Split; walked. -/
import Derived.Test.YtbnnfmleoebelaaGreatCmp5z
namespace Go.Proofs.YtbnnfmleoebelaaGreat
open Go.RowKit
set_option linter.unusedVariables false
set_option linter.unusedSimpArgs false

theorem four_of {α : Type} (l : List α) (h : ¬ l.length < 4) : ∃ a b c d r, l = a :: b :: c :: d :: r := by
  match l, h with
  | a :: b :: c :: d :: r, _ => exact ⟨a, b, c, d, r, rfl⟩
  | [], h => simp at h
  | [_], h => simp at h
  | [_, _], h => simp at h
  | [_, _, _], h => simp at h
theorem appP_sum (d : List UInt8) (hd : d.length = 4) : appP ⟨0, 0, csum, d⟩ = sumP d := by
  rw [appP_yes ⟨0, 0, csum, d⟩ ⟨by dsimp only; omega, by dsimp only; omega, rfl, by dsimp only; omega, by dsimp only; omega⟩]
  have : puts' 4 [0] = [0, 0, 0, 0] := by decide
  dsimp only
  rw [this]
  rfl
theorem sum_raw (x1 x2 x3 x4 : UInt8) : rawA (sumP [x1, x2, x3, x4]) = ⟨0, 0, csum, [x1, x2, x3, x4]⟩ := by
  rfl
theorem sum_app (p : Pc) : sumOk p = decide (appE p = 0 ∧ (appR p).name = csum ∧ (appR p).sub = 0 ∧ (appR p).src = 0 ∧ (appR p).data.length = 4) := by
  have hiff : sumOk p = true ↔ (appE p = 0 ∧ (appR p).name = csum ∧ (appR p).sub = 0 ∧ (appR p).src = 0 ∧ (appR p).data.length = 4) := by
    rw [sumOk_iff]
    constructor
    · rintro ⟨d, hd, rfl⟩
      obtain ⟨x1, x2, x3, x4, r, rfl⟩ := four_of d (by omega)
      have hr : r = [] := List.length_eq_zero_iff.1 (by simp only [List.length_cons] at hd; omega)
      subst hr
      have hE : appE (sumP [x1, x2, x3, x4]) = 0 := by
        unfold appE justE
        rw [sum_raw]
        rw [appP_sum _ rfl]
        simp [sumP]
      refine ⟨hE, ?_⟩
      unfold appR
      rw [if_pos hE, sum_raw]
      exact ⟨rfl, rfl, rfl, rfl⟩
    · rintro ⟨h1, h2, h3, h4, h5⟩
      have e : appP (appR p) = p := by
        unfold appR
        rw [if_pos h1]
        exact (just_kind h1).2
      generalize appR p = a at *
      obtain ⟨a1, a2, a3, a4⟩ := a
      dsimp only at h2 h3 h4 h5
      subst h2 h3 h4
      refine ⟨a4, h5, ?_⟩
      rw [← e, appP_sum a4 h5]
  cases h : sumOk p with
  | true => exact (decide_eq_true (hiff.1 h)).symm
  | false => exact (decide_eq_false (fun h2 => by rw [hiff.2 h2] at h; cases h)).symm
set_option maxRecDepth 100000 in
set_option maxHeartbeats 8000000 in
theorem cmp_issum (p : Pc) (hp : p.2.2.length ≤ maxLen) : Spec Tryz.prog 30 [.ca (.val (pcV p))] [] (.ca (.val (vb (sumOk p)))) [] := by
  have c := notes_toapp p hp
  rw [sum_app]
  unfold csum
  generalize appE p = E at *
  generalize appR p = a at *
  obtain ⟨a1, a2, a3, a4⟩ := a
  dsimp only
  by_cases h1 : E = 0
  · by_cases h2 : a3 = [99, 115, 117, 109]
    · by_cases h3 : a1 = 0
      · by_cases h4 : a2 = 0
        · by_cases h5 : a4.length = 4
          · rw [decide_eq_true ⟨h1, h2, h3, h4, h5⟩]
            subst h2
            refine spec_of Tryz.func30 rfl Tryz.ntmps30 Tryz.results30 ⟨by decide, by simp⟩ fun C hC => ?_
            (repeat' ((first | refine sp_ ?_ | exact ex0 | refine call_u Tryz.call47 (c) [] ex1 ?_ | (refine ret_s [] ?_; simp (decide := true) (disch := omega) only [go_sem, ↓reduceIte, ↓put_at]))))
          · rw [decide_eq_false (fun h => h5 h.2.2.2.2)]
            subst h2
            refine spec_of Tryz.func30 rfl Tryz.ntmps30 Tryz.results30 ⟨by decide, by simp⟩ fun C hC => ?_
            (repeat' ((first | refine sp_ ?_ | exact ex0 | refine call_u Tryz.call47 (c) [] ex1 ?_ | (refine ret_s [] ?_; simp (decide := true) (disch := omega) only [go_sem, ↓reduceIte, ↓put_at]))))
        · rw [decide_eq_false (fun h => h4 h.2.2.2.1)]
          subst h2
          refine spec_of Tryz.func30 rfl Tryz.ntmps30 Tryz.results30 ⟨by decide, by simp⟩ fun C hC => ?_
          (repeat' ((first | refine sp_ ?_ | exact ex0 | refine call_u Tryz.call47 (c) [] ex1 ?_ | (refine ret_s [] ?_; simp (decide := true) (disch := omega) only [go_sem, ↓reduceIte, ↓put_at]))))
      · rw [decide_eq_false (fun h => h3 h.2.2.1)]
        subst h2
        refine spec_of Tryz.func30 rfl Tryz.ntmps30 Tryz.results30 ⟨by decide, by simp⟩ fun C hC => ?_
        (repeat' ((first | refine sp_ ?_ | exact ex0 | refine call_u Tryz.call47 (c) [] ex1 ?_ | (refine ret_s [] ?_; simp (decide := true) (disch := omega) only [go_sem, ↓reduceIte, ↓put_at]))))
    · rw [decide_eq_false (fun h => h2 h.2.1)]
      have hne : (a3 == [99, 115, 117, 109]) = false := by simpa using h2
      refine spec_of Tryz.func30 rfl Tryz.ntmps30 Tryz.results30 ⟨by decide, by simp⟩ fun C hC => ?_
      (repeat' ((first | refine sp_ ?_ | exact ex0 | refine call_u Tryz.call47 (c) [] ex1 ?_ | (refine ret_s [] ?_; simp (decide := true) (disch := omega) only [go_sem, ↓reduceIte, ↓put_at]))))
      simp only [hne]
      (repeat' ((first | refine sp_ ?_ | exact ex0 | (refine ret_s [] ?_; simp (decide := true) (disch := omega) only [go_sem, ↓reduceIte, ↓put_at]))))
  · rw [decide_eq_false (fun h => h1 h.1)]
    refine spec_of Tryz.func30 rfl Tryz.ntmps30 Tryz.results30 ⟨by decide, by simp⟩ fun C hC => ?_
    (repeat' ((first | refine sp_ ?_ | exact ex0 | refine call_u Tryz.call47 (c) [] ex1 ?_ | (refine ret_s [] ?_; simp (decide := true) (disch := omega) only [go_sem, ↓reduceIte, ↓put_at]))))
set_option maxRecDepth 100000 in
set_option maxHeartbeats 8000000 in
theorem cmp_pack (ps : List Pc) (h : Pcs ps) : Spec Tryz.prog 9 [.ca (.val (.lst 3 (ps.map pcEl)))] [] (.ca (.val (vs (packC ps)))) [] := by
  have c1 := cmp_check ps h
  have c2 := piece_pack ps h.max (by have := h.len; omega)
  have hple := packP_le ps h.body
  have hl := h.len
  unfold packC
  by_cases h0 : cmpE ps = 0
  · rw [if_pos h0]
    rw [h0] at c1
    have c3 := notes_app ⟨0, 0, csum, [0, 0, 0, 0]⟩ ⟨by decide, by decide, by decide⟩
    have c4 := piece_pack [sumP [0, 0, 0, 0]] (fun p hp => by simp only [List.mem_cons, List.not_mem_nil, or_false] at hp; subst hp; decide) (by decide)
    have e4 : packP [sumP [0, 0, 0, 0]] = sumH ++ [0, 0, 0, 0] := by
      unfold packP
      rw [if_pos (by simp [sumP_may])]
      simp only [List.flatMap_cons, List.flatMap_nil, List.append_nil]
      exact packOne_sum _ rfl
    rw [e4] at c4
    have e3 : appP ⟨0, 0, csum, [0, 0, 0, 0]⟩ = sumP [0, 0, 0, 0] := appP_sum _ rfl
    have hS : sumH.length = 12 := rfl
    rw [e3] at c3
    have c5 := crc_seal (packP ps ++ (sumH ++ [0, 0, 0, 0])) (((packP ps ++ (sumH ++ [0, 0, 0, 0])).length : Int) - 4) (by rw [List.length_append]; simp [sumH]; omega)
    have e5 := seal_end (packP ps ++ sumH) [0, 0, 0, 0] rfl
    rw [List.append_assoc] at e5
    rw [e5] at c5
    have e6 : ((packP ps ++ (sumH ++ [0, 0, 0, 0])).length : Int) = (packP ps).length + 16 := by rw [List.length_append]; simp [sumH]
    rw [e6] at c5
    generalize sealB (packP ps ++ sumH) [] = T at *
    generalize packP ps = P at *
    clear e4 e3 e5
    refine spec_of Tryz.func9 rfl Tryz.ntmps9 Tryz.results9 ⟨by decide, by simp⟩ fun C hC => ?_
    (repeat' ((first | refine sp_ ?_ | exact ex0 | refine call_u Tryz.call4 (c1) [] ex1 ?_ | refine call_u Tryz.call17 (c2) [] ex1 ?_ | refine call_u Tryz.call26 (c3) [] ex1 ?_ | refine call_u Tryz.call17 (c4) [] ex1 ?_ | refine call_u Tryz.call27 (c5) [] ex1 ?_ | (refine ret_s [] ?_; simp (decide := true) (disch := omega) only [go_sem, ↓reduceIte, ↓put_at]))))
  · rw [if_neg h0]
    generalize cmpE ps = E at *
    refine spec_of Tryz.func9 rfl Tryz.ntmps9 Tryz.results9 ⟨by decide, by simp⟩ fun C hC => ?_
    (repeat' ((first | refine sp_ ?_ | exact ex0 | refine call_u Tryz.call4 (c1) [] ex1 ?_ | (refine ret_s [] ?_; simp (decide := true) (disch := omega) only [go_sem, ↓reduceIte, ↓put_at]))))
theorem splitP_ok (s : List UInt8) (hs : s.length ≤ 1500) : Pcs (splitP s).2 := by
  by_cases h : (splitP s).1 = 0
  · obtain ⟨_, h2⟩ := split_all s h
    have key : ∀ l : List Pc, l.length ≤ (l.flatMap packOne).length ∧ ∀ p ∈ l, p.2.2.length ≤ (l.flatMap packOne).length := by
      intro l
      induction l with
      | nil => exact ⟨by simp, fun p hp => by simp at hp⟩
      | cons q l ih =>
        rw [List.flatMap_cons, List.length_append, packOne_length, List.length_cons]
        refine ⟨by omega, fun p hp => ?_⟩
        rcases List.mem_cons.1 hp with rfl | hp
        · omega
        · have := ih.2 p hp
          omega
    have hk := key (splitP s).2
    rw [h2] at hk
    exact ⟨by omega, fun p hp => by have := hk.2 p hp; omega⟩
  · have := run_err s.length s [] h
    have e : (splitP s).2 = [] := this
    rw [e]
    exact ⟨by simp, fun p hp => by simp at hp⟩
theorem Pcs.sub {ps qs : List Pc} (h : Pcs ps) (hs : qs.length ≤ ps.length) (hm : ∀ p ∈ qs, p ∈ ps) : Pcs qs := ⟨Nat.le_trans hs h.len, fun p hp => h.body p (hm p hp)⟩
set_option maxRecDepth 100000 in
set_option maxHeartbeats 8000000 in
theorem cmp_parse (s : List UInt8) (hs : s.length ≤ 1000000) : Spec Tryz.prog 10 [.ca (.val (vs s))] [] (.ca (.val (.tup [.lst 3 ((parseC s).2.map pcEl), vi (parseC s).1]))) [] := by
  have c1 := crc_right s (by unfold maxLen; omega)
  have c2 := piece_split s (by omega)
  obtain ⟨⟨E, PS⟩, hE⟩ : ∃ r, r = parseC s := ⟨_, rfl⟩
  rw [← hE]
  dsimp only
  unfold parseC at hE
  by_cases h1 : 1500 < s.length
  · rw [if_pos h1] at hE
    simp only [Prod.mk.injEq] at hE
    obtain ⟨rfl, rfl⟩ := hE
    refine spec_of Tryz.func10 rfl Tryz.ntmps10 Tryz.results10 ⟨by decide, by simp⟩ fun C hC => ?_
    (repeat' ((first | refine sp_ ?_ | exact ex0 | (refine ret_s [] ?_; simp (decide := true) (disch := omega) only [go_sem, ↓reduceIte, ↓put_at]))))
  rw [if_neg h1] at hE
  by_cases h2 : rem s ≠ 0
  · rw [if_pos h2] at hE
    simp only [Prod.mk.injEq] at hE
    obtain ⟨rfl, rfl⟩ := hE
    rw [decide_eq_false h2] at c1
    refine spec_of Tryz.func10 rfl Tryz.ntmps10 Tryz.results10 ⟨by decide, by simp⟩ fun C hC => ?_
    (repeat' ((first | refine sp_ ?_ | exact ex0 | refine call_u Tryz.call28 (c1) [] ex1 ?_ | (refine ret_s [] ?_; simp (decide := true) (disch := omega) only [go_sem, ↓reduceIte, ↓put_at]))))
  rw [if_neg h2] at hE
  rw [decide_eq_true (Classical.not_not.1 h2)] at c1
  have hpc := splitP_ok s (by omega)
  generalize splitP s = r at *
  obtain ⟨e, L⟩ := r
  dsimp only at hE c2 hpc
  by_cases h3 : e ≠ 0
  · rw [if_pos h3] at hE
    simp only [Prod.mk.injEq] at hE
    obtain ⟨rfl, rfl⟩ := hE
    refine spec_of Tryz.func10 rfl Tryz.ntmps10 Tryz.results10 ⟨by decide, by simp⟩ fun C hC => ?_
    (repeat' ((first | refine sp_ ?_ | exact ex0 | refine call_u Tryz.call28 (c1) [] ex1 ?_ | refine call_u Tryz.call29 (c2) [] ex1 ?_ | (refine ret_s [] ?_; simp (decide := true) (disch := omega) only [go_sem, ↓reduceIte, ↓put_at]))))
  rw [if_neg h3] at hE
  have h3' : e = 0 := Classical.not_not.1 h3
  subst h3'
  by_cases h4 : L = []
  · rw [if_pos h4] at hE
    simp only [Prod.mk.injEq] at hE
    obtain ⟨rfl, rfl⟩ := hE
    subst h4
    simp only [List.map_nil] at c2
    refine spec_of Tryz.func10 rfl Tryz.ntmps10 Tryz.results10 ⟨by decide, by simp⟩ fun C hC => ?_
    (repeat' ((first | refine sp_ ?_ | exact ex0 | refine call_u Tryz.call28 (c1) [] ex1 ?_ | refine call_u Tryz.call29 (c2) [] ex1 ?_ | (refine ret_s [] ?_; simp (decide := true) (disch := omega) only [go_sem, ↓reduceIte, ↓put_at]))))
  rw [if_neg h4] at hE
  have hL := last_snoc L h4
  generalize hQ : L.dropLast = Q at *
  generalize hq : L.getD (L.length - 1) (0, 0, []) = q at *
  have hQp : Pcs Q := hpc.sub (by rw [hL]; simp) (fun p hp => by rw [hL]; simp [hp])
  have hqp := hpc.max q (by rw [hL]; simp)
  have c3 := cmp_issum q hqp
  have c4 := cmp_check Q hQp
  clear hQ hq hpc h4
  subst hL
  have hge : ((Q ++ [q]).map pcEl).getD Q.length [] = [vi q.1, vi q.2.1, vs q.2.2] := by simp [pcEl]
  have htk : ((Q ++ [q]).map pcEl).take Q.length = Q.map pcEl := by simp
  have hln : ((Q ++ [q]).map pcEl).length = Q.length + 1 := by simp
  generalize hM : (Q ++ [q]).map pcEl = M at *
  have hQl := hQp.len
  have hix : ((M.length : Int) - 1).toNat = Q.length := by omega
  by_cases h5 : sumOk q = false
  · rw [if_pos h5] at hE
    simp only [Prod.mk.injEq] at hE
    obtain ⟨rfl, rfl⟩ := hE
    rw [h5] at c3
    refine spec_of Tryz.func10 rfl Tryz.ntmps10 Tryz.results10 ⟨by decide, by simp⟩ fun C hC => ?_
    (repeat' ((first | refine sp_ ?_ | exact ex0 | refine call_u Tryz.call28 (c1) [] ex1 ?_ | refine call_u Tryz.call29 (c2) [] ex1 ?_ | (refine ret_s [] ?_; simp (decide := true) (disch := omega) only [go_sem, ↓reduceIte, ↓put_at]))))
    simp only [hix, hge, List.take_succ_cons, List.take_zero, List.take_nil, List.length_cons, List.length_nil]
    refine ⟨by omega, ?_⟩
    (repeat' ((first | refine sp_ ?_ | exact ex0 | refine call_u Tryz.call30 (c3) [] ex1 ?_ | (refine ret_s [] ?_; simp (decide := true) (disch := omega) only [go_sem, ↓reduceIte, ↓put_at]))))
  · rw [if_neg h5] at hE
    have h5' : sumOk q = true := by simpa using h5
    rw [h5'] at c3
    by_cases h6 : cmpE Q ≠ 0
    · rw [if_pos h6] at hE
      simp only [Prod.mk.injEq] at hE
      obtain ⟨rfl, rfl⟩ := hE
      generalize cmpE Q = e at *
      refine spec_of Tryz.func10 rfl Tryz.ntmps10 Tryz.results10 ⟨by decide, by simp⟩ fun C hC => ?_
      (repeat' ((first | refine sp_ ?_ | exact ex0 | refine call_u Tryz.call28 (c1) [] ex1 ?_ | refine call_u Tryz.call29 (c2) [] ex1 ?_ | (refine ret_s [] ?_; simp (decide := true) (disch := omega) only [go_sem, ↓reduceIte, ↓put_at]))))
      simp only [hix, hge, List.take_succ_cons, List.take_zero, List.take_nil, List.length_cons, List.length_nil]
      refine ⟨by omega, ?_⟩
      (repeat' ((first | refine sp_ ?_ | exact ex0 | refine call_u Tryz.call30 (c3) [] ex1 ?_ | (refine ret_s [] ?_; simp (decide := true) (disch := omega) only [go_sem, ↓reduceIte, ↓put_at]))))
      simp only [hix, htk]
      refine ⟨⟨by omega, by omega, fun q h => h.elim⟩, ?_⟩
      (repeat' ((first | refine sp_ ?_ | exact ex0 | refine call_u Tryz.call4 (c4) [] ex1 ?_ | (refine ret_s [] ?_; simp (decide := true) (disch := omega) only [go_sem, ↓reduceIte, ↓put_at]))))
    · rw [if_neg h6] at hE
      simp only [Prod.mk.injEq] at hE
      obtain ⟨rfl, rfl⟩ := hE
      rw [Classical.not_not.1 h6] at c4
      refine spec_of Tryz.func10 rfl Tryz.ntmps10 Tryz.results10 ⟨by decide, by simp⟩ fun C hC => ?_
      (repeat' ((first | refine sp_ ?_ | exact ex0 | refine call_u Tryz.call28 (c1) [] ex1 ?_ | refine call_u Tryz.call29 (c2) [] ex1 ?_ | (refine ret_s [] ?_; simp (decide := true) (disch := omega) only [go_sem, ↓reduceIte, ↓put_at]))))
      simp only [hix, hge, List.take_succ_cons, List.take_zero, List.take_nil, List.length_cons, List.length_nil]
      refine ⟨by omega, ?_⟩
      (repeat' ((first | refine sp_ ?_ | exact ex0 | refine call_u Tryz.call30 (c3) [] ex1 ?_ | (refine ret_s [] ?_; simp (decide := true) (disch := omega) only [go_sem, ↓reduceIte, ↓put_at]))))
      simp only [hix, htk]
      refine ⟨⟨by omega, by omega, fun q h => h.elim⟩, ?_⟩
      (repeat' ((first | refine sp_ ?_ | exact ex0 | refine call_u Tryz.call4 (c4) [] ex1 ?_ | (refine ret_s [] ?_; simp (decide := true) (disch := omega) only [go_sem, ↓reduceIte, ↓put_at]))))
      refine ⟨⟨by omega, by omega, fun q h => by omega⟩, ?_⟩
      simp only [hix, htk]
      (repeat' ((first | refine sp_ ?_ | exact ex0 | (refine ret_s [] ?_; simp (decide := true) (disch := omega) only [go_sem, ↓reduceIte, ↓put_at]))))
end Go.Proofs.YtbnnfmleoebelaaGreat

