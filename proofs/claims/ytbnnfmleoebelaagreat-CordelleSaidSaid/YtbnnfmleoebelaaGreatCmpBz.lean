/- Layer 12: the pieces of a bag; walked. -/
import Derived.Test.YtbnnfmleoebelaaGreatCmpAz
import Derived.Test.YtbnnfmleoebelaaGreatCmp9z
import Derived.Test.YtbnnfmleoebelaaGreatRQz
namespace Go.Proofs.YtbnnfmleoebelaaGreat
open Go.RowKit
set_option linter.unusedVariables false
set_option linter.unusedSimpArgs false

structure Bag12.Sound (B : Bag12) : Prop where
  reports : ∀ x ∈ B.reports, okR8 x
  names : ∀ x ∈ B.names, x.Ok
  byes : ∀ x ∈ B.byes, okY9 x
  apps : ∀ x ∈ B.apps, okA9 x
  nacks : ∀ x ∈ B.nacks, okN10 x
  lines : ∀ x ∈ B.lines, okR11 x
  ads : ∀ x ∈ B.ads, okS11 x
structure Bag12.Tiny (B : Bag12) : Prop where
  reports : B.reports.length ≤ 10000
  names : B.names.length ≤ 10000
  byes : B.byes.length ≤ 10000
  apps : B.apps.length ≤ 10000
  nacks : B.nacks.length ≤ 10000
  lines : B.lines.length ≤ 10000
  ads : B.ads.length ≤ 10000
set_option maxRecDepth 100000 in
set_option maxHeartbeats 16000000 in
theorem cmp_pieces (B : Bag12) (hs : B.Sound) (ht : B.Tiny) : Spec Tryz.prog 8 [.ca (.val (.agg (bagV B)))] [] (.ca (.own 67 3 ((gotB B).map pcEl))) [] := by
  obtain ⟨s1, s2, s3, s4, s5, s6, s7⟩ := hs
  obtain ⟨t1, t2, t3, t4, t5, t6, t7⟩ := ht
  obtain ⟨re, na, bt, ap, nk, li, ad⟩ := B
  dsimp only at s1 s2 s3 s4 s5 s6 s7 t1 t2 t3 t4 t5 t6 t7
  have l1 := each_le pieceR re
  have l3 := each_le byeP bt
  have l4 := each_le appP ap
  have l5 := each_le nackP nk
  have l6 := each_le linesP li
  have l7 := each_le adsP ad
  have cn := notes_names na (by unfold maxLen; omega) s2
  have c1 := each_R8 [] re s1 (by simp only [List.length_nil]; omega)
  unfold gotB
  dsimp only
  rw [List.nil_append] at c1
  obtain ⟨NM, hNM⟩ : ∃ NM, NM = if na ≠ [] ∧ namesP na ≠ noPc then [namesP na] else [] := ⟨_, rfl⟩
  rw [← hNM]
  have hNl : NM.length ≤ 1 := by rw [hNM]; split <;> simp
  simp only [List.map_append]
  have m1 : ((eachP pieceR re).map pcEl).length ≤ 10000 := by rw [List.length_map]; omega
  have mN : (NM.map pcEl).length ≤ 1 := by rw [List.length_map]; omega
  have m4 : ((eachP appP ap).map pcEl).length ≤ 10000 := by rw [List.length_map]; omega
  have m5 : ((eachP nackP nk).map pcEl).length ≤ 10000 := by rw [List.length_map]; omega
  have m6 : ((eachP linesP li).map pcEl).length ≤ 10000 := by rw [List.length_map]; omega
  have m7 : ((eachP adsP ad).map pcEl).length ≤ 10000 := by rw [List.length_map]; omega
  have c4 := each_A9 ((eachP pieceR re).map pcEl ++ NM.map pcEl) ap s4 (by rw [List.length_append]; omega)
  have c5 := each_N10 ((eachP pieceR re).map pcEl ++ NM.map pcEl ++ (eachP appP ap).map pcEl) nk s5 (by rw [List.length_append, List.length_append]; omega)
  have c6 := each_R11 ((eachP pieceR re).map pcEl ++ NM.map pcEl ++ (eachP appP ap).map pcEl ++ (eachP nackP nk).map pcEl) li s6 (by rw [List.length_append, List.length_append, List.length_append]; omega)
  have c7 := each_S11 ((eachP pieceR re).map pcEl ++ NM.map pcEl ++ (eachP appP ap).map pcEl ++ (eachP nackP nk).map pcEl ++ (eachP linesP li).map pcEl) ad s7 (by rw [List.length_append, List.length_append, List.length_append, List.length_append]; omega)
  have c8 := each_Y9 ((eachP pieceR re).map pcEl ++ NM.map pcEl ++ (eachP appP ap).map pcEl ++ (eachP nackP nk).map pcEl ++ (eachP linesP li).map pcEl ++ (eachP adsP ad).map pcEl) bt s3 (by rw [List.length_append, List.length_append, List.length_append, List.length_append, List.length_append]; omega)
  generalize (eachP pieceR re).map pcEl = M1 at *
  generalize (eachP appP ap).map pcEl = M4 at *
  generalize (eachP nackP nk).map pcEl = M5 at *
  generalize (eachP linesP li).map pcEl = M6 at *
  generalize (eachP adsP ad).map pcEl = M7 at *
  generalize (eachP byeP bt).map pcEl = M8 at *
  clear l1 l3 l4 l5 l6 l7 s1 s2 s3 s4 s5 s6 s7
  have hna : na = [] ↔ na.length = 0 := List.length_eq_zero_iff.symm
  generalize namesP na = p at *
  obtain ⟨pc, pk, pb⟩ := p
  have hcm := pp_ne pc 0 pk 0 pb []
  by_cases h0 : na.length = 0
  · obtain rfl : NM = [] := by rw [hNM, if_neg (fun h => h.1 (hna.2 h0))]
    simp only [List.map_nil, List.append_nil] at c4 c5 c6 c7 c8 ⊢
    refine spec_of Tryz.func8 rfl Tryz.ntmps8 Tryz.results8 ⟨by decide, by simp⟩ fun C hC => ?_
    (repeat' ((first | refine sp_ ?_ | exact ex0 | refine call_u Tryz.call19 (c1) [] ex1 ?_ | refine call_u Tryz.call20 (cn) [] ex1 ?_ | refine call_u Tryz.call25 (c4) [] ex1 ?_ | refine call_u Tryz.call24 (c5) [] ex1 ?_ | refine call_u Tryz.call23 (c6) [] ex1 ?_ | refine call_u Tryz.call22 (c7) [] ex1 ?_ | refine call_u Tryz.call21 (c8) [] ex1 ?_ | (refine ret_s [] ?_; simp (decide := true) (disch := omega) only [go_sem, ↓reduceIte, ↓put_at]))))
    trace_state
  · by_cases hp : (pc, pk, pb) = noPc
    · obtain rfl : NM = [] := by rw [hNM, if_neg (fun h => h.2 hp)]
      unfold noPc at hp
      simp only [Prod.mk.injEq] at hp
      rw [decide_eq_true hp] at hcm
      simp only [List.map_nil, List.append_nil] at c4 c5 c6 c7 c8 ⊢
      refine spec_of Tryz.func8 rfl Tryz.ntmps8 Tryz.results8 ⟨by decide, by simp⟩ fun C hC => ?_
      (repeat' ((first | refine sp_ ?_ | exact ex0 | refine call_u Tryz.call19 (c1) [] ex1 ?_ | refine call_u Tryz.call20 (cn) [] ex1 ?_ | (refine ret_s [] ?_; simp (decide := true) (disch := omega) only [go_sem, ↓reduceIte, ↓put_at]))))
      refine gcmpA_s _ _ _ (.inr rfl) (by simp (decide := true) (disch := omega) only [go_sem, ↓reduceIte, ↓put_at]) (by simp (decide := true) (disch := omega) only [go_sem, ↓reduceIte, ↓put_at]) (by simp (decide := true) (disch := omega) only [go_sem, ↓reduceIte, ↓put_at]) (by kernel_rfl) hcm ?_
      (repeat' ((first | refine sp_ ?_ | exact ex0 | refine call_u Tryz.call25 (c4) [] ex1 ?_ | refine call_u Tryz.call24 (c5) [] ex1 ?_ | refine call_u Tryz.call23 (c6) [] ex1 ?_ | refine call_u Tryz.call22 (c7) [] ex1 ?_ | refine call_u Tryz.call21 (c8) [] ex1 ?_ | (refine ret_s [] ?_; simp (decide := true) (disch := omega) only [go_sem, ↓reduceIte, ↓put_at]))))
    · obtain rfl : NM = [(pc, pk, pb)] := by rw [hNM, if_pos ⟨fun h => h0 (hna.1 h), hp⟩]
      unfold noPc at hp
      simp only [Prod.mk.injEq] at hp
      rw [decide_eq_false hp] at hcm
      simp only [List.map_cons, List.map_nil] at c4 c5 c6 c7 c8 ⊢
      refine spec_of Tryz.func8 rfl Tryz.ntmps8 Tryz.results8 ⟨by decide, by simp⟩ fun C hC => ?_
      (repeat' ((first | refine sp_ ?_ | exact ex0 | refine call_u Tryz.call19 (c1) [] ex1 ?_ | refine call_u Tryz.call20 (cn) [] ex1 ?_ | (refine ret_s [] ?_; simp (decide := true) (disch := omega) only [go_sem, ↓reduceIte, ↓put_at]))))
      refine gcmpA_s _ _ _ (.inr rfl) (by simp (decide := true) (disch := omega) only [go_sem, ↓reduceIte, ↓put_at]) (by simp (decide := true) (disch := omega) only [go_sem, ↓reduceIte, ↓put_at]) (by simp (decide := true) (disch := omega) only [go_sem, ↓reduceIte, ↓put_at]) (by kernel_rfl) hcm ?_
      (repeat' ((first | refine sp_ ?_ | exact ex0 | refine call_u Tryz.call25 (c4) [] ex1 ?_ | refine call_u Tryz.call24 (c5) [] ex1 ?_ | refine call_u Tryz.call23 (c6) [] ex1 ?_ | refine call_u Tryz.call22 (c7) [] ex1 ?_ | refine call_u Tryz.call21 (c8) [] ex1 ?_ | (refine ret_s [] ?_; simp (decide := true) (disch := omega) only [go_sem, ↓reduceIte, ↓put_at]))))
end Go.Proofs.YtbnnfmleoebelaaGreat

