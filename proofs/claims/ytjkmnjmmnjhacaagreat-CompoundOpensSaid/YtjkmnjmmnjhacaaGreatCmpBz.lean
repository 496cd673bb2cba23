/- Layer 12: the pieces of a bag; walked. -/
import Derived.Test.YtjkmnjmmnjhacaaGreatCmpAz
import Derived.Test.YtjkmnjmmnjhacaaGreatCmp9z
import Derived.Test.YtjkmnjmmnjhacaaGreatRQz
import Derived.Test.YtjkmnjmmnjhacaaGreatCompoundOpensXz
namespace Go.Proofs.YtjkmnjmmnjhacaaGreat
open Go.RowKit
set_option linter.unusedVariables false
set_option linter.unusedSimpArgs false

structure Bag12.Sound (B : Bag12) : Prop where
  reports : ∀ x ∈ B.reports, okR8 x
  names : ∀ x ∈ B.names, x.Ok
  byes : ∀ x ∈ B.byes, okY9 x
  apps : ∀ x ∈ B.apps, okA9 x
  nacks : ∀ x ∈ B.nacks, okN10 x
  lines : ∀ x ∈ B.lines, okR11 x
  ads : ∀ x ∈ B.ads, okS11 x
structure Bag12.Tiny (B : Bag12) : Prop where
  reports : B.reports.length ≤ 10000
  names : B.names.length ≤ 10000
  byes : B.byes.length ≤ 10000
  apps : B.apps.length ≤ 10000
  nacks : B.nacks.length ≤ 10000
  lines : B.lines.length ≤ 10000
  ads : B.ads.length ≤ 10000
theorem app_sound (p : Pc) : (appR p).Ok := by
  by_cases h : appE p = 0
  · obtain ⟨hk, he⟩ := just_kind h
    have hs := appR_ok p
    unfold appR at hs ⊢
    rw [if_pos h] at hs ⊢
    by_cases hm : mayA (rawA p) = true
    · unfold mayA at hm
      rw [decide_eq_true_eq] at hm
      exact ⟨hs, by unfold maxLen; omega, by unfold maxLen; omega⟩
    · unfold appP at he
      rw [if_neg hm] at he
      rw [← he] at hk
      exact absurd hk (by decide)
  · unfold appR
    rw [if_neg h]
    exact ⟨by decide, by decide, by decide⟩
theorem get2_lt (l : List UInt8) (a : Nat) : getN ((l.drop a).take 2) < 65536 := by
  have h := getN_lt ((l.drop a).take 2)
  have h2 : ((l.drop a).take 2).length ≤ 2 := by rw [List.length_take]; omega
  exact Nat.lt_of_lt_of_le h (Nat.le_trans (Nat.pow_le_pow_right (by omega) h2) (by decide))
theorem nack_sound (p : Pc) : okN10 (nackR p) := by
  unfold nackR
  by_cases h : nackE p = 0
  · rw [if_pos h]
    have h1 := get4_lt p.2.2 0
    have h2 := get4_lt p.2.2 4
    rw [List.drop_zero] at h1
    have h3 : p.2.2.length ≤ 1208 := by
      unfold nackE at h
      split at h
      · cases h
      split at h
      · cases h
      split at h
      · cases h
      · omega
    refine ⟨⟨by dsimp only; omega, by dsimp only; omega, fun x hx => ?_⟩, by dsimp only; rw [prs_len]; unfold maxLen; omega⟩
    dsimp only [prs] at hx
    obtain ⟨i, _, rfl⟩ := List.mem_map.1 hx
    have k1 := get2_lt p.2.2 (8 + 4 * i)
    have k2 := get2_lt p.2.2 (8 + 4 * i + 2)
    dsimp only
    omega
  · rw [if_neg h]
    exact ⟨⟨by decide, by decide, fun x hx => by simp at hx⟩, by decide⟩
theorem lines_sound (p : Pc) : okR11 (linesR p) := by
  unfold linesR
  by_cases h : linesE p = 0
  · rw [if_pos h]
    unfold linesRaw
    refine ⟨vl_lt 4 4294967296 _ (by decide), fun y hy => ?_, ?_⟩
    · unfold rawL11 at hy
      obtain ⟨i, _, rfl⟩ := List.mem_map.1 hy
      exact rdLn_ok _
    · dsimp only
      unfold rawL11 rawN11 maxLen
      rw [List.length_map, List.length_range]
      omega
  · rw [if_neg h]
    exact ⟨by decide, fun y hy => by simp at hy, by decide⟩
theorem ads_sound (p : Pc) : okS11 (adsR p) := by
  unfold adsR
  by_cases h : adsE p = 0
  · rw [if_pos h]
    unfold adsRaw
    refine ⟨vl_lt 4 4294967296 _ (by decide), ?_⟩
    dsimp only
    unfold rawL11 rawN11 maxLen
    rw [List.length_map, List.length_range]
    omega
  · rw [if_neg h]
    exact ⟨by decide, by decide⟩
theorem mem_if {α : Type} {c : Prop} [Decidable c] {x y : α} (h : x ∈ (if c then [y] else [])) : x = y := by
  split at h
  · simpa using h
  · simp at h
theorem bag_sound (ps : List Pc) (h : Pcs ps) : (bagOf ps).Sound := by
  rw [bag_map]
  refine ⟨fun x hx => ?_, fun x hx => ?_, fun x hx => ?_, fun x hx => ?_, fun x hx => ?_, fun x hx => ?_, fun x hx => ?_⟩
  · obtain ⟨p, hp, hx⟩ := List.mem_flatMap.1 hx
    obtain rfl := mem_if hx
    exact ⟨ofR_ok p, by have := ofR_len p; omega⟩
  · obtain ⟨p, hp, hx⟩ := List.mem_flatMap.1 hx
    split at hx
    · exact (namesR_ok p (h.max p hp)).1 x hx
    · simp at hx
  · obtain ⟨p, hp, hx⟩ := List.mem_flatMap.1 hx
    obtain rfl := mem_if hx
    exact (byeR_ok p (h.max p hp)).1
  · obtain ⟨p, hp, hx⟩ := List.mem_flatMap.1 hx
    obtain rfl := mem_if hx
    exact app_sound p
  · obtain ⟨p, hp, hx⟩ := List.mem_flatMap.1 hx
    obtain rfl := mem_if hx
    exact nack_sound p
  · obtain ⟨p, hp, hx⟩ := List.mem_flatMap.1 hx
    obtain rfl := mem_if hx
    exact lines_sound p
  · obtain ⟨p, hp, hx⟩ := List.mem_flatMap.1 hx
    obtain rfl := mem_if hx
    exact ads_sound p
theorem bag_tiny (ps : List Pc) (h : ps.length ≤ 300) : (bagOf ps).Tiny := by
  rw [bag_map]
  have k : ∀ {α : Type} (c : Pc → Prop) [DecidablePred c] (g : Pc → α), (ps.flatMap fun p => if c p then [g p] else []).length ≤ 10000 := fun c _ g => by
    have := flat_le (fun p => if c p then [g p] else []) 32 (fun p => by (try dsimp only); split <;> simp) ps
    omega
  refine ⟨k _ _, ?_, k _ _, k (fun p => sayP p = 4 ∧ (appR p).name ≠ csum) _, k _ _, k _ _, k _ _⟩
  have := flat_le (fun p => if sayP p = 2 then namesR p else []) 32 (fun p => by
    have := namesR32 p
    (try dsimp only); split
    · exact this
    · simp) ps
  dsimp only
  omega
set_option maxRecDepth 100000 in
set_option maxHeartbeats 16000000 in
theorem cmp_pieces (B : Bag12) (hs : B.Sound) (ht : B.Tiny) : Spec Tryz.prog 24 [.ca (.val (.agg (bagV B)))] [] (.ca (.own 45 3 ((gotB B).map pcEl))) [] := by
  obtain ⟨s1, s2, s3, s4, s5, s6, s7⟩ := hs
  obtain ⟨t1, t2, t3, t4, t5, t6, t7⟩ := ht
  obtain ⟨re, na, bt, ap, nk, li, ad⟩ := B
  dsimp only at s1 s2 s3 s4 s5 s6 s7 t1 t2 t3 t4 t5 t6 t7
  have l1 := each_le pieceR re
  have l3 := each_le byeP bt
  have l4 := each_le appP ap
  have l5 := each_le nackP nk
  have l6 := each_le linesP li
  have l7 := each_le adsP ad
  have cn := notes_names na (by unfold maxLen; omega) s2
  have c1 := each_R8 [] re s1 (by simp only [List.length_nil]; omega)
  unfold gotB
  dsimp only
  rw [List.nil_append] at c1
  obtain ⟨NM, hNM⟩ : ∃ NM, NM = if na ≠ [] ∧ namesP na ≠ noPc then [namesP na] else [] := ⟨_, rfl⟩
  rw [← hNM]
  have hNl : NM.length ≤ 1 := by rw [hNM]; split <;> simp
  simp only [List.map_append]
  have m1 : ((eachP pieceR re).map pcEl).length ≤ 10000 := by rw [List.length_map]; omega
  have mN : (NM.map pcEl).length ≤ 1 := by rw [List.length_map]; omega
  have m4 : ((eachP appP ap).map pcEl).length ≤ 10000 := by rw [List.length_map]; omega
  have m5 : ((eachP nackP nk).map pcEl).length ≤ 10000 := by rw [List.length_map]; omega
  have m6 : ((eachP linesP li).map pcEl).length ≤ 10000 := by rw [List.length_map]; omega
  have m7 : ((eachP adsP ad).map pcEl).length ≤ 10000 := by rw [List.length_map]; omega
  have c4 := each_A9 ((eachP pieceR re).map pcEl ++ NM.map pcEl) ap s4 (by rw [List.length_append]; omega)
  have c5 := each_N10 ((eachP pieceR re).map pcEl ++ NM.map pcEl ++ (eachP appP ap).map pcEl) nk s5 (by rw [List.length_append, List.length_append]; omega)
  have c6 := each_R11 ((eachP pieceR re).map pcEl ++ NM.map pcEl ++ (eachP appP ap).map pcEl ++ (eachP nackP nk).map pcEl) li s6 (by rw [List.length_append, List.length_append, List.length_append]; omega)
  have c7 := each_S11 ((eachP pieceR re).map pcEl ++ NM.map pcEl ++ (eachP appP ap).map pcEl ++ (eachP nackP nk).map pcEl ++ (eachP linesP li).map pcEl) ad s7 (by rw [List.length_append, List.length_append, List.length_append, List.length_append]; omega)
  have c8 := each_Y9 ((eachP pieceR re).map pcEl ++ NM.map pcEl ++ (eachP appP ap).map pcEl ++ (eachP nackP nk).map pcEl ++ (eachP linesP li).map pcEl ++ (eachP adsP ad).map pcEl) bt s3 (by rw [List.length_append, List.length_append, List.length_append, List.length_append, List.length_append]; omega)
  generalize (eachP pieceR re).map pcEl = M1 at *
  generalize (eachP appP ap).map pcEl = M4 at *
  generalize (eachP nackP nk).map pcEl = M5 at *
  generalize (eachP linesP li).map pcEl = M6 at *
  generalize (eachP adsP ad).map pcEl = M7 at *
  generalize (eachP byeP bt).map pcEl = M8 at *
  clear l1 l3 l4 l5 l6 l7 s1 s2 s3 s4 s5 s6 s7
  have hna : na = [] ↔ na.length = 0 := List.length_eq_zero_iff.symm
  generalize namesP na = p at *
  obtain ⟨pc, pk, pb⟩ := p
  have hcm := pp_ne pc 0 pk 0 pb []
  by_cases h0 : na.length = 0
  · obtain rfl : NM = [] := by rw [hNM, if_neg (fun h => h.1 (hna.2 h0))]
    simp only [List.map_nil, List.append_nil] at c4 c5 c6 c7 c8 ⊢
    refine spec_of Tryz.func24 rfl Tryz.ntmps24 Tryz.results24 ⟨by decide, by simp⟩ fun C hC => ?_
    (repeat' ((first | refine sp_ ?_ | exact ex0 | refine call_u Tryz.call55 (c1) [] ex1 ?_ | refine call_u Tryz.call31 (cn) [] ex1 ?_ | refine call_u Tryz.call60 (c4) [] ex1 ?_ | refine call_u Tryz.call59 (c5) [] ex1 ?_ | refine call_u Tryz.call58 (c6) [] ex1 ?_ | refine call_u Tryz.call57 (c7) [] ex1 ?_ | refine call_u Tryz.call56 (c8) [] ex1 ?_ | (refine ret_s [] ?_; simp (decide := true) (disch := omega) only [go_sem, ↓reduceIte, ↓put_at]))))
    trace_state
  · by_cases hp : (pc, pk, pb) = noPc
    · obtain rfl : NM = [] := by rw [hNM, if_neg (fun h => h.2 hp)]
      unfold noPc at hp
      simp only [Prod.mk.injEq] at hp
      rw [decide_eq_true hp] at hcm
      simp only [List.map_nil, List.append_nil] at c4 c5 c6 c7 c8 ⊢
      refine spec_of Tryz.func24 rfl Tryz.ntmps24 Tryz.results24 ⟨by decide, by simp⟩ fun C hC => ?_
      (repeat' ((first | refine sp_ ?_ | exact ex0 | refine call_u Tryz.call55 (c1) [] ex1 ?_ | refine call_u Tryz.call31 (cn) [] ex1 ?_ | (refine ret_s [] ?_; simp (decide := true) (disch := omega) only [go_sem, ↓reduceIte, ↓put_at]))))
      refine gcmpA_s _ _ _ (.inr rfl) (by simp (decide := true) (disch := omega) only [go_sem, ↓reduceIte, ↓put_at]) (by simp (decide := true) (disch := omega) only [go_sem, ↓reduceIte, ↓put_at]) (by simp (decide := true) (disch := omega) only [go_sem, ↓reduceIte, ↓put_at]) (by kernel_rfl) hcm ?_
      (repeat' ((first | refine sp_ ?_ | exact ex0 | refine call_u Tryz.call60 (c4) [] ex1 ?_ | refine call_u Tryz.call59 (c5) [] ex1 ?_ | refine call_u Tryz.call58 (c6) [] ex1 ?_ | refine call_u Tryz.call57 (c7) [] ex1 ?_ | refine call_u Tryz.call56 (c8) [] ex1 ?_ | (refine ret_s [] ?_; simp (decide := true) (disch := omega) only [go_sem, ↓reduceIte, ↓put_at]))))
    · obtain rfl : NM = [(pc, pk, pb)] := by rw [hNM, if_pos ⟨fun h => h0 (hna.1 h), hp⟩]
      unfold noPc at hp
      simp only [Prod.mk.injEq] at hp
      rw [decide_eq_false hp] at hcm
      simp only [List.map_cons, List.map_nil] at c4 c5 c6 c7 c8 ⊢
      refine spec_of Tryz.func24 rfl Tryz.ntmps24 Tryz.results24 ⟨by decide, by simp⟩ fun C hC => ?_
      (repeat' ((first | refine sp_ ?_ | exact ex0 | refine call_u Tryz.call55 (c1) [] ex1 ?_ | refine call_u Tryz.call31 (cn) [] ex1 ?_ | (refine ret_s [] ?_; simp (decide := true) (disch := omega) only [go_sem, ↓reduceIte, ↓put_at]))))
      refine gcmpA_s _ _ _ (.inr rfl) (by simp (decide := true) (disch := omega) only [go_sem, ↓reduceIte, ↓put_at]) (by simp (decide := true) (disch := omega) only [go_sem, ↓reduceIte, ↓put_at]) (by simp (decide := true) (disch := omega) only [go_sem, ↓reduceIte, ↓put_at]) (by kernel_rfl) hcm ?_
      (repeat' ((first | refine sp_ ?_ | exact ex0 | refine call_u Tryz.call60 (c4) [] ex1 ?_ | refine call_u Tryz.call59 (c5) [] ex1 ?_ | refine call_u Tryz.call58 (c6) [] ex1 ?_ | refine call_u Tryz.call57 (c7) [] ex1 ?_ | refine call_u Tryz.call56 (c8) [] ex1 ?_ | (refine ret_s [] ?_; simp (decide := true) (disch := omega) only [go_sem, ↓reduceIte, ↓put_at]))))
end Go.Proofs.YtjkmnjmmnjhacaaGreat

