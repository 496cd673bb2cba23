/- Layer 12 (compound): a piece taken into a bag; walked. -/
import Derived.Test.YtbnnfmleoebelaaGreatCmp1z
import Derived.Test.YtbnnfmleoebelaaGreatRQz
import Derived.Test.YtbnnfmleoebelaaGreatRQz
import Derived.Test.YtbnnfmleoebelaaGreatRQz
namespace Go.Proofs.YtbnnfmleoebelaaGreat
open Go.RowKit
set_option linter.unusedVariables false
set_option linter.unusedSimpArgs false

/-- A bag, as the cells of an object. -/
abbrev bagO (B : Bag12) : List CA := [.own 27 7 (B.reports.map r8El), .own 50 2 (B.names.map n9El), .own 59 2 (B.byes.map y9El), .own 86 4 (B.apps.map a9El), .own 53 3 (B.nacks.map n10El), .own 32 2 (B.lines.map r11El), .own 56 2 (B.ads.map s11El)]
structure Bag12.Few (B : Bag12) : Prop where
  reports : B.reports.length ≤ 1000000
  names : B.names.length ≤ 1000000
  byes : B.byes.length ≤ 1000000
  apps : B.apps.length ≤ 1000000
  nacks : B.nacks.length ≤ 1000000
  lines : B.lines.length ≤ 1000000
  ads : B.ads.length ≤ 1000000
theorem n9_rows (nr : List N9) : (∀ r ∈ nr.map n9El, r.length = 2) ∧ ∀ r ∈ nr.map n9El, ∀ y ∈ r, oneV y = true := by
  constructor
  · intro r hr
    obtain ⟨x, _, rfl⟩ := List.mem_map.1 hr
    rfl
  · intro r hr y hy
    obtain ⟨x, _, rfl⟩ := List.mem_map.1 hr
    simp only [n9El, List.mem_cons, List.not_mem_nil, or_false] at hy
    rcases hy with rfl | rfl
    · rfl
    · rfl
set_option maxRecDepth 100000 in
set_option maxHeartbeats 16000000 in
theorem cmp_take (B : Bag12) (p : Pc) (hp : p.2.2.length ≤ maxLen) (hB : B.Few) : Spec Tryz.prog 16 [.ptr 0 0, .ca (.val (pcV p))] [bagO B] (.ca (.val (vb (decide (whatP p ≠ 0))))) [bagO (tookB B p)] := by
  obtain ⟨re, na, bt, ap, nk, li, ad⟩ := B
  obtain ⟨f1, f2, f3, f4, f5, f6, f7⟩ := hB
  dsimp only at f1 f2 f3 f4 f5 f6 f7
  have c := cmp_said p hp
  have hwe := whatP_eq p
  have hnl := (namesR_ok p hp).2
  rcases sayP_cases p with ⟨hs, h1⟩ | ⟨hs, h1, h2⟩ | ⟨hs, h1, h2, h3⟩ | ⟨hs, h1, h2, h3, h4⟩ | ⟨hs, h1, h2, h3, h4, h5⟩ | ⟨hs, h1, h2, h3, h4, h5, h6⟩ | ⟨hs, h1, h2, h3, h4, h5, h6, h7⟩ | ⟨hs, h1, h2, h3, h4, h5, h6, h7⟩
  · have hv : saidV p = .ifc 27 (.agg (r8L (ofR p))) := by unfold saidV saidL orV; rw [if_pos h1]; rfl
    rw [hv] at c
    rw [hs, if_neg (by omega)] at hwe
    have hT : bagO (tookB ⟨re, na, bt, ap, nk, li, ad⟩ p) = [.own 27 7 (re.map r8El ++ [r8L (ofR p)]), .own 50 2 (na.map n9El), .own 59 2 (bt.map y9El), .own 86 4 (ap.map a9El), .own 53 3 (nk.map n10El), .own 32 2 (li.map r11El), .own 56 2 (ad.map s11El)] := by simp [bagO, tookB, hs, r8El, y9El, a9El, n10El, r11El, s11El]
    rw [hT]
    rw [show decide (whatP p ≠ 0) = true by rw [hwe]; rfl]
    clear hT hwe hs
    refine spec_of Tryz.func16 rfl Tryz.ntmps16 Tryz.results16 ⟨by decide, by simp⟩ fun C hC => ?_
    (repeat' ((first | refine sp_ ?_ | exact ex0 | refine call_u Tryz.call32 (c) [] ex1 ?_ | (refine ret_s [] ?_; simp (decide := true) (disch := omega) only [go_sem, ↓reduceIte, ↓put_at]))))
    refine taY_s (by kernel_rfl) _ (by simp (decide := true) (disch := omega) only [go_sem, ↓reduceIte, ↓put_at]; rfl) ?_
    (repeat' ((first | refine sp_ ?_ | exact ex0 | (refine ret_s [] ?_; simp (decide := true) (disch := omega) only [go_sem, ↓reduceIte, ↓put_at]))))
  · have hv : saidV p = .ifc 28 (.lst 2 ((namesR p).map n9El)) := by unfold saidV saidL orV; rw [if_neg h1, if_pos h2]; rfl
    rw [hv] at c
    by_cases hn : namesR p = []
    · rw [hs, if_pos (.inl ⟨rfl, hn⟩)] at hwe
      have hT : bagO (tookB ⟨re, na, bt, ap, nk, li, ad⟩ p) = [.own 27 7 (re.map r8El), .own 50 2 (na.map n9El ++ (namesR p).map n9El), .own 59 2 (bt.map y9El), .own 86 4 (ap.map a9El), .own 53 3 (nk.map n10El), .own 32 2 (li.map r11El), .own 56 2 (ad.map s11El)] := by simp [bagO, tookB, hs, r8El, y9El, a9El, n10El, r11El, s11El]
      rw [hT]
      rw [show decide (whatP p ≠ 0) = false by rw [hwe]; rfl]
      clear hT hwe hs
      have hn0 : (namesR p).length = 0 := by rw [hn]; rfl
      clear hn
      generalize namesR p = nr at *
      refine spec_of Tryz.func16 rfl Tryz.ntmps16 Tryz.results16 ⟨by decide, by simp⟩ fun C hC => ?_
      (repeat' ((first | refine sp_ ?_ | exact ex0 | refine call_u Tryz.call32 (c) [] ex1 ?_ | (refine ret_s [] ?_; simp (decide := true) (disch := omega) only [go_sem, ↓reduceIte, ↓put_at]))))
      refine taN2_s (by kernel_rfl) (by simp (decide := true) (disch := omega) only [go_sem, ↓reduceIte, ↓put_at]) (by kernel_rfl) ?_
      (repeat' ((first | refine sp_ ?_ | exact ex0 | (refine ret_s [] ?_; simp (decide := true) (disch := omega) only [go_sem, ↓reduceIte, ↓put_at]))))
      refine taY_s (by kernel_rfl) _ (by simp (decide := true) (disch := omega) only [go_sem, ↓reduceIte, ↓put_at]; rfl) ?_
      (repeat' ((first | refine sp_ ?_ | exact ex0 | (refine ret_s [] ?_; simp (decide := true) (disch := omega) only [go_sem, ↓reduceIte, ↓put_at]))))
      refine ⟨⟨by omega, by omega, (n9_rows nr).1, (n9_rows nr).2⟩, ?_⟩
      (repeat' ((first | refine sp_ ?_ | exact ex0 | (refine ret_s [] ?_; simp (decide := true) (disch := omega) only [go_sem, ↓reduceIte, ↓put_at]))))
    · rw [hs, if_neg (by simp [hn])] at hwe
      have hT : bagO (tookB ⟨re, na, bt, ap, nk, li, ad⟩ p) = [.own 27 7 (re.map r8El), .own 50 2 (na.map n9El ++ (namesR p).map n9El), .own 59 2 (bt.map y9El), .own 86 4 (ap.map a9El), .own 53 3 (nk.map n10El), .own 32 2 (li.map r11El), .own 56 2 (ad.map s11El)] := by simp [bagO, tookB, hs, r8El, y9El, a9El, n10El, r11El, s11El]
      rw [hT]
      rw [show decide (whatP p ≠ 0) = true by rw [hwe]; rfl]
      clear hT hwe hs
      have hn0 : 0 < (namesR p).length := List.length_pos_iff.2 hn
      clear hn
      generalize namesR p = nr at *
      refine spec_of Tryz.func16 rfl Tryz.ntmps16 Tryz.results16 ⟨by decide, by simp⟩ fun C hC => ?_
      (repeat' ((first | refine sp_ ?_ | exact ex0 | refine call_u Tryz.call32 (c) [] ex1 ?_ | (refine ret_s [] ?_; simp (decide := true) (disch := omega) only [go_sem, ↓reduceIte, ↓put_at]))))
      refine taN2_s (by kernel_rfl) (by simp (decide := true) (disch := omega) only [go_sem, ↓reduceIte, ↓put_at]) (by kernel_rfl) ?_
      (repeat' ((first | refine sp_ ?_ | exact ex0 | (refine ret_s [] ?_; simp (decide := true) (disch := omega) only [go_sem, ↓reduceIte, ↓put_at]))))
      refine taY_s (by kernel_rfl) _ (by simp (decide := true) (disch := omega) only [go_sem, ↓reduceIte, ↓put_at]; rfl) ?_
      (repeat' ((first | refine sp_ ?_ | exact ex0 | (refine ret_s [] ?_; simp (decide := true) (disch := omega) only [go_sem, ↓reduceIte, ↓put_at]))))
      refine ⟨⟨by omega, by omega, (n9_rows nr).1, (n9_rows nr).2⟩, ?_⟩
      (repeat' ((first | refine sp_ ?_ | exact ex0 | (refine ret_s [] ?_; simp (decide := true) (disch := omega) only [go_sem, ↓reduceIte, ↓put_at]))))
  · have hv : saidV p = .ifc 59 (.agg (y9L (byeR p))) := by unfold saidV saidL orV; rw [if_neg h1, if_neg h2, if_pos h3]; rfl
    rw [hv] at c
    rw [hs, if_neg (by omega)] at hwe
    have hT : bagO (tookB ⟨re, na, bt, ap, nk, li, ad⟩ p) = [.own 27 7 (re.map r8El), .own 50 2 (na.map n9El), .own 59 2 (bt.map y9El ++ [y9L (byeR p)]), .own 86 4 (ap.map a9El), .own 53 3 (nk.map n10El), .own 32 2 (li.map r11El), .own 56 2 (ad.map s11El)] := by simp [bagO, tookB, hs, r8El, y9El, a9El, n10El, r11El, s11El]
    rw [hT]
    rw [show decide (whatP p ≠ 0) = true by rw [hwe]; rfl]
    clear hT hwe hs
    refine spec_of Tryz.func16 rfl Tryz.ntmps16 Tryz.results16 ⟨by decide, by simp⟩ fun C hC => ?_
    (repeat' ((first | refine sp_ ?_ | exact ex0 | refine call_u Tryz.call32 (c) [] ex1 ?_ | (refine ret_s [] ?_; simp (decide := true) (disch := omega) only [go_sem, ↓reduceIte, ↓put_at]))))
    refine taN2_s (by kernel_rfl) (by simp (decide := true) (disch := omega) only [go_sem, ↓reduceIte, ↓put_at]) (by kernel_rfl) ?_
    (repeat' ((first | refine sp_ ?_ | exact ex0 | (refine ret_s [] ?_; simp (decide := true) (disch := omega) only [go_sem, ↓reduceIte, ↓put_at]))))
    refine taN2_s (by kernel_rfl) (by simp (decide := true) (disch := omega) only [go_sem, ↓reduceIte, ↓put_at]) (by kernel_rfl) ?_
    (repeat' ((first | refine sp_ ?_ | exact ex0 | (refine ret_s [] ?_; simp (decide := true) (disch := omega) only [go_sem, ↓reduceIte, ↓put_at]))))
    refine taY_s (by kernel_rfl) _ (by simp (decide := true) (disch := omega) only [go_sem, ↓reduceIte, ↓put_at]; rfl) ?_
    (repeat' ((first | refine sp_ ?_ | exact ex0 | (refine ret_s [] ?_; simp (decide := true) (disch := omega) only [go_sem, ↓reduceIte, ↓put_at]))))
  · have hv : saidV p = .ifc 86 (.agg (a9L (appR p))) := by unfold saidV saidL orV; rw [if_neg h1, if_neg h2, if_neg h3, if_pos h4]; rfl
    rw [hv] at c
    by_cases hn : (appR p).name = csum
    · rw [hs, if_pos (.inr ⟨rfl, hn⟩)] at hwe
      have hT : bagO (tookB ⟨re, na, bt, ap, nk, li, ad⟩ p) = [.own 27 7 (re.map r8El), .own 50 2 (na.map n9El), .own 59 2 (bt.map y9El), .own 86 4 (ap.map a9El), .own 53 3 (nk.map n10El), .own 32 2 (li.map r11El), .own 56 2 (ad.map s11El)] := by simp [bagO, tookB, hs, r8El, y9El, a9El, n10El, r11El, s11El, hn]
      rw [hT]
      rw [show decide (whatP p ≠ 0) = false by rw [hwe]; rfl]
      clear hT hwe hs
      generalize appR p = a at *
      obtain ⟨a1, a2, a3, a4⟩ := a
      dsimp only at hn
      subst hn
      unfold csum at c
      refine spec_of Tryz.func16 rfl Tryz.ntmps16 Tryz.results16 ⟨by decide, by simp⟩ fun C hC => ?_
      (repeat' ((first | refine sp_ ?_ | exact ex0 | refine call_u Tryz.call32 (c) [] ex1 ?_ | (refine ret_s [] ?_; simp (decide := true) (disch := omega) only [go_sem, ↓reduceIte, ↓put_at]))))
      refine taN2_s (by kernel_rfl) (by simp (decide := true) (disch := omega) only [go_sem, ↓reduceIte, ↓put_at]) (by kernel_rfl) ?_
      (repeat' ((first | refine sp_ ?_ | exact ex0 | (refine ret_s [] ?_; simp (decide := true) (disch := omega) only [go_sem, ↓reduceIte, ↓put_at]))))
      refine taN2_s (by kernel_rfl) (by simp (decide := true) (disch := omega) only [go_sem, ↓reduceIte, ↓put_at]) (by kernel_rfl) ?_
      (repeat' ((first | refine sp_ ?_ | exact ex0 | (refine ret_s [] ?_; simp (decide := true) (disch := omega) only [go_sem, ↓reduceIte, ↓put_at]))))
      refine taN2_s (by kernel_rfl) (by simp (decide := true) (disch := omega) only [go_sem, ↓reduceIte, ↓put_at]) (by kernel_rfl) ?_
      (repeat' ((first | refine sp_ ?_ | exact ex0 | (refine ret_s [] ?_; simp (decide := true) (disch := omega) only [go_sem, ↓reduceIte, ↓put_at]))))
      refine taY_s (by kernel_rfl) _ (by simp (decide := true) (disch := omega) only [go_sem, ↓reduceIte, ↓put_at]; rfl) ?_
      (repeat' ((first | refine sp_ ?_ | exact ex0 | (refine ret_s [] ?_; simp (decide := true) (disch := omega) only [go_sem, ↓reduceIte, ↓put_at]))))
    · rw [hs, if_neg (by simp [hn])] at hwe
      have hT : bagO (tookB ⟨re, na, bt, ap, nk, li, ad⟩ p) = [.own 27 7 (re.map r8El), .own 50 2 (na.map n9El), .own 59 2 (bt.map y9El), .own 86 4 (ap.map a9El ++ [a9L (appR p)]), .own 53 3 (nk.map n10El), .own 32 2 (li.map r11El), .own 56 2 (ad.map s11El)] := by simp [bagO, tookB, hs, r8El, y9El, a9El, n10El, r11El, s11El, hn]
      rw [hT]
      rw [show decide (whatP p ≠ 0) = true by rw [hwe]; rfl]
      clear hT hwe hs
      generalize appR p = a at *
      obtain ⟨a1, a2, a3, a4⟩ := a
      dsimp only at hn
      unfold csum at hn
      have hne : (a3 == [99, 115, 117, 109]) = false := by simpa using hn
      refine spec_of Tryz.func16 rfl Tryz.ntmps16 Tryz.results16 ⟨by decide, by simp⟩ fun C hC => ?_
      (repeat' ((first | refine sp_ ?_ | exact ex0 | refine call_u Tryz.call32 (c) [] ex1 ?_ | (refine ret_s [] ?_; simp (decide := true) (disch := omega) only [go_sem, ↓reduceIte, ↓put_at]))))
      refine taN2_s (by kernel_rfl) (by simp (decide := true) (disch := omega) only [go_sem, ↓reduceIte, ↓put_at]) (by kernel_rfl) ?_
      (repeat' ((first | refine sp_ ?_ | exact ex0 | (refine ret_s [] ?_; simp (decide := true) (disch := omega) only [go_sem, ↓reduceIte, ↓put_at]))))
      refine taN2_s (by kernel_rfl) (by simp (decide := true) (disch := omega) only [go_sem, ↓reduceIte, ↓put_at]) (by kernel_rfl) ?_
      (repeat' ((first | refine sp_ ?_ | exact ex0 | (refine ret_s [] ?_; simp (decide := true) (disch := omega) only [go_sem, ↓reduceIte, ↓put_at]))))
      refine taN2_s (by kernel_rfl) (by simp (decide := true) (disch := omega) only [go_sem, ↓reduceIte, ↓put_at]) (by kernel_rfl) ?_
      (repeat' ((first | refine sp_ ?_ | exact ex0 | (refine ret_s [] ?_; simp (decide := true) (disch := omega) only [go_sem, ↓reduceIte, ↓put_at]))))
      refine taY_s (by kernel_rfl) _ (by simp (decide := true) (disch := omega) only [go_sem, ↓reduceIte, ↓put_at]; rfl) ?_
      (repeat' ((first | refine sp_ ?_ | exact ex0 | (refine ret_s [] ?_; simp (decide := true) (disch := omega) only [go_sem, ↓reduceIte, ↓put_at]))))
      simp only [hne]
      (repeat' ((first | refine sp_ ?_ | exact ex0 | (refine ret_s [] ?_; simp (decide := true) (disch := omega) only [go_sem, ↓reduceIte, ↓put_at]))))
  · have hv : saidV p = .ifc 53 (.agg (n10L (nackR p))) := by unfold saidV saidL orV; rw [if_neg h1, if_neg h2, if_neg h3, if_neg h4, if_pos h5]; rfl
    rw [hv] at c
    rw [hs, if_neg (by omega)] at hwe
    have hT : bagO (tookB ⟨re, na, bt, ap, nk, li, ad⟩ p) = [.own 27 7 (re.map r8El), .own 50 2 (na.map n9El), .own 59 2 (bt.map y9El), .own 86 4 (ap.map a9El), .own 53 3 (nk.map n10El ++ [n10L (nackR p)]), .own 32 2 (li.map r11El), .own 56 2 (ad.map s11El)] := by simp [bagO, tookB, hs, r8El, y9El, a9El, n10El, r11El, s11El]
    rw [hT]
    rw [show decide (whatP p ≠ 0) = true by rw [hwe]; rfl]
    clear hT hwe hs
    refine spec_of Tryz.func16 rfl Tryz.ntmps16 Tryz.results16 ⟨by decide, by simp⟩ fun C hC => ?_
    (repeat' ((first | refine sp_ ?_ | exact ex0 | refine call_u Tryz.call32 (c) [] ex1 ?_ | (refine ret_s [] ?_; simp (decide := true) (disch := omega) only [go_sem, ↓reduceIte, ↓put_at]))))
    refine taN2_s (by kernel_rfl) (by simp (decide := true) (disch := omega) only [go_sem, ↓reduceIte, ↓put_at]) (by kernel_rfl) ?_
    (repeat' ((first | refine sp_ ?_ | exact ex0 | (refine ret_s [] ?_; simp (decide := true) (disch := omega) only [go_sem, ↓reduceIte, ↓put_at]))))
    refine taN2_s (by kernel_rfl) (by simp (decide := true) (disch := omega) only [go_sem, ↓reduceIte, ↓put_at]) (by kernel_rfl) ?_
    (repeat' ((first | refine sp_ ?_ | exact ex0 | (refine ret_s [] ?_; simp (decide := true) (disch := omega) only [go_sem, ↓reduceIte, ↓put_at]))))
    refine taN2_s (by kernel_rfl) (by simp (decide := true) (disch := omega) only [go_sem, ↓reduceIte, ↓put_at]) (by kernel_rfl) ?_
    (repeat' ((first | refine sp_ ?_ | exact ex0 | (refine ret_s [] ?_; simp (decide := true) (disch := omega) only [go_sem, ↓reduceIte, ↓put_at]))))
    refine taN2_s (by kernel_rfl) (by simp (decide := true) (disch := omega) only [go_sem, ↓reduceIte, ↓put_at]) (by kernel_rfl) ?_
    (repeat' ((first | refine sp_ ?_ | exact ex0 | (refine ret_s [] ?_; simp (decide := true) (disch := omega) only [go_sem, ↓reduceIte, ↓put_at]))))
    refine taY_s (by kernel_rfl) _ (by simp (decide := true) (disch := omega) only [go_sem, ↓reduceIte, ↓put_at]; rfl) ?_
    (repeat' ((first | refine sp_ ?_ | exact ex0 | (refine ret_s [] ?_; simp (decide := true) (disch := omega) only [go_sem, ↓reduceIte, ↓put_at]))))
  · have hv : saidV p = .ifc 32 (.agg (r11L (linesR p))) := by unfold saidV saidL orV; rw [if_neg h1, if_neg h2, if_neg h3, if_neg h4, if_neg h5, if_pos h6]; rfl
    rw [hv] at c
    rw [hs, if_neg (by omega)] at hwe
    have hT : bagO (tookB ⟨re, na, bt, ap, nk, li, ad⟩ p) = [.own 27 7 (re.map r8El), .own 50 2 (na.map n9El), .own 59 2 (bt.map y9El), .own 86 4 (ap.map a9El), .own 53 3 (nk.map n10El), .own 32 2 (li.map r11El ++ [r11L (linesR p)]), .own 56 2 (ad.map s11El)] := by simp [bagO, tookB, hs, r8El, y9El, a9El, n10El, r11El, s11El]
    rw [hT]
    rw [show decide (whatP p ≠ 0) = true by rw [hwe]; rfl]
    clear hT hwe hs
    refine spec_of Tryz.func16 rfl Tryz.ntmps16 Tryz.results16 ⟨by decide, by simp⟩ fun C hC => ?_
    (repeat' ((first | refine sp_ ?_ | exact ex0 | refine call_u Tryz.call32 (c) [] ex1 ?_ | (refine ret_s [] ?_; simp (decide := true) (disch := omega) only [go_sem, ↓reduceIte, ↓put_at]))))
    refine taN2_s (by kernel_rfl) (by simp (decide := true) (disch := omega) only [go_sem, ↓reduceIte, ↓put_at]) (by kernel_rfl) ?_
    (repeat' ((first | refine sp_ ?_ | exact ex0 | (refine ret_s [] ?_; simp (decide := true) (disch := omega) only [go_sem, ↓reduceIte, ↓put_at]))))
    refine taN2_s (by kernel_rfl) (by simp (decide := true) (disch := omega) only [go_sem, ↓reduceIte, ↓put_at]) (by kernel_rfl) ?_
    (repeat' ((first | refine sp_ ?_ | exact ex0 | (refine ret_s [] ?_; simp (decide := true) (disch := omega) only [go_sem, ↓reduceIte, ↓put_at]))))
    refine taN2_s (by kernel_rfl) (by simp (decide := true) (disch := omega) only [go_sem, ↓reduceIte, ↓put_at]) (by kernel_rfl) ?_
    (repeat' ((first | refine sp_ ?_ | exact ex0 | (refine ret_s [] ?_; simp (decide := true) (disch := omega) only [go_sem, ↓reduceIte, ↓put_at]))))
    refine taN2_s (by kernel_rfl) (by simp (decide := true) (disch := omega) only [go_sem, ↓reduceIte, ↓put_at]) (by kernel_rfl) ?_
    (repeat' ((first | refine sp_ ?_ | exact ex0 | (refine ret_s [] ?_; simp (decide := true) (disch := omega) only [go_sem, ↓reduceIte, ↓put_at]))))
    refine taN2_s (by kernel_rfl) (by simp (decide := true) (disch := omega) only [go_sem, ↓reduceIte, ↓put_at]) (by kernel_rfl) ?_
    (repeat' ((first | refine sp_ ?_ | exact ex0 | (refine ret_s [] ?_; simp (decide := true) (disch := omega) only [go_sem, ↓reduceIte, ↓put_at]))))
    refine taY_s (by kernel_rfl) _ (by simp (decide := true) (disch := omega) only [go_sem, ↓reduceIte, ↓put_at]; rfl) ?_
    (repeat' ((first | refine sp_ ?_ | exact ex0 | (refine ret_s [] ?_; simp (decide := true) (disch := omega) only [go_sem, ↓reduceIte, ↓put_at]))))
  · have hv : saidV p = .ifc 56 (.agg (s11L (adsR p))) := by unfold saidV saidL orV; rw [if_neg h1, if_neg h2, if_neg h3, if_neg h4, if_neg h5, if_neg h6, if_pos h7]; rfl
    rw [hv] at c
    rw [hs, if_neg (by omega)] at hwe
    have hT : bagO (tookB ⟨re, na, bt, ap, nk, li, ad⟩ p) = [.own 27 7 (re.map r8El), .own 50 2 (na.map n9El), .own 59 2 (bt.map y9El), .own 86 4 (ap.map a9El), .own 53 3 (nk.map n10El), .own 32 2 (li.map r11El), .own 56 2 (ad.map s11El ++ [s11L (adsR p)])] := by simp [bagO, tookB, hs, r8El, y9El, a9El, n10El, r11El, s11El]
    rw [hT]
    rw [show decide (whatP p ≠ 0) = true by rw [hwe]; rfl]
    clear hT hwe hs
    refine spec_of Tryz.func16 rfl Tryz.ntmps16 Tryz.results16 ⟨by decide, by simp⟩ fun C hC => ?_
    (repeat' ((first | refine sp_ ?_ | exact ex0 | refine call_u Tryz.call32 (c) [] ex1 ?_ | (refine ret_s [] ?_; simp (decide := true) (disch := omega) only [go_sem, ↓reduceIte, ↓put_at]))))
    refine taN2_s (by kernel_rfl) (by simp (decide := true) (disch := omega) only [go_sem, ↓reduceIte, ↓put_at]) (by kernel_rfl) ?_
    (repeat' ((first | refine sp_ ?_ | exact ex0 | (refine ret_s [] ?_; simp (decide := true) (disch := omega) only [go_sem, ↓reduceIte, ↓put_at]))))
    refine taN2_s (by kernel_rfl) (by simp (decide := true) (disch := omega) only [go_sem, ↓reduceIte, ↓put_at]) (by kernel_rfl) ?_
    (repeat' ((first | refine sp_ ?_ | exact ex0 | (refine ret_s [] ?_; simp (decide := true) (disch := omega) only [go_sem, ↓reduceIte, ↓put_at]))))
    refine taN2_s (by kernel_rfl) (by simp (decide := true) (disch := omega) only [go_sem, ↓reduceIte, ↓put_at]) (by kernel_rfl) ?_
    (repeat' ((first | refine sp_ ?_ | exact ex0 | (refine ret_s [] ?_; simp (decide := true) (disch := omega) only [go_sem, ↓reduceIte, ↓put_at]))))
    refine taN2_s (by kernel_rfl) (by simp (decide := true) (disch := omega) only [go_sem, ↓reduceIte, ↓put_at]) (by kernel_rfl) ?_
    (repeat' ((first | refine sp_ ?_ | exact ex0 | (refine ret_s [] ?_; simp (decide := true) (disch := omega) only [go_sem, ↓reduceIte, ↓put_at]))))
    refine taN2_s (by kernel_rfl) (by simp (decide := true) (disch := omega) only [go_sem, ↓reduceIte, ↓put_at]) (by kernel_rfl) ?_
    (repeat' ((first | refine sp_ ?_ | exact ex0 | (refine ret_s [] ?_; simp (decide := true) (disch := omega) only [go_sem, ↓reduceIte, ↓put_at]))))
    refine taN2_s (by kernel_rfl) (by simp (decide := true) (disch := omega) only [go_sem, ↓reduceIte, ↓put_at]) (by kernel_rfl) ?_
    (repeat' ((first | refine sp_ ?_ | exact ex0 | (refine ret_s [] ?_; simp (decide := true) (disch := omega) only [go_sem, ↓reduceIte, ↓put_at]))))
    refine taY_s (by kernel_rfl) _ (by simp (decide := true) (disch := omega) only [go_sem, ↓reduceIte, ↓put_at]; rfl) ?_
    (repeat' ((first | refine sp_ ?_ | exact ex0 | (refine ret_s [] ?_; simp (decide := true) (disch := omega) only [go_sem, ↓reduceIte, ↓put_at]))))
  · have hv : saidV p = .sc .nilIface := by unfold saidV saidL orV; rw [if_neg h1, if_neg h2, if_neg h3, if_neg h4, if_neg h5, if_neg h6, if_neg h7]; rfl
    rw [hv] at c
    rw [hs, if_neg (by omega)] at hwe
    have hT : bagO (tookB ⟨re, na, bt, ap, nk, li, ad⟩ p) = [.own 27 7 (re.map r8El), .own 50 2 (na.map n9El), .own 59 2 (bt.map y9El), .own 86 4 (ap.map a9El), .own 53 3 (nk.map n10El), .own 32 2 (li.map r11El), .own 56 2 (ad.map s11El)] := by simp [bagO, tookB, hs, r8El, y9El, a9El, n10El, r11El, s11El]
    rw [hT]
    rw [show decide (whatP p ≠ 0) = false by rw [hwe]; rfl]
    clear hT hwe hs
    refine spec_of Tryz.func16 rfl Tryz.ntmps16 Tryz.results16 ⟨by decide, by simp⟩ fun C hC => ?_
    (repeat' ((first | refine sp_ ?_ | exact ex0 | refine call_u Tryz.call32 (c) [] ex1 ?_ | (refine ret_s [] ?_; simp (decide := true) (disch := omega) only [go_sem, ↓reduceIte, ↓put_at]))))
    refine taN2_s (by kernel_rfl) (by simp (decide := true) (disch := omega) only [go_sem, ↓reduceIte, ↓put_at]) (by kernel_rfl) ?_
    (repeat' ((first | refine sp_ ?_ | exact ex0 | (refine ret_s [] ?_; simp (decide := true) (disch := omega) only [go_sem, ↓reduceIte, ↓put_at]))))
    refine taN2_s (by kernel_rfl) (by simp (decide := true) (disch := omega) only [go_sem, ↓reduceIte, ↓put_at]) (by kernel_rfl) ?_
    (repeat' ((first | refine sp_ ?_ | exact ex0 | (refine ret_s [] ?_; simp (decide := true) (disch := omega) only [go_sem, ↓reduceIte, ↓put_at]))))
    refine taN2_s (by kernel_rfl) (by simp (decide := true) (disch := omega) only [go_sem, ↓reduceIte, ↓put_at]) (by kernel_rfl) ?_
    (repeat' ((first | refine sp_ ?_ | exact ex0 | (refine ret_s [] ?_; simp (decide := true) (disch := omega) only [go_sem, ↓reduceIte, ↓put_at]))))
    refine taN2_s (by kernel_rfl) (by simp (decide := true) (disch := omega) only [go_sem, ↓reduceIte, ↓put_at]) (by kernel_rfl) ?_
    (repeat' ((first | refine sp_ ?_ | exact ex0 | (refine ret_s [] ?_; simp (decide := true) (disch := omega) only [go_sem, ↓reduceIte, ↓put_at]))))
    refine taN2_s (by kernel_rfl) (by simp (decide := true) (disch := omega) only [go_sem, ↓reduceIte, ↓put_at]) (by kernel_rfl) ?_
    (repeat' ((first | refine sp_ ?_ | exact ex0 | (refine ret_s [] ?_; simp (decide := true) (disch := omega) only [go_sem, ↓reduceIte, ↓put_at]))))
    refine taN2_s (by kernel_rfl) (by simp (decide := true) (disch := omega) only [go_sem, ↓reduceIte, ↓put_at]) (by kernel_rfl) ?_
    (repeat' ((first | refine sp_ ?_ | exact ex0 | (refine ret_s [] ?_; simp (decide := true) (disch := omega) only [go_sem, ↓reduceIte, ↓put_at]))))
    refine taN2_s (by kernel_rfl) (by simp (decide := true) (disch := omega) only [go_sem, ↓reduceIte, ↓put_at]) (by kernel_rfl) ?_
    (repeat' ((first | refine sp_ ?_ | exact ex0 | (refine ret_s [] ?_; simp (decide := true) (disch := omega) only [go_sem, ↓reduceIte, ↓put_at]))))
end Go.Proofs.YtbnnfmleoebelaaGreat

