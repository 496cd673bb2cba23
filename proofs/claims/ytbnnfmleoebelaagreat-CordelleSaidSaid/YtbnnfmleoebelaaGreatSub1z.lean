/- Layer 11 (subflow): parts, pieces, and back; walked. -/
import Derived.Test.YtbnnfmleoebelaaGreatNack1z
import Derived.Test.YtbnnfmleoebelaaGreatQCmp07z
namespace Go.Proofs.YtbnnfmleoebelaaGreat
open Go.RowKit
set_option linter.unusedVariables false
set_option linter.unusedSimpArgs false

set_option maxRecDepth 100000 in
set_option maxHeartbeats 8000000 in
theorem sub_within (n lo hi : Int) : Spec Tryz.prog 129 [.ca (.val (vi n)), .ca (.val (vi lo)), .ca (.val (vi hi))] [] (.ca (.val (vb (decide (lo ≤ n ∧ n ≤ hi))))) [] := by
  by_cases h1 : lo ≤ n
  · by_cases h2 : n ≤ hi
    · rw [decide_eq_true ⟨h1, h2⟩]
      refine spec_of Tryz.func129 rfl Tryz.ntmps129 Tryz.results129 ⟨by decide, by simp⟩ fun C hC => ?_
      (repeat' ((first | refine sp_ ?_ | exact ex0 | (refine ret_s [] ?_; simp (decide := true) (disch := omega) only [go_sem, ↓reduceIte, ↓put_at]))))
    · rw [decide_eq_false (fun h => h2 h.2)]
      refine spec_of Tryz.func129 rfl Tryz.ntmps129 Tryz.results129 ⟨by decide, by simp⟩ fun C hC => ?_
      (repeat' ((first | refine sp_ ?_ | exact ex0 | (refine ret_s [] ?_; simp (decide := true) (disch := omega) only [go_sem, ↓reduceIte, ↓put_at]))))
  · rw [decide_eq_false (fun h => h1 h.1)]
    refine spec_of Tryz.func129 rfl Tryz.ntmps129 Tryz.results129 ⟨by decide, by simp⟩ fun C hC => ?_
    (repeat' ((first | refine sp_ ?_ | exact ex0 | (refine ret_s [] ?_; simp (decide := true) (disch := omega) only [go_sem, ↓reduceIte, ↓put_at]))))
set_option maxRecDepth 100000 in
set_option maxHeartbeats 8000000 in
theorem sub_amay (x : A11) : Spec Tryz.prog 130 [.ca (.val (.agg (a11L x)))] [] (.ca (.val (vb (mayAd x)))) [] := by
  obtain ⟨p, u, r⟩ := x
  have c1 := sub_within p 1 15
  have c2 := sub_within r 0 65535
  by_cases h1 : 1 ≤ p ∧ p ≤ 15
  · rw [decide_eq_true h1] at c1
    by_cases h2 : 0 ≤ r ∧ r ≤ 65535
    · rw [decide_eq_true h2] at c2
      rw [show mayAd ⟨p, u, r⟩ = true by unfold mayAd; rw [decide_eq_true_eq]; dsimp only; omega]
      refine spec_of Tryz.func130 rfl Tryz.ntmps130 Tryz.results130 ⟨by decide, by simp⟩ fun C hC => ?_
      (repeat' ((first | refine sp_ ?_ | exact ex0 | refine call_u Tryz.call129 (c1) [] ex1 ?_ | refine call_u Tryz.call129 (c2) [] ex1 ?_ | (refine ret_s [] ?_; simp (decide := true) (disch := omega) only [go_sem, ↓reduceIte, ↓put_at]))))
    · rw [decide_eq_false h2] at c2
      rw [show mayAd ⟨p, u, r⟩ = false by unfold mayAd; rw [decide_eq_false_iff_not]; dsimp only; omega]
      refine spec_of Tryz.func130 rfl Tryz.ntmps130 Tryz.results130 ⟨by decide, by simp⟩ fun C hC => ?_
      (repeat' ((first | refine sp_ ?_ | exact ex0 | refine call_u Tryz.call129 (c1) [] ex1 ?_ | refine call_u Tryz.call129 (c2) [] ex1 ?_ | (refine ret_s [] ?_; simp (decide := true) (disch := omega) only [go_sem, ↓reduceIte, ↓put_at]))))
  · rw [decide_eq_false h1] at c1
    rw [show mayAd ⟨p, u, r⟩ = false by unfold mayAd; rw [decide_eq_false_iff_not]; dsimp only; omega]
    refine spec_of Tryz.func130 rfl Tryz.ntmps130 Tryz.results130 ⟨by decide, by simp⟩ fun C hC => ?_
    (repeat' ((first | refine sp_ ?_ | exact ex0 | refine call_u Tryz.call129 (c1) [] ex1 ?_ | refine call_u Tryz.call129 (c2) [] ex1 ?_ | (refine ret_s [] ?_; simp (decide := true) (disch := omega) only [go_sem, ↓reduceIte, ↓put_at]))))
set_option maxRecDepth 100000 in
set_option maxHeartbeats 8000000 in
theorem sub_lmay (x : L11) : Spec Tryz.prog 127 [.ca (.val (.agg (l11L x)))] [] (.ca (.val (vb (mayLn x)))) [] := by
  obtain ⟨p, f, l, h, j, y, a, d⟩ := x
  have c1 := sub_within p 1 15
  have c2 := sub_within f 0 255
  have c3 := sub_within l (-8388608) 8388607
  by_cases h1 : 1 ≤ p ∧ p ≤ 15
  · rw [decide_eq_true h1] at c1
    by_cases h2 : 0 ≤ f ∧ f ≤ 255
    · rw [decide_eq_true h2] at c2
      by_cases h3 : -8388608 ≤ l ∧ l ≤ 8388607
      · rw [decide_eq_true h3] at c3
        rw [show mayLn ⟨p, f, l, h, j, y, a, d⟩ = true by unfold mayLn; rw [decide_eq_true_eq]; dsimp only; omega]
        refine spec_of Tryz.func127 rfl Tryz.ntmps127 Tryz.results127 ⟨by decide, by simp⟩ fun C hC => ?_
        (repeat' ((first | refine sp_ ?_ | exact ex0 | refine call_u Tryz.call129 (c1) [] ex1 ?_ | refine call_u Tryz.call129 (c2) [] ex1 ?_ | refine call_u Tryz.call129 (c3) [] ex1 ?_ | (refine ret_s [] ?_; simp (decide := true) (disch := omega) only [go_sem, ↓reduceIte, ↓put_at]))))
      · rw [decide_eq_false h3] at c3
        rw [show mayLn ⟨p, f, l, h, j, y, a, d⟩ = false by unfold mayLn; rw [decide_eq_false_iff_not]; dsimp only; omega]
        refine spec_of Tryz.func127 rfl Tryz.ntmps127 Tryz.results127 ⟨by decide, by simp⟩ fun C hC => ?_
        (repeat' ((first | refine sp_ ?_ | exact ex0 | refine call_u Tryz.call129 (c1) [] ex1 ?_ | refine call_u Tryz.call129 (c2) [] ex1 ?_ | refine call_u Tryz.call129 (c3) [] ex1 ?_ | (refine ret_s [] ?_; simp (decide := true) (disch := omega) only [go_sem, ↓reduceIte, ↓put_at]))))
    · rw [decide_eq_false h2] at c2
      rw [show mayLn ⟨p, f, l, h, j, y, a, d⟩ = false by unfold mayLn; rw [decide_eq_false_iff_not]; dsimp only; omega]
      refine spec_of Tryz.func127 rfl Tryz.ntmps127 Tryz.results127 ⟨by decide, by simp⟩ fun C hC => ?_
      (repeat' ((first | refine sp_ ?_ | exact ex0 | refine call_u Tryz.call129 (c1) [] ex1 ?_ | refine call_u Tryz.call129 (c2) [] ex1 ?_ | refine call_u Tryz.call129 (c3) [] ex1 ?_ | (refine ret_s [] ?_; simp (decide := true) (disch := omega) only [go_sem, ↓reduceIte, ↓put_at]))))
  · rw [decide_eq_false h1] at c1
    rw [show mayLn ⟨p, f, l, h, j, y, a, d⟩ = false by unfold mayLn; rw [decide_eq_false_iff_not]; dsimp only; omega]
    refine spec_of Tryz.func127 rfl Tryz.ntmps127 Tryz.results127 ⟨by decide, by simp⟩ fun C hC => ?_
    (repeat' ((first | refine sp_ ?_ | exact ex0 | refine call_u Tryz.call129 (c1) [] ex1 ?_ | refine call_u Tryz.call129 (c2) [] ex1 ?_ | refine call_u Tryz.call129 (c3) [] ex1 ?_ | (refine ret_s [] ?_; simp (decide := true) (disch := omega) only [go_sem, ↓reduceIte, ↓put_at]))))
set_option maxRecDepth 100000 in
set_option maxHeartbeats 8000000 in
theorem sub_apath (x : A11) : Spec Tryz.prog 98 [.ca (.val (.agg (a11L x)))] [] (.ca (.val (vi x.path))) [] := by
  refine spec_of Tryz.func98 rfl Tryz.ntmps98 Tryz.results98 ⟨by decide, by simp⟩ fun C hC => ?_
  (repeat' ((first | refine sp_ ?_ | exact ex0 | (refine ret_s [] ?_; simp (decide := true) (disch := omega) only [go_sem, ↓reduceIte, ↓put_at]))))
set_option maxRecDepth 100000 in
set_option maxHeartbeats 8000000 in
theorem sub_lpath (x : L11) : Spec Tryz.prog 96 [.ca (.val (.agg (l11L x)))] [] (.ca (.val (vi x.path))) [] := by
  refine spec_of Tryz.func96 rfl Tryz.ntmps96 Tryz.results96 ⟨by decide, by simp⟩ fun C hC => ?_
  (repeat' ((first | refine sp_ ?_ | exact ex0 | (refine ret_s [] ?_; simp (decide := true) (disch := omega) only [go_sem, ↓reduceIte, ↓put_at]))))
structure L11.Ok (x : L11) : Prop where
  hi : 0 ≤ x.hi ∧ x.hi < 4294967296
  ji : 0 ≤ x.ji ∧ x.ji < 4294967296
  by' : 0 ≤ x.by' ∧ x.by' < 4294967296
  la : 0 ≤ x.la ∧ x.la < 4294967296
  de : 0 ≤ x.de ∧ x.de < 4294967296
def A11.Ok (x : A11) : Prop := True
set_option maxRecDepth 100000 in
set_option maxHeartbeats 2000000 in
theorem sub_awrite (x : A11) (hx : x.Ok) (o : List UInt8) (ho : o.length ≤ 1000000) : Spec Tryz.prog 131 [.ca (.val (.agg (a11L x))), .ptr 0 0] [outO o] (.ca (.val (.tup []))) [outO (o ++ wrAd x)] := by
  obtain ⟨p, u, r⟩ := x
  obtain ⟨z, hz⟩ : ∃ z : Int, z = if u = true then 1 else 0 := ⟨_, rfl⟩
  have hw : o ++ wrAd ⟨p, u, r⟩ = o ++ puts' 1 [p, z] ++ puts' 2 [r] := by unfold wrAd; dsimp only; rw [← hz, List.append_assoc]
  have c1 := out_u8 o [p, z] (by simp; omega)
  have c2 := out_u16 (o ++ puts' 1 [p, z]) [r] (by simp [puts'_length]; omega)
  rw [hw]
  cases u with
  | false =>
    obtain rfl : z = 0 := hz
    refine spec_of Tryz.func131 rfl Tryz.ntmps131 Tryz.results131 ⟨by decide, by simp⟩ fun C hC => ?_
    (repeat' ((first | refine sp_ ?_ | exact ex0 | refine call_u Tryz.call34 (c1) [(1000, 0)] ex1 ?_ | refine call_u Tryz.call35 (c2) [(1000, 0)] ex1 ?_ | (refine ret_s [] ?_; simp (decide := true) (disch := omega) only [go_sem, ↓reduceIte, ↓put_at]))))
  | true =>
    obtain rfl : z = 1 := hz
    refine spec_of Tryz.func131 rfl Tryz.ntmps131 Tryz.results131 ⟨by decide, by simp⟩ fun C hC => ?_
    (repeat' ((first | refine sp_ ?_ | exact ex0 | refine call_u Tryz.call34 (c1) [(1000, 0)] ex1 ?_ | refine call_u Tryz.call35 (c2) [(1000, 0)] ex1 ?_ | (refine ret_s [] ?_; simp (decide := true) (disch := omega) only [go_sem, ↓reduceIte, ↓put_at]))))
set_option maxRecDepth 100000 in
set_option maxHeartbeats 2000000 in
theorem sub_lwrite (x : L11) (hx : x.Ok) (o : List UInt8) (ho : o.length ≤ 1000000) : Spec Tryz.prog 128 [.ca (.val (.agg (l11L x))), .ptr 0 0] [outO o] (.ca (.val (.tup []))) [outO (o ++ wrLn x)] := by
  obtain ⟨p, f, l, h, j, y, a, d⟩ := x
  obtain ⟨q1, q2, q3, q4, q5⟩ := hx
  dsimp only at q1 q2 q3 q4 q5
  have hw : o ++ wrLn ⟨p, f, l, h, j, y, a, d⟩ = o ++ puts' 1 [p, f] ++ puts' 2 [0] ++ puts' 3 [l] ++ puts' 1 [0] ++ puts' 4 [h, j, y, a, d] := by unfold wrLn; simp only [List.append_assoc]
  have c1 := out_u8 o [p, f] (by simp; omega)
  have c2 := out_u16 (o ++ puts' 1 [p, f]) [0] (by simp [puts'_length]; omega)
  have c3 := out_u24 (o ++ puts' 1 [p, f] ++ puts' 2 [0]) [l] (by simp [puts'_length]; omega)
  have c4 := out_u8 (o ++ puts' 1 [p, f] ++ puts' 2 [0] ++ puts' 3 [l]) [0] (by simp [puts'_length]; omega)
  have c5 := out_u32 (o ++ puts' 1 [p, f] ++ puts' 2 [0] ++ puts' 3 [l] ++ puts' 1 [0]) [h, j, y, a, d] (by simp [puts'_length]; omega) (by
    intro n hn
    simp only [List.mem_cons, List.not_mem_nil, or_false] at hn
    rcases hn with rfl | rfl | rfl | rfl | rfl <;> assumption)
  rw [hw]
  refine spec_of Tryz.func128 rfl Tryz.ntmps128 Tryz.results128 ⟨by decide, by simp⟩ fun C hC => ?_
  (repeat' ((first | refine sp_ ?_ | exact ex0 | refine call_u Tryz.call34 (c1) [(1000, 0)] ex1 ?_ | refine call_u Tryz.call35 (c2) [(1000, 0)] ex1 ?_ | refine call_u Tryz.call124 (c3) [(1000, 0)] ex1 ?_ | refine call_u Tryz.call34 (c4) [(1000, 0)] ex1 ?_ | refine call_u Tryz.call39 (c5) [(1000, 0)] ex1 ?_ | (refine ret_s [] ?_; simp (decide := true) (disch := omega) only [go_sem, ↓reduceIte, ↓put_at]))))
set_option maxRecDepth 100000 in
set_option maxHeartbeats 8000000 in
theorem sub_buildl (f src : Int) (hs : 0 ≤ src ∧ src < 4294967296) (l : List L11) (ho : ∀ x ∈ l, x.Ok) (hl : l.length ≤ maxLen) :
    Spec Tryz.prog 95 [.ca (.val (vi f)), .ca (.val (vu src)), .ca (.val (.lst 8 (l.map l11El))), .fn 96 []] [] (.ca (.val (pcV (bldP f mayLn (fun x => x.path) wrLn src l)))) [] := by
  have c0 := out_u32 [] [src] (by simp) (by simpa using hs)
  rw [List.nil_append, puts1] at c0
  obtain ⟨hd, hhd⟩ : ∃ hd, hd = putZ src 4 := ⟨_, rfl⟩
  have hdl : hd.length = 4 := by rw [hhd, putZ_length]
  obtain ⟨P, hP⟩ : ∃ P, P = bldP f mayLn (fun x => x.path) wrLn src l := ⟨_, rfl⟩
  rw [← hP]
  unfold bldP at hP
  rw [← hhd] at c0 hP
  clear hhd
  refine spec_of Tryz.func95 rfl Tryz.ntmps95 Tryz.results95 ⟨by decide, by simp⟩ fun C hC => ?_
  (repeat' ((fail_if_success (first | refine stop_at 2 ?_ | refine stop_l 2 ?_)); (first | refine sp_ ?_ | exact ex0 | (refine ret_s [] ?_; simp (decide := true) (disch := omega) only [go_sem, ↓reduceIte, ↓put_at]))))
  refine own_c (9, 0) 0 (9, 1) 5 1 ?_
  simp (decide := true) (disch := omega) only [go_sem, ↓reduceIte, ↓put_at]
  (repeat' ((fail_if_success (refine stop_reg 5 ?_)); (first | refine sp_ ?_ | exact ex0 | refine call_u Tryz.call39 (c0) [(9, 0)] ex1 ?_ | (refine ret_s [] ?_; simp (decide := true) (disch := omega) only [go_sem, ↓reduceIte, ↓put_at]))))
  refine loop_s (α := {j : Nat // j ≤ l.length ∧ rises mayLn (fun x => x.path) 0 (l.take j) = true}) (fun x => [(.s 0, .av (.val (vi f))), (.s 3, .av (.fn 96 [])), (.o (8, 0), .num 3), (.c (8, 0) 0, .av (.val (vi 0))), (.c (8, 0) 1, .av (.val (vi 0))), (.c (8, 0) 2, .av (.val (vs []))), (.s 8, .av (.ptr (8, 0) 0 0)), (.o (9, 0), .num 1), (.c (9, 0) 0, .av (.own (9, 1) 0 5 1 ((hd ++ (l.take x.1).flatMap wrLn).map byteEl))), (.k (9, 1), .row 5 1 (hd ++ (l.take x.1).flatMap wrLn).length), (.s 9, .av (.ptr (9, 0) 0 0)), (.s 10, .av (.val (vi (lastP (fun y : L11 => y.path) 0 (l.take x.1))))), (.s 16, .av (.val (.lst 8 (l.map l11El)))), (.s 17, .av (.val (vi l.length))), (.s 18, .av (.val (vi x.1)))]) (fun x => l.length - x.1) ⟨0, Nat.zero_le _, by rw [List.take_zero]; rfl⟩ ?_ (fun x => ?_)
  · simp only [List.take_zero, List.flatMap_nil, List.append_nil]
    simp (decide := true) (disch := omega) only [go_sem, ↓reduceIte, ↓put_at]
  · obtain ⟨j, hj, hr⟩ := x
    dsimp only at hj hr ⊢
    have hfew := rises_few mayLn (fun x => x.path) mayLn15 0 _ (by omega) hr
    rw [List.length_take, Nat.min_eq_left hj] at hfew
    have hal : (hd ++ (l.take j).flatMap wrLn).length = 4 + 28 * j := by rw [List.length_append, hdl, fm_len 28 wrLn wrLn_len, List.length_take, Nat.min_eq_left hj]
    by_cases hlt : j < l.length
    · have hge : (l.map l11El).getD j [] = l11El l[j] := by simp [hlt]
      have hok := ho _ (List.getElem_mem hlt)
      have ht : l.take (j + 1) = l.take j ++ [l[j]] := List.take_succ_eq_append_getElem hlt
      have hrs := rises_snoc mayLn (fun x => x.path) l[j] 0 (l.take j)
      have hls := lastP_snoc (fun y : L11 => y.path) 0 (l.take j) l[j]
      rw [← ht, hr, Bool.true_and] at hrs
      rw [← ht] at hls
      have hnx : (hd ++ (l.take j).flatMap wrLn) ++ wrLn l[j] = hd ++ (l.take (j + 1)).flatMap wrLn := by rw [ht, List.flatMap_append, List.append_assoc]; congr 1
      have hbad : rises mayLn (fun x => x.path) 0 (l.take (j + 1)) = false → P = (0, 0, []) := fun h => by
        rw [if_neg (fun h2 => by rw [rises_pre mayLn (fun x => x.path) 0 l (j + 1) h2] at h; cases h)] at hP
        exact hP
      have c1 := sub_lmay l[j]
      have c2 := sub_lpath l[j]
      have c3 := sub_lwrite l[j] hok (hd ++ (l.take j).flatMap wrLn) (by omega)
      rw [hnx] at c3
      have hnl : (hd ++ (l.take (j + 1)).flatMap wrLn).length = 4 + 28 * j + 28 := by rw [← hnx, List.length_append, hal, wrLn_len]
      obtain ⟨B2, hB2⟩ : ∃ B2, B2 = hd ++ (l.take (j + 1)).flatMap wrLn := ⟨_, rfl⟩
      rw [← hB2] at c3 hnx hnl
      generalize hd ++ (l.take j).flatMap wrLn = B1 at *
      generalize hw : l[j] = w at *
      generalize lastP (fun y : L11 => y.path) 0 (l.take j) = la at *
      cases hm : mayLn w with
      | false =>
        rw [hm] at c1 hrs
        obtain rfl := hbad (by rw [hrs]; rfl)
        (repeat' ((first | refine sp_ ?_ | exact ex0 | (refine ret_s [] ?_; simp (decide := true) (disch := omega) only [go_sem, ↓reduceIte, ↓put_at]))))
        simp only [hw]
        refine mkI_s (by kernel_rfl) ?_
        (repeat' ((first | refine sp_ ?_ | exact ex0 | (refine ret_s [] ?_; simp (decide := true) (disch := omega) only [go_sem, ↓reduceIte, ↓put_at]))))
        refine inv_u Tryz.call127 157 (.agg (l11El w)) ⟨_, Tryz.underlying157, fun e h => by cases h⟩ (by kernel_rfl) c1 [] (by simp (decide := true) (disch := omega) only [go_sem, ↓reduceIte, ↓put_at]) ?_
        (repeat' ((first | refine sp_ ?_ | exact ex0 | (refine ret_s [] ?_; simp (decide := true) (disch := omega) only [go_sem, ↓reduceIte, ↓put_at]))))
      | true =>
        rw [hm, Bool.true_and] at hrs
        rw [hm] at c1
        by_cases hq : la < w.path
        · rw [decide_eq_true hq] at hrs
          (repeat' ((first | refine sp_ ?_ | exact ex0 | (refine ret_s [] ?_; simp (decide := true) (disch := omega) only [go_sem, ↓reduceIte, ↓put_at]))))
          simp only [hw]
          refine mkI_s (by kernel_rfl) ?_
          (repeat' ((first | refine sp_ ?_ | exact ex0 | (refine ret_s [] ?_; simp (decide := true) (disch := omega) only [go_sem, ↓reduceIte, ↓put_at]))))
          refine inv_u Tryz.call127 157 (.agg (l11El w)) ⟨_, Tryz.underlying157, fun e h => by cases h⟩ (by kernel_rfl) c1 [] (by simp (decide := true) (disch := omega) only [go_sem, ↓reduceIte, ↓put_at]) ?_
          (repeat' ((first | refine sp_ ?_ | exact ex0 | (refine ret_s [] ?_; simp (decide := true) (disch := omega) only [go_sem, ↓reduceIte, ↓put_at]))))
          refine pfcall_u Tryz.call96 [] c2 (by simp (decide := true) (disch := omega) only [go_sem, ↓reduceIte, ↓put_at]) ?_
          (repeat' ((first | refine sp_ ?_ | exact ex0 | (refine ret_s [] ?_; simp (decide := true) (disch := omega) only [go_sem, ↓reduceIte, ↓put_at]))))
          refine pfcall_u Tryz.call96 [] c2 (by simp (decide := true) (disch := omega) only [go_sem, ↓reduceIte, ↓put_at]) ?_
          (repeat' ((first | refine sp_ ?_ | exact ex0 | (refine ret_s [] ?_; simp (decide := true) (disch := omega) only [go_sem, ↓reduceIte, ↓put_at]))))
          refine mkI_s (by kernel_rfl) ?_
          (repeat' ((first | refine sp_ ?_ | exact ex0 | (refine ret_s [] ?_; simp (decide := true) (disch := omega) only [go_sem, ↓reduceIte, ↓put_at]))))
          refine inv_u Tryz.call128 157 (.agg (l11El w)) ⟨_, Tryz.underlying157, fun e h => by cases h⟩ (by kernel_rfl) c3 [(9, 0)] (by simp (decide := true) (disch := omega) only [go_sem, ↓reduceIte, ↓put_at]) ?_
          (repeat' ((first | refine sp_ ?_ | exact ex0 | (refine ret_s [] ?_; simp (decide := true) (disch := omega) only [go_sem, ↓reduceIte, ↓put_at]))))
          refine next_s (α := {j : Nat // j ≤ l.length ∧ rises mayLn (fun x => x.path) 0 (l.take j) = true}) ⟨j + 1, hlt, hrs⟩ ⟨?_, ?_⟩
          · (try dsimp only)
            rw [← hB2, hls]
            simp (decide := true) (disch := omega) only [go_sem, ↓reduceIte, ↓put_at]
            rw [hB2, List.length_append]
          · (try dsimp only)
            omega
        · rw [decide_eq_false hq] at hrs
          obtain rfl := hbad hrs
          (repeat' ((first | refine sp_ ?_ | exact ex0 | (refine ret_s [] ?_; simp (decide := true) (disch := omega) only [go_sem, ↓reduceIte, ↓put_at]))))
          simp only [hw]
          refine mkI_s (by kernel_rfl) ?_
          (repeat' ((first | refine sp_ ?_ | exact ex0 | (refine ret_s [] ?_; simp (decide := true) (disch := omega) only [go_sem, ↓reduceIte, ↓put_at]))))
          refine inv_u Tryz.call127 157 (.agg (l11El w)) ⟨_, Tryz.underlying157, fun e h => by cases h⟩ (by kernel_rfl) c1 [] (by simp (decide := true) (disch := omega) only [go_sem, ↓reduceIte, ↓put_at]) ?_
          (repeat' ((first | refine sp_ ?_ | exact ex0 | (refine ret_s [] ?_; simp (decide := true) (disch := omega) only [go_sem, ↓reduceIte, ↓put_at]))))
          refine pfcall_u Tryz.call96 [] c2 (by simp (decide := true) (disch := omega) only [go_sem, ↓reduceIte, ↓put_at]) ?_
          (repeat' ((first | refine sp_ ?_ | exact ex0 | (refine ret_s [] ?_; simp (decide := true) (disch := omega) only [go_sem, ↓reduceIte, ↓put_at]))))
    · obtain rfl : j = l.length := by omega
      have hr2 := hr
      rw [List.take_length] at hr2
      simp only [List.take_length] at hal ⊢
      rw [if_pos hr2] at hP
      subst hP
      have c4 := out_bytes (hd ++ l.flatMap wrLn) (by omega)
      (repeat' ((first | refine sp_ ?_ | exact ex0 | refine call_u Tryz.call37 (c4) [(9, 0)] ex1 ?_ | (refine ret_s [] ?_; simp (decide := true) (disch := omega) only [go_sem, ↓reduceIte, ↓put_at]))))
set_option maxRecDepth 100000 in
set_option maxHeartbeats 8000000 in
theorem sub_builda (f src : Int) (hs : 0 ≤ src ∧ src < 4294967296) (l : List A11) (ho : ∀ x ∈ l, x.Ok) (hl : l.length ≤ maxLen) :
    Spec Tryz.prog 97 [.ca (.val (vi f)), .ca (.val (vu src)), .ca (.val (.lst 3 (l.map a11El))), .fn 98 []] [] (.ca (.val (pcV (bldP f mayAd (fun x => x.path) wrAd src l)))) [] := by
  have c0 := out_u32 [] [src] (by simp) (by simpa using hs)
  rw [List.nil_append, puts1] at c0
  obtain ⟨hd, hhd⟩ : ∃ hd, hd = putZ src 4 := ⟨_, rfl⟩
  have hdl : hd.length = 4 := by rw [hhd, putZ_length]
  obtain ⟨P, hP⟩ : ∃ P, P = bldP f mayAd (fun x => x.path) wrAd src l := ⟨_, rfl⟩
  rw [← hP]
  unfold bldP at hP
  rw [← hhd] at c0 hP
  clear hhd
  refine spec_of Tryz.func97 rfl Tryz.ntmps97 Tryz.results97 ⟨by decide, by simp⟩ fun C hC => ?_
  (repeat' ((fail_if_success (first | refine stop_at 2 ?_ | refine stop_l 2 ?_)); (first | refine sp_ ?_ | exact ex0 | (refine ret_s [] ?_; simp (decide := true) (disch := omega) only [go_sem, ↓reduceIte, ↓put_at]))))
  refine own_c (9, 0) 0 (9, 1) 5 1 ?_
  simp (decide := true) (disch := omega) only [go_sem, ↓reduceIte, ↓put_at]
  (repeat' ((fail_if_success (refine stop_reg 5 ?_)); (first | refine sp_ ?_ | exact ex0 | refine call_u Tryz.call39 (c0) [(9, 0)] ex1 ?_ | (refine ret_s [] ?_; simp (decide := true) (disch := omega) only [go_sem, ↓reduceIte, ↓put_at]))))
  refine loop_s (α := {j : Nat // j ≤ l.length ∧ rises mayAd (fun x => x.path) 0 (l.take j) = true}) (fun x => [(.s 0, .av (.val (vi f))), (.s 3, .av (.fn 98 [])), (.o (8, 0), .num 3), (.c (8, 0) 0, .av (.val (vi 0))), (.c (8, 0) 1, .av (.val (vi 0))), (.c (8, 0) 2, .av (.val (vs []))), (.s 8, .av (.ptr (8, 0) 0 0)), (.o (9, 0), .num 1), (.c (9, 0) 0, .av (.own (9, 1) 0 5 1 ((hd ++ (l.take x.1).flatMap wrAd).map byteEl))), (.k (9, 1), .row 5 1 (hd ++ (l.take x.1).flatMap wrAd).length), (.s 9, .av (.ptr (9, 0) 0 0)), (.s 10, .av (.val (vi (lastP (fun y : A11 => y.path) 0 (l.take x.1))))), (.s 16, .av (.val (.lst 3 (l.map a11El)))), (.s 17, .av (.val (vi l.length))), (.s 18, .av (.val (vi x.1)))]) (fun x => l.length - x.1) ⟨0, Nat.zero_le _, by rw [List.take_zero]; rfl⟩ ?_ (fun x => ?_)
  · simp only [List.take_zero, List.flatMap_nil, List.append_nil]
    simp (decide := true) (disch := omega) only [go_sem, ↓reduceIte, ↓put_at]
  · obtain ⟨j, hj, hr⟩ := x
    dsimp only at hj hr ⊢
    have hfew := rises_few mayAd (fun x => x.path) mayAd15 0 _ (by omega) hr
    rw [List.length_take, Nat.min_eq_left hj] at hfew
    have hal : (hd ++ (l.take j).flatMap wrAd).length = 4 + 4 * j := by rw [List.length_append, hdl, fm_len 4 wrAd wrAd_len, List.length_take, Nat.min_eq_left hj]
    by_cases hlt : j < l.length
    · have hge : (l.map a11El).getD j [] = a11El l[j] := by simp [hlt]
      have hok := ho _ (List.getElem_mem hlt)
      have ht : l.take (j + 1) = l.take j ++ [l[j]] := List.take_succ_eq_append_getElem hlt
      have hrs := rises_snoc mayAd (fun x => x.path) l[j] 0 (l.take j)
      have hls := lastP_snoc (fun y : A11 => y.path) 0 (l.take j) l[j]
      rw [← ht, hr, Bool.true_and] at hrs
      rw [← ht] at hls
      have hnx : (hd ++ (l.take j).flatMap wrAd) ++ wrAd l[j] = hd ++ (l.take (j + 1)).flatMap wrAd := by rw [ht, List.flatMap_append, List.append_assoc]; congr 1
      have hbad : rises mayAd (fun x => x.path) 0 (l.take (j + 1)) = false → P = (0, 0, []) := fun h => by
        rw [if_neg (fun h2 => by rw [rises_pre mayAd (fun x => x.path) 0 l (j + 1) h2] at h; cases h)] at hP
        exact hP
      have c1 := sub_amay l[j]
      have c2 := sub_apath l[j]
      have c3 := sub_awrite l[j] hok (hd ++ (l.take j).flatMap wrAd) (by omega)
      rw [hnx] at c3
      have hnl : (hd ++ (l.take (j + 1)).flatMap wrAd).length = 4 + 4 * j + 4 := by rw [← hnx, List.length_append, hal, wrAd_len]
      obtain ⟨B2, hB2⟩ : ∃ B2, B2 = hd ++ (l.take (j + 1)).flatMap wrAd := ⟨_, rfl⟩
      rw [← hB2] at c3 hnx hnl
      generalize hd ++ (l.take j).flatMap wrAd = B1 at *
      generalize hw : l[j] = w at *
      generalize lastP (fun y : A11 => y.path) 0 (l.take j) = la at *
      cases hm : mayAd w with
      | false =>
        rw [hm] at c1 hrs
        obtain rfl := hbad (by rw [hrs]; rfl)
        (repeat' ((first | refine sp_ ?_ | exact ex0 | (refine ret_s [] ?_; simp (decide := true) (disch := omega) only [go_sem, ↓reduceIte, ↓put_at]))))
        simp only [hw]
        refine mkI_s (by kernel_rfl) ?_
        (repeat' ((first | refine sp_ ?_ | exact ex0 | (refine ret_s [] ?_; simp (decide := true) (disch := omega) only [go_sem, ↓reduceIte, ↓put_at]))))
        refine inv_u Tryz.call130 160 (.agg (a11El w)) ⟨_, Tryz.underlying160, fun e h => by cases h⟩ (by kernel_rfl) c1 [] (by simp (decide := true) (disch := omega) only [go_sem, ↓reduceIte, ↓put_at]) ?_
        (repeat' ((first | refine sp_ ?_ | exact ex0 | (refine ret_s [] ?_; simp (decide := true) (disch := omega) only [go_sem, ↓reduceIte, ↓put_at]))))
      | true =>
        rw [hm, Bool.true_and] at hrs
        rw [hm] at c1
        by_cases hq : la < w.path
        · rw [decide_eq_true hq] at hrs
          (repeat' ((first | refine sp_ ?_ | exact ex0 | (refine ret_s [] ?_; simp (decide := true) (disch := omega) only [go_sem, ↓reduceIte, ↓put_at]))))
          simp only [hw]
          refine mkI_s (by kernel_rfl) ?_
          (repeat' ((first | refine sp_ ?_ | exact ex0 | (refine ret_s [] ?_; simp (decide := true) (disch := omega) only [go_sem, ↓reduceIte, ↓put_at]))))
          refine inv_u Tryz.call130 160 (.agg (a11El w)) ⟨_, Tryz.underlying160, fun e h => by cases h⟩ (by kernel_rfl) c1 [] (by simp (decide := true) (disch := omega) only [go_sem, ↓reduceIte, ↓put_at]) ?_
          (repeat' ((first | refine sp_ ?_ | exact ex0 | (refine ret_s [] ?_; simp (decide := true) (disch := omega) only [go_sem, ↓reduceIte, ↓put_at]))))
          refine pfcall_u Tryz.call98 [] c2 (by simp (decide := true) (disch := omega) only [go_sem, ↓reduceIte, ↓put_at]) ?_
          (repeat' ((first | refine sp_ ?_ | exact ex0 | (refine ret_s [] ?_; simp (decide := true) (disch := omega) only [go_sem, ↓reduceIte, ↓put_at]))))
          refine pfcall_u Tryz.call98 [] c2 (by simp (decide := true) (disch := omega) only [go_sem, ↓reduceIte, ↓put_at]) ?_
          (repeat' ((first | refine sp_ ?_ | exact ex0 | (refine ret_s [] ?_; simp (decide := true) (disch := omega) only [go_sem, ↓reduceIte, ↓put_at]))))
          refine mkI_s (by kernel_rfl) ?_
          (repeat' ((first | refine sp_ ?_ | exact ex0 | (refine ret_s [] ?_; simp (decide := true) (disch := omega) only [go_sem, ↓reduceIte, ↓put_at]))))
          refine inv_u Tryz.call131 160 (.agg (a11El w)) ⟨_, Tryz.underlying160, fun e h => by cases h⟩ (by kernel_rfl) c3 [(9, 0)] (by simp (decide := true) (disch := omega) only [go_sem, ↓reduceIte, ↓put_at]) ?_
          (repeat' ((first | refine sp_ ?_ | exact ex0 | (refine ret_s [] ?_; simp (decide := true) (disch := omega) only [go_sem, ↓reduceIte, ↓put_at]))))
          refine next_s (α := {j : Nat // j ≤ l.length ∧ rises mayAd (fun x => x.path) 0 (l.take j) = true}) ⟨j + 1, hlt, hrs⟩ ⟨?_, ?_⟩
          · (try dsimp only)
            rw [← hB2, hls]
            simp (decide := true) (disch := omega) only [go_sem, ↓reduceIte, ↓put_at]
            rw [hB2, List.length_append]
          · (try dsimp only)
            omega
        · rw [decide_eq_false hq] at hrs
          obtain rfl := hbad hrs
          (repeat' ((first | refine sp_ ?_ | exact ex0 | (refine ret_s [] ?_; simp (decide := true) (disch := omega) only [go_sem, ↓reduceIte, ↓put_at]))))
          simp only [hw]
          refine mkI_s (by kernel_rfl) ?_
          (repeat' ((first | refine sp_ ?_ | exact ex0 | (refine ret_s [] ?_; simp (decide := true) (disch := omega) only [go_sem, ↓reduceIte, ↓put_at]))))
          refine inv_u Tryz.call130 160 (.agg (a11El w)) ⟨_, Tryz.underlying160, fun e h => by cases h⟩ (by kernel_rfl) c1 [] (by simp (decide := true) (disch := omega) only [go_sem, ↓reduceIte, ↓put_at]) ?_
          (repeat' ((first | refine sp_ ?_ | exact ex0 | (refine ret_s [] ?_; simp (decide := true) (disch := omega) only [go_sem, ↓reduceIte, ↓put_at]))))
          refine pfcall_u Tryz.call98 [] c2 (by simp (decide := true) (disch := omega) only [go_sem, ↓reduceIte, ↓put_at]) ?_
          (repeat' ((first | refine sp_ ?_ | exact ex0 | (refine ret_s [] ?_; simp (decide := true) (disch := omega) only [go_sem, ↓reduceIte, ↓put_at]))))
    · obtain rfl : j = l.length := by omega
      have hr2 := hr
      rw [List.take_length] at hr2
      simp only [List.take_length] at hal ⊢
      rw [if_pos hr2] at hP
      subst hP
      have c4 := out_bytes (hd ++ l.flatMap wrAd) (by omega)
      (repeat' ((first | refine sp_ ?_ | exact ex0 | refine call_u Tryz.call37 (c4) [(9, 0)] ex1 ?_ | (refine ret_s [] ?_; simp (decide := true) (disch := omega) only [go_sem, ↓reduceIte, ↓put_at]))))
set_option maxRecDepth 100000 in
set_option maxHeartbeats 4000000 in
theorem sub_lines (r : R11) (hs : 0 ≤ r.src ∧ r.src < 4294967296) (ho : ∀ x ∈ r.all, x.Ok) (hl : r.all.length ≤ maxLen) : Spec Tryz.prog 81 [.ca (.val (.agg (r11L r)))] [] (.ca (.val (pcV (linesP r)))) [] := by
  obtain ⟨src, l⟩ := r
  dsimp only at hs ho hl
  have c := sub_buildl 1 src hs l ho hl
  by_cases h0 : l.length = 0
  · rw [show linesP ⟨src, l⟩ = (0, 0, []) by unfold linesP; rw [if_pos h0]]
    refine spec_of Tryz.func81 rfl Tryz.ntmps81 Tryz.results81 ⟨by decide, by simp⟩ fun C hC => ?_
    (repeat' ((first | refine sp_ ?_ | exact ex0 | (refine ret_s [] ?_; simp (decide := true) (disch := omega) only [go_sem, ↓reduceIte, ↓put_at]))))
  · rw [show linesP ⟨src, l⟩ = bldP 1 mayLn (fun x => x.path) wrLn src l by unfold linesP; rw [if_neg h0]]
    refine spec_of Tryz.func81 rfl Tryz.ntmps81 Tryz.results81 ⟨by decide, by simp⟩ fun C hC => ?_
    (repeat' ((first | refine sp_ ?_ | exact ex0 | refine call_u Tryz.call95 (c) [] ex1 ?_ | (refine ret_s [] ?_; simp (decide := true) (disch := omega) only [go_sem, ↓reduceIte, ↓put_at]))))
set_option maxRecDepth 100000 in
set_option maxHeartbeats 4000000 in
theorem sub_ads (r : S11) (hs : 0 ≤ r.src ∧ r.src < 4294967296) (hl : r.all.length ≤ maxLen) : Spec Tryz.prog 82 [.ca (.val (.agg (s11L r)))] [] (.ca (.val (pcV (adsP r)))) [] := by
  obtain ⟨src, l⟩ := r
  dsimp only at hs hl
  have c := sub_builda 2 src hs l (fun _ _ => trivial) hl
  rw [show adsP ⟨src, l⟩ = bldP 2 mayAd (fun x => x.path) wrAd src l from rfl]
  refine spec_of Tryz.func82 rfl Tryz.ntmps82 Tryz.results82 ⟨by decide, by simp⟩ fun C hC => ?_
  (repeat' ((first | refine sp_ ?_ | exact ex0 | refine call_u Tryz.call97 (c) [] ex1 ?_ | (refine ret_s [] ?_; simp (decide := true) (disch := omega) only [go_sem, ↓reduceIte, ↓put_at]))))
end Go.Proofs.YtbnnfmleoebelaaGreat

