
/- Package rtp: Pack. -/
import Derived.Test.YtojcjbaimdjhoaaDoorRtp1
namespace Go.Proofs.YtojcjbaimdjhoaaDoor
open Go.RowKit
set_option linter.unusedVariables false
set_option linter.unusedSimpArgs false

/-- What is not needed any more may be forgotten. -/
theorem weak_s {P : Program} {C : Ctx} {σ : St} {Q : Exit → St → Prop} {c : Code} (L : List (Pl × X)) (hx : weakF σ L) (h : AW P C c (mkSt L) Q) : AW P C c σ Q := aw_weak L (weakF_ok hx) h
theorem tailB_eq (n : Nat) (h : n < 255) : tailB ((n : Int) + 1) = zer n ++ [UInt8.ofNat (n + 1)] := by
  unfold tailB
  rw [if_pos (by omega), show (((n : Int) + 1 - 1).toNat) = n by omega]
  congr 1
  have := put_byte (n + 1) (by omega)
  exact this
set_option maxRecDepth 100000 in
set_option maxHeartbeats 8000000 in
theorem rtp_pack (p : P4) (ho : p.Ok) (hl1 : p.ext.length ≤ maxLen) (hl2 : p.data.length ≤ 1099511627776) : Spec Tryd.prog 54 [.ca (.val (.agg (p4L p)))] [] (.ca (.val (vs (pack4 p)))) [] := by
  have c0 := rtp_check p hl1
  cases hm : may4 p with
  | false =>
    have e : pack4 p = [] := by unfold pack4; rw [hm]; rfl
    rw [hm, if_neg (by decide)] at c0
    rw [e]
    clear hm e
    obtain ⟨mk, kd, sq, tm, sr, os, hx, pf, ex, da, pd⟩ := p
    refine spec_of Tryd.func54 rfl Tryd.ntmps54 Tryd.results54 ⟨by decide, by simp⟩ fun C hC => ?_
    (repeat (first | refine aw_seq ?_ | refine aw_block ?_ | refine aw_reg hC (by kernel_rfl) ?_ | refine aw_regd hC Tryd.checked.mixed (by kernel_rfl) ?_ | refine chk_and (by kernel_rfl) ?_ | refine aw_skip ?_ | refine aw_if ?_ | refine And.intro (by first | omega | with_reducible assumption) ?_ | refine aw_exit ?_ | refine aw_ret ?_ | (simp (decide := true) (disch := omega) only [go_sem, ↓reduceIte, ↓put_at, reduceCtorEq, Nat.reduceAdd, Nat.reduceSub, Nat.reduceMul, Int.reduceToNat, Int.reducePow, Int.reduceAdd, Int.reduceSub, Int.reduceMul, Int.reduceNeg, Nat.min_eq_left, Nat.min_eq_right, Int.max_eq_left, Int.max_eq_right, Int.min_eq_left, Int.min_eq_right, Nat.reduceLeDiff])))
    refine call_s Tryd.call78 c0 [] ?_
    (repeat (first | refine aw_seq ?_ | refine aw_block ?_ | refine aw_reg hC (by kernel_rfl) ?_ | refine aw_regd hC Tryd.checked.mixed (by kernel_rfl) ?_ | refine chk_and (by kernel_rfl) ?_ | refine aw_skip ?_ | refine aw_if ?_ | refine And.intro (by first | omega | with_reducible assumption) ?_ | refine aw_exit ?_ | refine aw_ret ?_ | (simp (decide := true) (disch := omega) only [go_sem, ↓reduceIte, ↓put_at, reduceCtorEq, Nat.reduceAdd, Nat.reduceSub, Nat.reduceMul, Int.reduceToNat, Int.reducePow, Int.reduceAdd, Int.reduceSub, Int.reduceMul, Int.reduceNeg, Nat.min_eq_left, Nat.min_eq_right, Int.max_eq_left, Int.max_eq_right, Int.min_eq_left, Int.min_eq_right, Nat.reduceLeDiff])))
    (refine ret_s [] ?_; simp (decide := true) (disch := omega) only [go_sem, ↓reduceIte, ↓put_at, reduceCtorEq, Nat.reduceAdd, Nat.reduceSub, Nat.reduceMul, Int.reduceToNat, Int.reducePow, Int.reduceAdd, Int.reduceSub, Int.reduceMul, Int.reduceNeg, Nat.min_eq_left, Nat.min_eq_right, Int.max_eq_left, Int.max_eq_right, Int.min_eq_left, Int.min_eq_right, Nat.reduceLeDiff])
  | true =>
    rw [hm, if_pos rfl] at c0
    have e : pack4 p = body4 p := by unfold pack4; rw [if_pos hm]
    have hmm := (may4_iff p).1 hm
    rw [e]
    clear e hm
    obtain ⟨mk, kd, sq, tm, sr, os, hx, pf, ex, da, pd⟩ := p
    obtain ⟨o1, o2, o3, o4⟩ := ho
    dsimp only at hmm o1 o2 o3 o4 hl1 hl2
    obtain ⟨m1, m2, m3, m4, m5⟩ := hmm
    have hexl : ex.length ≤ 262140 := by
      cases hx with
      | true => rw [if_pos rfl] at m5; exact m5.2
      | false => rw [if_neg (by decide)] at m5; rw [m5.2]; simp
    have hfe : first4 ⟨mk, kd, sq, tm, sr, os, hx, pf, ex, da, pd⟩ = first0 ⟨mk, kd, sq, tm, sr, os, hx, pf, ex, da, pd⟩ + (if 0 < pd then 32 else 0) := rfl
    have c1 := rtp_first ⟨mk, kd, sq, tm, sr, os, hx, pf, ex, da, pd⟩ m2
    have c2 := rtp_second ⟨mk, kd, sq, tm, sr, os, hx, pf, ex, da, pd⟩ m1
    have hf0 : ∃ n : Nat, n < 32 ∧ first0 ⟨mk, kd, sq, tm, sr, os, hx, pf, ex, da, pd⟩ = 128 + n := by
      unfold first0
      dsimp only
      cases hx
      · exact ⟨os.length, by omega, by simp⟩
      · exact ⟨os.length + 16, by omega, by simp; omega⟩
    obtain ⟨nf, hnf, hf0⟩ := hf0
    have bo := bit_or32 nf hnf
    obtain ⟨F, hF⟩ : ∃ F, F = first4 ⟨mk, kd, sq, tm, sr, os, hx, pf, ex, da, pd⟩ := ⟨_, rfl⟩
    obtain ⟨G, hG⟩ : ∃ G, G = second4 ⟨mk, kd, sq, tm, sr, os, hx, pf, ex, da, pd⟩ := ⟨_, rfl⟩
    have hbody : body4 ⟨mk, kd, sq, tm, sr, os, hx, pf, ex, da, pd⟩ = puts' 1 [F, G] ++ puts' 2 [sq] ++ puts' 4 [tm, sr] ++ puts' 4 os ++ extB ⟨mk, kd, sq, tm, sr, os, hx, pf, ex, da, pd⟩ ++ da ++ tailB pd := by rw [hF, hG]; rfl
    rw [hbody]
    rw [← hF, hf0] at hfe
    rw [← hG] at c2
    rw [hf0] at c1
    clear hbody hF hG hf0
    refine spec_of Tryd.func54 rfl Tryd.ntmps54 Tryd.results54 ⟨by decide, by simp⟩ fun C hC => ?_
    (repeat (first | refine aw_seq ?_ | refine aw_block ?_ | refine aw_reg hC (by kernel_rfl) ?_ | refine aw_regd hC Tryd.checked.mixed (by kernel_rfl) ?_ | refine chk_and (by kernel_rfl) ?_ | refine aw_skip ?_ | refine aw_if ?_ | refine And.intro (by first | omega | with_reducible assumption) ?_ | refine aw_exit ?_ | refine aw_ret ?_ | (simp (decide := true) (disch := omega) only [go_sem, ↓reduceIte, ↓put_at, reduceCtorEq, Nat.reduceAdd, Nat.reduceSub, Nat.reduceMul, Int.reduceToNat, Int.reducePow, Int.reduceAdd, Int.reduceSub, Int.reduceMul, Int.reduceNeg, Nat.min_eq_left, Nat.min_eq_right, Int.max_eq_left, Int.max_eq_right, Int.min_eq_left, Int.min_eq_right, Nat.reduceLeDiff])))
    refine call_s Tryd.call78 c0 [] ?_
    (repeat (first | refine aw_seq ?_ | refine aw_block ?_ | refine aw_reg hC (by kernel_rfl) ?_ | refine aw_regd hC Tryd.checked.mixed (by kernel_rfl) ?_ | refine chk_and (by kernel_rfl) ?_ | refine aw_skip ?_ | refine aw_if ?_ | refine And.intro (by first | omega | with_reducible assumption) ?_ | refine aw_exit ?_ | refine aw_ret ?_ | (simp (decide := true) (disch := omega) only [go_sem, ↓reduceIte, ↓put_at, reduceCtorEq, Nat.reduceAdd, Nat.reduceSub, Nat.reduceMul, Int.reduceToNat, Int.reducePow, Int.reduceAdd, Int.reduceSub, Int.reduceMul, Int.reduceNeg, Nat.min_eq_left, Nat.min_eq_right, Int.max_eq_left, Int.max_eq_right, Int.min_eq_left, Int.min_eq_right, Nat.reduceLeDiff])))
    refine call_s Tryd.call79 c1 [] ?_
    (repeat ((fail_if_success (refine stop_reg 4 ?_)); (first | refine aw_seq ?_ | refine aw_block ?_ | refine aw_reg hC (by kernel_rfl) ?_ | refine aw_regd hC Tryd.checked.mixed (by kernel_rfl) ?_ | refine chk_and (by kernel_rfl) ?_ | refine aw_skip ?_ | refine aw_if ?_ | refine And.intro (by first | omega | with_reducible assumption) ?_ | refine aw_exit ?_ | refine aw_ret ?_ | (simp (decide := true) (disch := omega) only [go_sem, ↓reduceIte, ↓put_at, reduceCtorEq, Nat.reduceAdd, Nat.reduceSub, Nat.reduceMul, Int.reduceToNat, Int.reducePow, Int.reduceAdd, Int.reduceSub, Int.reduceMul, Int.reduceNeg, Nat.min_eq_left, Nat.min_eq_right, Int.max_eq_left, Int.max_eq_right, Int.min_eq_left, Int.min_eq_right, Nat.reduceLeDiff]))))
    refine meet_s (α := {_x : Unit // True}) (fun _ => [(.s 1, .av (.ptr (1, 0) 0 0)), (.o (1, 0), .num 11), (.c (1, 0) 0, .av (.val (vb mk))), (.c (1, 0) 1, .av (.val (vi kd))), (.c (1, 0) 2, .av (.val (vh sq))), (.c (1, 0) 3, .av (.val (vu tm))), (.c (1, 0) 4, .av (.val (vu sr))), (.c (1, 0) 5, .av (.val (.lst 1 (os.map u32El)))), (.c (1, 0) 6, .av (.val (vb hx))), (.c (1, 0) 7, .av (.val (vi pf))), (.c (1, 0) 8, .av (.val (vs ex))), (.c (1, 0) 9, .av (.val (vs da))), (.c (1, 0) 10, .av (.val (vi pd))), (.s 2, .av (.val (vs []))), (.s 3, .av (.val (vi F))), (.s 4, .av (.val (vs (tailB pd))))]) ?_ (fun x => ?_)
    · by_cases hp : 0 < pd
      · rw [if_pos hp] at hfe
        obtain ⟨n, rfl⟩ : ∃ n : Nat, pd = n + 1 := ⟨(pd - 1).toNat, by omega⟩
        have hn : n < 255 := by omega
        have hte := tailB_eq n hn
        have c3 := rep0 n (by omega)
        have hz := zer_len n
        (repeat (first | refine aw_seq ?_ | refine aw_block ?_ | refine aw_reg hC (by kernel_rfl) ?_ | refine aw_regd hC Tryd.checked.mixed (by kernel_rfl) ?_ | refine chk_and (by kernel_rfl) ?_ | refine aw_skip ?_ | refine aw_if ?_ | refine And.intro (by first | omega | with_reducible assumption) ?_ | refine aw_exit ?_ | refine aw_ret ?_ | (simp (decide := true) (disch := omega) only [go_sem, ↓reduceIte, ↓put_at, reduceCtorEq, Nat.reduceAdd, Nat.reduceSub, Nat.reduceMul, Int.reduceToNat, Int.reducePow, Int.reduceAdd, Int.reduceSub, Int.reduceMul, Int.reduceNeg, Nat.min_eq_left, Nat.min_eq_right, Int.max_eq_left, Int.max_eq_right, Int.min_eq_left, Int.min_eq_right, Nat.reduceLeDiff])))
        refine call_s Tryd.call44 c3 [] ?_
        (repeat (first | refine aw_seq ?_ | refine aw_block ?_ | refine aw_reg hC (by kernel_rfl) ?_ | refine aw_regd hC Tryd.checked.mixed (by kernel_rfl) ?_ | refine chk_and (by kernel_rfl) ?_ | refine aw_skip ?_ | refine aw_if ?_ | refine And.intro (by first | omega | with_reducible assumption) ?_ | refine aw_exit ?_ | refine aw_ret ?_ | (simp (decide := true) (disch := omega) only [go_sem, ↓reduceIte, ↓put_at, reduceCtorEq, Nat.reduceAdd, Nat.reduceSub, Nat.reduceMul, Int.reduceToNat, Int.reducePow, Int.reduceAdd, Int.reduceSub, Int.reduceMul, Int.reduceNeg, Nat.min_eq_left, Nat.min_eq_right, Int.max_eq_left, Int.max_eq_right, Int.min_eq_left, Int.min_eq_right, Nat.reduceLeDiff])))
        have hbe : [UInt8.ofNat (n + 1)].map byteEl = [[V.sc (.int .u8 ((n : Int) + 1))]] := by
          have h1 : (UInt8.ofNat (n + 1)).toNat = n + 1 := UInt8.toNat_ofNat_of_lt' (by show n + 1 < 256; omega)
          show [[V.sc (.int .u8 ((UInt8.ofNat (n + 1)).toNat : Int))]] = _
          rw [h1]
          rfl
        refine convBS_s [UInt8.ofNat (n + 1)] (by rw [hbe]; simp (decide := true) (disch := omega) only [go_sem, ↓reduceIte, ↓put_at, reduceCtorEq, Nat.reduceAdd, Nat.reduceSub, Nat.reduceMul, Int.reduceToNat, Int.reducePow, Int.reduceAdd, Int.reduceSub, Int.reduceMul, Int.reduceNeg, Nat.min_eq_left, Nat.min_eq_right, Int.max_eq_left, Int.max_eq_right, Int.min_eq_left, Int.min_eq_right, Nat.reduceLeDiff]) (by simp (decide := true) (disch := omega) only [go_sem, ↓reduceIte, ↓put_at, reduceCtorEq, Nat.reduceAdd, Nat.reduceSub, Nat.reduceMul, Int.reduceToNat, Int.reducePow, Int.reduceAdd, Int.reduceSub, Int.reduceMul, Int.reduceNeg, Nat.min_eq_left, Nat.min_eq_right, Int.max_eq_left, Int.max_eq_right, Int.min_eq_left, Int.min_eq_right, Nat.reduceLeDiff]) (by simp (decide := true) (disch := omega) only [go_sem, ↓reduceIte, ↓put_at, reduceCtorEq, Nat.reduceAdd, Nat.reduceSub, Nat.reduceMul, Int.reduceToNat, Int.reducePow, Int.reduceAdd, Int.reduceSub, Int.reduceMul, Int.reduceNeg, Nat.min_eq_left, Nat.min_eq_right, Int.max_eq_left, Int.max_eq_right, Int.min_eq_left, Int.min_eq_right, Nat.reduceLeDiff]) ?_
        (repeat (first | refine aw_seq ?_ | refine aw_block ?_ | refine aw_reg hC (by kernel_rfl) ?_ | refine aw_regd hC Tryd.checked.mixed (by kernel_rfl) ?_ | refine chk_and (by kernel_rfl) ?_ | refine aw_skip ?_ | refine aw_if ?_ | refine And.intro (by first | omega | with_reducible assumption) ?_ | refine aw_exit ?_ | refine aw_ret ?_ | (simp (decide := true) (disch := omega) only [go_sem, ↓reduceIte, ↓put_at, reduceCtorEq, Nat.reduceAdd, Nat.reduceSub, Nat.reduceMul, Int.reduceToNat, Int.reducePow, Int.reduceAdd, Int.reduceSub, Int.reduceMul, Int.reduceNeg, Nat.min_eq_left, Nat.min_eq_right, Int.max_eq_left, Int.max_eq_right, Int.min_eq_left, Int.min_eq_right, Nat.reduceLeDiff])))
        refine at_meet ⟨(), trivial⟩ ?_
        rw [hfe, hte]
        simp (decide := true) (disch := omega) only [go_sem, ↓reduceIte, ↓put_at, reduceCtorEq, Nat.reduceAdd, Nat.reduceSub, Nat.reduceMul, Int.reduceToNat, Int.reducePow, Int.reduceAdd, Int.reduceSub, Int.reduceMul, Int.reduceNeg, Nat.min_eq_left, Nat.min_eq_right, Int.max_eq_left, Int.max_eq_right, Int.min_eq_left, Int.min_eq_right, Nat.reduceLeDiff]
        exact bo
      · rw [if_neg hp] at hfe
        have hp0 : pd = 0 := by omega
        have ht : tailB pd = [] := by rw [hp0]; rfl
        (repeat (first | refine aw_seq ?_ | refine aw_block ?_ | refine aw_reg hC (by kernel_rfl) ?_ | refine aw_regd hC Tryd.checked.mixed (by kernel_rfl) ?_ | refine chk_and (by kernel_rfl) ?_ | refine aw_skip ?_ | refine aw_if ?_ | refine And.intro (by first | omega | with_reducible assumption) ?_ | refine aw_exit ?_ | refine aw_ret ?_ | (simp (decide := true) (disch := omega) only [go_sem, ↓reduceIte, ↓put_at, reduceCtorEq, Nat.reduceAdd, Nat.reduceSub, Nat.reduceMul, Int.reduceToNat, Int.reducePow, Int.reduceAdd, Int.reduceSub, Int.reduceMul, Int.reduceNeg, Nat.min_eq_left, Nat.min_eq_right, Int.max_eq_left, Int.max_eq_right, Int.min_eq_left, Int.min_eq_right, Nat.reduceLeDiff])))
        refine at_meet ⟨(), trivial⟩ ?_
        rw [hfe, ht]
        simp (decide := true) (disch := omega) only [go_sem, ↓reduceIte, ↓put_at, reduceCtorEq, Nat.reduceAdd, Nat.reduceSub, Nat.reduceMul, Int.reduceToNat, Int.reducePow, Int.reduceAdd, Int.reduceSub, Int.reduceMul, Int.reduceNeg, Nat.min_eq_left, Nat.min_eq_right, Int.max_eq_left, Int.max_eq_right, Int.min_eq_left, Int.min_eq_right, Nat.reduceLeDiff]
        try simp
    · have htl : (tailB pd).length ≤ 255 := by
        unfold tailB
        split
        · simp only [List.length_append, List.length_replicate, putZ_length]; omega
        · simp
      have hz1 := puts'_length 1 [F, G]
      have hz2 := puts'_length 2 [sq]
      have hz3 := puts'_length 4 [tm, sr]
      have hz4 := puts'_length 4 os
      simp only [List.length_cons, List.length_nil] at hz1 hz2 hz3 hz4
      have k1 := out_u8 [] [F, G] (by simp)
      rw [List.nil_append] at k1
      have k2 := out_u16 (puts' 1 [F, G]) [sq] (by simp only [List.length_cons, List.length_nil]; omega)
      have k3 := out_u32 (puts' 1 [F, G] ++ puts' 2 [sq]) [tm, sr] (by simp only [List.length_append, List.length_cons, List.length_nil]; omega) (by simpa using ⟨o2, o3⟩)
      have k4 := out_u32 (puts' 1 [F, G] ++ puts' 2 [sq] ++ puts' 4 [tm, sr]) os (by simp only [List.length_append]; omega) o4
      obtain ⟨B, hB⟩ : ∃ B, B = puts' 1 [F, G] ++ puts' 2 [sq] ++ puts' 4 [tm, sr] ++ puts' 4 os := ⟨_, rfl⟩
      rw [← hB] at k4 ⊢
      have hBl : B.length ≤ 72 := by rw [hB]; simp only [List.length_append]; omega
      clear hB
      (repeat (first | refine aw_seq ?_ | refine aw_block ?_ | refine aw_reg hC (by kernel_rfl) ?_ | refine aw_regd hC Tryd.checked.mixed (by kernel_rfl) ?_ | refine chk_and (by kernel_rfl) ?_ | refine aw_skip ?_ | refine aw_if ?_ | refine And.intro (by first | omega | with_reducible assumption) ?_ | refine aw_exit ?_ | refine aw_ret ?_ | (simp (decide := true) (disch := omega) only [go_sem, ↓reduceIte, ↓put_at, reduceCtorEq, Nat.reduceAdd, Nat.reduceSub, Nat.reduceMul, Int.reduceToNat, Int.reducePow, Int.reduceAdd, Int.reduceSub, Int.reduceMul, Int.reduceNeg, Nat.min_eq_left, Nat.min_eq_right, Int.max_eq_left, Int.max_eq_right, Int.min_eq_left, Int.min_eq_right, Nat.reduceLeDiff])))
      refine call_s Tryd.call80 c2 [] ?_
      (repeat (first | refine aw_seq ?_ | refine aw_block ?_ | refine aw_reg hC (by kernel_rfl) ?_ | refine aw_regd hC Tryd.checked.mixed (by kernel_rfl) ?_ | refine chk_and (by kernel_rfl) ?_ | refine aw_skip ?_ | refine aw_if ?_ | refine And.intro (by first | omega | with_reducible assumption) ?_ | refine aw_exit ?_ | refine aw_ret ?_ | (simp (decide := true) (disch := omega) only [go_sem, ↓reduceIte, ↓put_at, reduceCtorEq, Nat.reduceAdd, Nat.reduceSub, Nat.reduceMul, Int.reduceToNat, Int.reducePow, Int.reduceAdd, Int.reduceSub, Int.reduceMul, Int.reduceNeg, Nat.min_eq_left, Nat.min_eq_right, Int.max_eq_left, Int.max_eq_right, Int.min_eq_left, Int.min_eq_right, Nat.reduceLeDiff])))
      refine call_s Tryd.call51 k1 [(5, 0)] ?_
      (repeat (first | refine aw_seq ?_ | refine aw_block ?_ | refine aw_reg hC (by kernel_rfl) ?_ | refine aw_regd hC Tryd.checked.mixed (by kernel_rfl) ?_ | refine chk_and (by kernel_rfl) ?_ | refine aw_skip ?_ | refine aw_if ?_ | refine And.intro (by first | omega | with_reducible assumption) ?_ | refine aw_exit ?_ | refine aw_ret ?_ | (simp (decide := true) (disch := omega) only [go_sem, ↓reduceIte, ↓put_at, reduceCtorEq, Nat.reduceAdd, Nat.reduceSub, Nat.reduceMul, Int.reduceToNat, Int.reducePow, Int.reduceAdd, Int.reduceSub, Int.reduceMul, Int.reduceNeg, Nat.min_eq_left, Nat.min_eq_right, Int.max_eq_left, Int.max_eq_right, Int.min_eq_left, Int.min_eq_right, Nat.reduceLeDiff])))
      refine call_s Tryd.call52 k2 [(5, 0)] ?_
      (repeat (first | refine aw_seq ?_ | refine aw_block ?_ | refine aw_reg hC (by kernel_rfl) ?_ | refine aw_regd hC Tryd.checked.mixed (by kernel_rfl) ?_ | refine chk_and (by kernel_rfl) ?_ | refine aw_skip ?_ | refine aw_if ?_ | refine And.intro (by first | omega | with_reducible assumption) ?_ | refine aw_exit ?_ | refine aw_ret ?_ | (simp (decide := true) (disch := omega) only [go_sem, ↓reduceIte, ↓put_at, reduceCtorEq, Nat.reduceAdd, Nat.reduceSub, Nat.reduceMul, Int.reduceToNat, Int.reducePow, Int.reduceAdd, Int.reduceSub, Int.reduceMul, Int.reduceNeg, Nat.min_eq_left, Nat.min_eq_right, Int.max_eq_left, Int.max_eq_right, Int.min_eq_left, Int.min_eq_right, Nat.reduceLeDiff])))
      refine call_s Tryd.call81 k3 [(5, 0)] ?_
      (repeat (first | refine aw_seq ?_ | refine aw_block ?_ | refine aw_reg hC (by kernel_rfl) ?_ | refine aw_regd hC Tryd.checked.mixed (by kernel_rfl) ?_ | refine chk_and (by kernel_rfl) ?_ | refine aw_skip ?_ | refine aw_if ?_ | refine And.intro (by first | omega | with_reducible assumption) ?_ | refine aw_exit ?_ | refine aw_ret ?_ | (simp (decide := true) (disch := omega) only [go_sem, ↓reduceIte, ↓put_at, reduceCtorEq, Nat.reduceAdd, Nat.reduceSub, Nat.reduceMul, Int.reduceToNat, Int.reducePow, Int.reduceAdd, Int.reduceSub, Int.reduceMul, Int.reduceNeg, Nat.min_eq_left, Nat.min_eq_right, Int.max_eq_left, Int.max_eq_right, Int.min_eq_left, Int.min_eq_right, Nat.reduceLeDiff])))
      refine call_s Tryd.call81 k4 [(5, 0)] ?_
      (repeat ((fail_if_success (refine stop_reg 9 ?_)); (first | refine aw_seq ?_ | refine aw_block ?_ | refine aw_reg hC (by kernel_rfl) ?_ | refine aw_regd hC Tryd.checked.mixed (by kernel_rfl) ?_ | refine chk_and (by kernel_rfl) ?_ | refine aw_skip ?_ | refine aw_if ?_ | refine And.intro (by first | omega | with_reducible assumption) ?_ | refine aw_exit ?_ | refine aw_ret ?_ | (simp (decide := true) (disch := omega) only [go_sem, ↓reduceIte, ↓put_at, reduceCtorEq, Nat.reduceAdd, Nat.reduceSub, Nat.reduceMul, Int.reduceToNat, Int.reducePow, Int.reduceAdd, Int.reduceSub, Int.reduceMul, Int.reduceNeg, Nat.min_eq_left, Nat.min_eq_right, Int.max_eq_left, Int.max_eq_right, Int.min_eq_left, Int.min_eq_right, Nat.reduceLeDiff]))))
      refine weak_s [(.s 1, .av (.ptr (1, 0) 0 0)), (.o (1, 0), .num 11), (.c (1, 0) 0, .av (.val (vb mk))), (.c (1, 0) 1, .av (.val (vi kd))), (.c (1, 0) 2, .av (.val (vh sq))), (.c (1, 0) 3, .av (.val (vu tm))), (.c (1, 0) 4, .av (.val (vu sr))), (.c (1, 0) 5, .av (.val (.lst 1 (os.map u32El)))), (.c (1, 0) 6, .av (.val (vb hx))), (.c (1, 0) 7, .av (.val (vi pf))), (.c (1, 0) 8, .av (.val (vs ex))), (.c (1, 0) 9, .av (.val (vs da))), (.c (1, 0) 10, .av (.val (vi pd))), (.s 2, .av (.val (vs []))), (.s 4, .av (.val (vs (tailB pd)))), (.s 5, .av (.ptr (5, 0) 0 0)), (.o (5, 0), .num 1), (.c (5, 0) 0, .av (.own (5, 1) 0 5 1 (B.map byteEl))), (.k (5, 1), .row 5 1 (B.map byteEl).length)] (by simp (decide := true) (disch := omega) only [go_sem, ↓reduceIte, ↓put_at, reduceCtorEq, Nat.reduceAdd, Nat.reduceSub, Nat.reduceMul, Int.reduceToNat, Int.reducePow, Int.reduceAdd, Int.reduceSub, Int.reduceMul, Int.reduceNeg, Nat.min_eq_left, Nat.min_eq_right, Int.max_eq_left, Int.max_eq_right, Int.min_eq_left, Int.min_eq_right, Nat.reduceLeDiff]) ?_
      refine meet_s (α := {_x : Unit // True}) (fun _ => [(.s 1, .av (.ptr (1, 0) 0 0)), (.o (1, 0), .num 11), (.c (1, 0) 0, .av (.val (vb mk))), (.c (1, 0) 1, .av (.val (vi kd))), (.c (1, 0) 2, .av (.val (vh sq))), (.c (1, 0) 3, .av (.val (vu tm))), (.c (1, 0) 4, .av (.val (vu sr))), (.c (1, 0) 5, .av (.val (.lst 1 (os.map u32El)))), (.c (1, 0) 6, .av (.val (vb hx))), (.c (1, 0) 7, .av (.val (vi pf))), (.c (1, 0) 8, .av (.val (vs ex))), (.c (1, 0) 9, .av (.val (vs da))), (.c (1, 0) 10, .av (.val (vi pd))), (.s 2, .av (.val (vs []))), (.s 4, .av (.val (vs (tailB pd)))), (.s 5, .av (.ptr (5, 0) 0 0)), (.o (5, 0), .num 1), (.c (5, 0) 0, .av (.own (5, 1) 0 5 1 ((B ++ extB ⟨mk, kd, sq, tm, sr, os, hx, pf, ex, da, pd⟩).map byteEl))), (.k (5, 1), .row 5 1 ((B ++ extB ⟨mk, kd, sq, tm, sr, os, hx, pf, ex, da, pd⟩).map byteEl).length)]) ?_ (fun x => ?_)
      · cases hx with
        | true =>
          have e1 : extB ⟨mk, kd, sq, tm, sr, os, true, pf, ex, da, pd⟩ = puts' 2 [pf, ((ex.length / 4 : Nat) : Int)] ++ ex := rfl
          have hz5 := puts'_length 2 [pf, ((ex.length / 4 : Nat) : Int)]
          simp only [List.length_cons, List.length_nil] at hz5
          have k5 := out_u16 B [pf, ((ex.length / 4 : Nat) : Int)] (by simp only [List.length_cons, List.length_nil]; omega)
          have k6 := out_raw (B ++ puts' 2 [pf, ((ex.length / 4 : Nat) : Int)]) [ex] (by simp only [List.length_append, List.flatten_cons, List.flatten_nil, List.append_nil]; omega) (by simp)
          (repeat (first | refine aw_seq ?_ | refine aw_block ?_ | refine aw_reg hC (by kernel_rfl) ?_ | refine aw_regd hC Tryd.checked.mixed (by kernel_rfl) ?_ | refine chk_and (by kernel_rfl) ?_ | refine aw_skip ?_ | refine aw_if ?_ | refine And.intro (by first | omega | with_reducible assumption) ?_ | refine aw_exit ?_ | refine aw_ret ?_ | (simp (decide := true) (disch := omega) only [go_sem, ↓reduceIte, ↓put_at, reduceCtorEq, Nat.reduceAdd, Nat.reduceSub, Nat.reduceMul, Int.reduceToNat, Int.reducePow, Int.reduceAdd, Int.reduceSub, Int.reduceMul, Int.reduceNeg, Nat.min_eq_left, Nat.min_eq_right, Int.max_eq_left, Int.max_eq_right, Int.min_eq_left, Int.min_eq_right, Nat.reduceLeDiff])))
          refine call_s Tryd.call52 k5 [(5, 0)] ?_
          (repeat (first | refine aw_seq ?_ | refine aw_block ?_ | refine aw_reg hC (by kernel_rfl) ?_ | refine aw_regd hC Tryd.checked.mixed (by kernel_rfl) ?_ | refine chk_and (by kernel_rfl) ?_ | refine aw_skip ?_ | refine aw_if ?_ | refine And.intro (by first | omega | with_reducible assumption) ?_ | refine aw_exit ?_ | refine aw_ret ?_ | (simp (decide := true) (disch := omega) only [go_sem, ↓reduceIte, ↓put_at, reduceCtorEq, Nat.reduceAdd, Nat.reduceSub, Nat.reduceMul, Int.reduceToNat, Int.reducePow, Int.reduceAdd, Int.reduceSub, Int.reduceMul, Int.reduceNeg, Nat.min_eq_left, Nat.min_eq_right, Int.max_eq_left, Int.max_eq_right, Int.min_eq_left, Int.min_eq_right, Nat.reduceLeDiff])))
          refine ⟨by rw [Int.natCast_ediv]; rfl, ?_⟩
          (repeat (first | refine aw_seq ?_ | refine aw_block ?_ | refine aw_reg hC (by kernel_rfl) ?_ | refine aw_regd hC Tryd.checked.mixed (by kernel_rfl) ?_ | refine chk_and (by kernel_rfl) ?_ | refine aw_skip ?_ | refine aw_if ?_ | refine And.intro (by first | omega | with_reducible assumption) ?_ | refine aw_exit ?_ | refine aw_ret ?_ | (simp (decide := true) (disch := omega) only [go_sem, ↓reduceIte, ↓put_at, reduceCtorEq, Nat.reduceAdd, Nat.reduceSub, Nat.reduceMul, Int.reduceToNat, Int.reducePow, Int.reduceAdd, Int.reduceSub, Int.reduceMul, Int.reduceNeg, Nat.min_eq_left, Nat.min_eq_right, Int.max_eq_left, Int.max_eq_right, Int.min_eq_left, Int.min_eq_right, Nat.reduceLeDiff])))
          refine call_s Tryd.call42 k6 [(5, 0)] ?_
          (repeat (first | refine aw_seq ?_ | refine aw_block ?_ | refine aw_reg hC (by kernel_rfl) ?_ | refine aw_regd hC Tryd.checked.mixed (by kernel_rfl) ?_ | refine chk_and (by kernel_rfl) ?_ | refine aw_skip ?_ | refine aw_if ?_ | refine And.intro (by first | omega | with_reducible assumption) ?_ | refine aw_exit ?_ | refine aw_ret ?_ | (simp (decide := true) (disch := omega) only [go_sem, ↓reduceIte, ↓put_at, reduceCtorEq, Nat.reduceAdd, Nat.reduceSub, Nat.reduceMul, Int.reduceToNat, Int.reducePow, Int.reduceAdd, Int.reduceSub, Int.reduceMul, Int.reduceNeg, Nat.min_eq_left, Nat.min_eq_right, Int.max_eq_left, Int.max_eq_right, Int.min_eq_left, Int.min_eq_right, Nat.reduceLeDiff])))
          refine at_meet ⟨(), trivial⟩ ?_
          rw [e1]
          simp (decide := true) (disch := omega) only [go_sem, ↓reduceIte, ↓put_at, reduceCtorEq, Nat.reduceAdd, Nat.reduceSub, Nat.reduceMul, Int.reduceToNat, Int.reducePow, Int.reduceAdd, Int.reduceSub, Int.reduceMul, Int.reduceNeg, Nat.min_eq_left, Nat.min_eq_right, Int.max_eq_left, Int.max_eq_right, Int.min_eq_left, Int.min_eq_right, Nat.reduceLeDiff]
          all_goals (try simp)
          all_goals (try omega)
        | false =>
          have e1 : extB ⟨mk, kd, sq, tm, sr, os, false, pf, ex, da, pd⟩ = [] := rfl
          (repeat (first | refine aw_seq ?_ | refine aw_block ?_ | refine aw_reg hC (by kernel_rfl) ?_ | refine aw_regd hC Tryd.checked.mixed (by kernel_rfl) ?_ | refine chk_and (by kernel_rfl) ?_ | refine aw_skip ?_ | refine aw_if ?_ | refine And.intro (by first | omega | with_reducible assumption) ?_ | refine aw_exit ?_ | refine aw_ret ?_ | (simp (decide := true) (disch := omega) only [go_sem, ↓reduceIte, ↓put_at, reduceCtorEq, Nat.reduceAdd, Nat.reduceSub, Nat.reduceMul, Int.reduceToNat, Int.reducePow, Int.reduceAdd, Int.reduceSub, Int.reduceMul, Int.reduceNeg, Nat.min_eq_left, Nat.min_eq_right, Int.max_eq_left, Int.max_eq_right, Int.min_eq_left, Int.min_eq_right, Nat.reduceLeDiff])))
          refine at_meet ⟨(), trivial⟩ ?_
          rw [e1, List.append_nil]
          simp (decide := true) (disch := omega) only [go_sem, ↓reduceIte, ↓put_at, reduceCtorEq, Nat.reduceAdd, Nat.reduceSub, Nat.reduceMul, Int.reduceToNat, Int.reducePow, Int.reduceAdd, Int.reduceSub, Int.reduceMul, Int.reduceNeg, Nat.min_eq_left, Nat.min_eq_right, Int.max_eq_left, Int.max_eq_right, Int.min_eq_left, Int.min_eq_right, Nat.reduceLeDiff]
          try rfl
      · have hel : (extB ⟨mk, kd, sq, tm, sr, os, hx, pf, ex, da, pd⟩).length ≤ 262144 := by
          unfold extB
          split
          · simp only [List.length_append, puts'_length, List.length_cons, List.length_nil]; omega
          · simp
        generalize extB ⟨mk, kd, sq, tm, sr, os, hx, pf, ex, da, pd⟩ = X at *
        have k7 := out_raw (B ++ X) [da, tailB pd] (by simp only [List.length_append, List.flatten_cons, List.flatten_nil, List.append_nil]; omega) (by simp)
        have e7 : B ++ X ++ [da, tailB pd].flatten = B ++ X ++ da ++ tailB pd := by simp
        rw [e7] at k7
        have k8 := out_bytes (B ++ X ++ da ++ tailB pd) (by simp only [List.length_append]; omega)
        (repeat (first | refine aw_seq ?_ | refine aw_block ?_ | refine aw_reg hC (by kernel_rfl) ?_ | refine aw_regd hC Tryd.checked.mixed (by kernel_rfl) ?_ | refine chk_and (by kernel_rfl) ?_ | refine aw_skip ?_ | refine aw_if ?_ | refine And.intro (by first | omega | with_reducible assumption) ?_ | refine aw_exit ?_ | refine aw_ret ?_ | (simp (decide := true) (disch := omega) only [go_sem, ↓reduceIte, ↓put_at, reduceCtorEq, Nat.reduceAdd, Nat.reduceSub, Nat.reduceMul, Int.reduceToNat, Int.reducePow, Int.reduceAdd, Int.reduceSub, Int.reduceMul, Int.reduceNeg, Nat.min_eq_left, Nat.min_eq_right, Int.max_eq_left, Int.max_eq_right, Int.min_eq_left, Int.min_eq_right, Nat.reduceLeDiff])))
        refine call_s Tryd.call42 k7 [(5, 0)] ?_
        (repeat (first | refine aw_seq ?_ | refine aw_block ?_ | refine aw_reg hC (by kernel_rfl) ?_ | refine aw_regd hC Tryd.checked.mixed (by kernel_rfl) ?_ | refine chk_and (by kernel_rfl) ?_ | refine aw_skip ?_ | refine aw_if ?_ | refine And.intro (by first | omega | with_reducible assumption) ?_ | refine aw_exit ?_ | refine aw_ret ?_ | (simp (decide := true) (disch := omega) only [go_sem, ↓reduceIte, ↓put_at, reduceCtorEq, Nat.reduceAdd, Nat.reduceSub, Nat.reduceMul, Int.reduceToNat, Int.reducePow, Int.reduceAdd, Int.reduceSub, Int.reduceMul, Int.reduceNeg, Nat.min_eq_left, Nat.min_eq_right, Int.max_eq_left, Int.max_eq_right, Int.min_eq_left, Int.min_eq_right, Nat.reduceLeDiff])))
        refine call_s Tryd.call43 k8 [(5, 0)] ?_
        (repeat (first | refine aw_seq ?_ | refine aw_block ?_ | refine aw_reg hC (by kernel_rfl) ?_ | refine aw_regd hC Tryd.checked.mixed (by kernel_rfl) ?_ | refine chk_and (by kernel_rfl) ?_ | refine aw_skip ?_ | refine aw_if ?_ | refine And.intro (by first | omega | with_reducible assumption) ?_ | refine aw_exit ?_ | refine aw_ret ?_ | (simp (decide := true) (disch := omega) only [go_sem, ↓reduceIte, ↓put_at, reduceCtorEq, Nat.reduceAdd, Nat.reduceSub, Nat.reduceMul, Int.reduceToNat, Int.reducePow, Int.reduceAdd, Int.reduceSub, Int.reduceMul, Int.reduceNeg, Nat.min_eq_left, Nat.min_eq_right, Int.max_eq_left, Int.max_eq_right, Int.min_eq_left, Int.min_eq_right, Nat.reduceLeDiff])))
        (refine ret_s [] ?_; simp (decide := true) (disch := omega) only [go_sem, ↓reduceIte, ↓put_at, reduceCtorEq, Nat.reduceAdd, Nat.reduceSub, Nat.reduceMul, Int.reduceToNat, Int.reducePow, Int.reduceAdd, Int.reduceSub, Int.reduceMul, Int.reduceNeg, Nat.min_eq_left, Nat.min_eq_right, Int.max_eq_left, Int.max_eq_right, Int.min_eq_left, Int.min_eq_right, Nat.reduceLeDiff])
end Go.Proofs.YtojcjbaimdjhoaaDoor
