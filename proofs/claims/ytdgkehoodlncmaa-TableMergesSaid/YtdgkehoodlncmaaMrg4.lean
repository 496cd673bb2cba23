
/- Adverts as a piece, and back; walked. -/
import Derived.Test.YtdgkehoodlncmaaMrg2
import Derived.Test.YtdgkehoodlncmaaQPiece
namespace Go.Proofs.Ytdgkehoodlncmaa
open Go.RowKit
set_option linter.unusedVariables false
set_option linter.unusedSimpArgs false

theorem ads_snoc (src : Int) (l : List En) (e : En) : adsB src (l ++ [e]) = adsB src l ++ adB e := by simp [adsB]
set_option maxRecDepth 100000 in
set_option maxHeartbeats 4000000 in
theorem sf_build (src : Int) (hs : 0 ≤ src ∧ src < 4294967296) (l : List En) (hu : Up16 l) (ho : ∀ e ∈ l, okE e) (hl : l.length ≤ 1000) :
    Spec Try.prog 88 [.ca (.val (vi 2)), .ca (.val (vu src)), .ca (.val (.lst 3 (l.map enEl))), .fn 89 []] [] (.ca (.val (.agg [vi 2, vi 211, vs (adsB src l)]))) [] := by
  have c0 := out_u32 [] [src] (by simp) (by simpa using hs)
  rw [show [] ++ puts' 4 [src] = adsB src [] by simp [puts', adsB]] at c0
  refine spec_of Try.func88 rfl Try.ntmps88 Try.results88 ⟨by decide, by simp⟩ fun C hC => ?_
  (repeat' ((fail_if_success (first | refine stop_at 2 ?_ | refine stop_l 2 ?_)); (first | refine aw_seq ?_ | refine aw_block ?_ | refine aw_reg hC (by kernel_rfl) ?_ | refine aw_regd hC Try.checked.mixed (by kernel_rfl) ?_ | refine chk_and (by kernel_rfl) ?_ | refine aw_skip ?_ | refine aw_if ?_ | refine And.intro (by first | omega | with_reducible assumption) ?_ | refine aw_exit ?_ | refine aw_ret ?_ | (simp (decide := true) (disch := omega) only [go_sem, ↓reduceIte, ↓put_at]) | (refine ret_s [] ?_; simp (decide := true) (disch := omega) only [go_sem, ↓reduceIte, ↓put_at]))))
  refine own_c (9, 0) 0 (9, 1) 5 1 ?_
  simp (decide := true) (disch := omega) only [go_sem, ↓reduceIte, ↓put_at]
  (repeat' ((fail_if_success (refine stop_reg 5 ?_)); (first | refine aw_seq ?_ | refine aw_block ?_ | refine aw_reg hC (by kernel_rfl) ?_ | refine aw_regd hC Try.checked.mixed (by kernel_rfl) ?_ | refine chk_and (by kernel_rfl) ?_ | refine aw_skip ?_ | refine aw_if ?_ | refine And.intro (by first | omega | with_reducible assumption) ?_ | refine aw_exit ?_ | refine aw_ret ?_ | (simp (decide := true) (disch := omega) only [go_sem, ↓reduceIte, ↓put_at]) | refine call_u Try.call127 (c0) [(9, 0)] (by simp (decide := true) (disch := omega) only [go_sem, ↓reduceIte, ↓put_at]; first | done | assumption | omega) ?_ | (refine ret_s [] ?_; simp (decide := true) (disch := omega) only [go_sem, ↓reduceIte, ↓put_at]))))
  refine loop_s (α := {x : Nat × Int // x.1 ≤ l.length ∧ ∀ k (h : k < l.length), x.1 ≤ k → x.2 < l[k].id}) (fun x => [(.s 0, .av (.val (vi 2))), (.s 3, .av (.fn 89 [])), (.o (8, 0), .num 3), (.c (8, 0) 0, .av (.val (vi 0))), (.c (8, 0) 1, .av (.val (vi 0))), (.c (8, 0) 2, .av (.val (vs []))), (.s 8, .av (.ptr (8, 0) 0 0)), (.o (9, 0), .num 1), (.c (9, 0) 0, .av (.own (9, 1) 0 5 1 ((adsB src (l.take x.1.1)).map byteEl))), (.k (9, 1), .row 5 1 (adsB src (l.take x.1.1)).length), (.s 9, .av (.ptr (9, 0) 0 0)), (.s 10, .av (.val (vi x.1.2))), (.s 16, .av (.val (.lst 3 (l.map enEl)))), (.s 17, .av (.val (vi l.length))), (.s 18, .av (.val (vi x.1.1)))]) (fun x => l.length - x.1.1) ⟨(0, 0), Nat.zero_le _, fun k h _ => by have := ho _ (List.getElem_mem h); dsimp only; unfold okE at this; omega⟩ ?_ (fun x => ?_)
  · simp (decide := true) (disch := omega) only [go_sem, ↓reduceIte, ↓put_at]
  · obtain ⟨⟨j, last⟩, hj, hq⟩ := x
    dsimp only at hj hq ⊢
    by_cases hlt : j < l.length
    · have hge : (l.map enEl).getD j [] = enEl l[j] := by simp [hlt]
      have hok := ho _ (List.getElem_mem hlt)
      have hlast := hq j hlt (Nat.le_refl _)
      have c1 := sf_may l[j] hok
      have c2 := sf_path l[j]
      have hal := adsB_len src (l.take j)
      rw [List.length_take] at hal
      have c3 := sf_write l[j] (adsB src (l.take j)) (by omega)
      have hnx : adsB src (l.take (j + 1)) = adsB src (l.take j) ++ adB l[j] := by rw [← List.take_append_getElem hlt, ads_snoc]
      have hq2 : ∀ k (h : k < l.length), j + 1 ≤ k → l[j].id < l[k].id := fun k h hk => up_get hu (by omega) h
      rw [← hnx] at c3
      obtain ⟨B2, hB2⟩ : ∃ B2, B2 = adsB src (l.take (j + 1)) := ⟨_, rfl⟩
      rw [← hB2] at c3 hnx
      generalize adsB src (l.take j) = B1 at *
      generalize hw : l[j] = w at *
      (repeat' ((first | refine aw_seq ?_ | refine aw_block ?_ | refine aw_reg hC (by kernel_rfl) ?_ | refine aw_regd hC Try.checked.mixed (by kernel_rfl) ?_ | refine chk_and (by kernel_rfl) ?_ | refine aw_skip ?_ | refine aw_if ?_ | refine And.intro (by first | omega | with_reducible assumption) ?_ | refine aw_exit ?_ | refine aw_ret ?_ | (simp (decide := true) (disch := omega) only [go_sem, ↓reduceIte, ↓put_at]) | (refine ret_s [] ?_; simp (decide := true) (disch := omega) only [go_sem, ↓reduceIte, ↓put_at]))))
      simp only [hw]
      refine mkI_s (by kernel_rfl) ?_
      (repeat' ((first | refine aw_seq ?_ | refine aw_block ?_ | refine aw_reg hC (by kernel_rfl) ?_ | refine aw_regd hC Try.checked.mixed (by kernel_rfl) ?_ | refine chk_and (by kernel_rfl) ?_ | refine aw_skip ?_ | refine aw_if ?_ | refine And.intro (by first | omega | with_reducible assumption) ?_ | refine aw_exit ?_ | refine aw_ret ?_ | (simp (decide := true) (disch := omega) only [go_sem, ↓reduceIte, ↓put_at]) | (refine ret_s [] ?_; simp (decide := true) (disch := omega) only [go_sem, ↓reduceIte, ↓put_at]))))
      refine inv_u Try.call188 159 (.agg (enEl w)) ⟨_, Try.underlying159, fun e h => by cases h⟩ (by kernel_rfl) c1 [] (by simp (decide := true) (disch := omega) only [go_sem, ↓reduceIte, ↓put_at]) ?_
      (repeat' ((first | refine aw_seq ?_ | refine aw_block ?_ | refine aw_reg hC (by kernel_rfl) ?_ | refine aw_regd hC Try.checked.mixed (by kernel_rfl) ?_ | refine chk_and (by kernel_rfl) ?_ | refine aw_skip ?_ | refine aw_if ?_ | refine And.intro (by first | omega | with_reducible assumption) ?_ | refine aw_exit ?_ | refine aw_ret ?_ | (simp (decide := true) (disch := omega) only [go_sem, ↓reduceIte, ↓put_at]) | (refine ret_s [] ?_; simp (decide := true) (disch := omega) only [go_sem, ↓reduceIte, ↓put_at]))))
      refine pfcall_u Try.call89 [] c2 (by simp (decide := true) (disch := omega) only [go_sem, ↓reduceIte, ↓put_at]) ?_
      (repeat' ((first | refine aw_seq ?_ | refine aw_block ?_ | refine aw_reg hC (by kernel_rfl) ?_ | refine aw_regd hC Try.checked.mixed (by kernel_rfl) ?_ | refine chk_and (by kernel_rfl) ?_ | refine aw_skip ?_ | refine aw_if ?_ | refine And.intro (by first | omega | with_reducible assumption) ?_ | refine aw_exit ?_ | refine aw_ret ?_ | (simp (decide := true) (disch := omega) only [go_sem, ↓reduceIte, ↓put_at]) | (refine ret_s [] ?_; simp (decide := true) (disch := omega) only [go_sem, ↓reduceIte, ↓put_at]))))
      refine pfcall_u Try.call89 [] c2 (by simp (decide := true) (disch := omega) only [go_sem, ↓reduceIte, ↓put_at]) ?_
      (repeat' ((first | refine aw_seq ?_ | refine aw_block ?_ | refine aw_reg hC (by kernel_rfl) ?_ | refine aw_regd hC Try.checked.mixed (by kernel_rfl) ?_ | refine chk_and (by kernel_rfl) ?_ | refine aw_skip ?_ | refine aw_if ?_ | refine And.intro (by first | omega | with_reducible assumption) ?_ | refine aw_exit ?_ | refine aw_ret ?_ | (simp (decide := true) (disch := omega) only [go_sem, ↓reduceIte, ↓put_at]) | (refine ret_s [] ?_; simp (decide := true) (disch := omega) only [go_sem, ↓reduceIte, ↓put_at]))))
      refine mkI_s (by kernel_rfl) ?_
      (repeat' ((first | refine aw_seq ?_ | refine aw_block ?_ | refine aw_reg hC (by kernel_rfl) ?_ | refine aw_regd hC Try.checked.mixed (by kernel_rfl) ?_ | refine chk_and (by kernel_rfl) ?_ | refine aw_skip ?_ | refine aw_if ?_ | refine And.intro (by first | omega | with_reducible assumption) ?_ | refine aw_exit ?_ | refine aw_ret ?_ | (simp (decide := true) (disch := omega) only [go_sem, ↓reduceIte, ↓put_at]) | (refine ret_s [] ?_; simp (decide := true) (disch := omega) only [go_sem, ↓reduceIte, ↓put_at]))))
      refine inv_u Try.call189 159 (.agg (enEl w)) ⟨_, Try.underlying159, fun e h => by cases h⟩ (by kernel_rfl) c3 [(9, 0)] (by simp (decide := true) (disch := omega) only [go_sem, ↓reduceIte, ↓put_at]) ?_
      (repeat' ((first | refine aw_seq ?_ | refine aw_block ?_ | refine aw_reg hC (by kernel_rfl) ?_ | refine aw_regd hC Try.checked.mixed (by kernel_rfl) ?_ | refine chk_and (by kernel_rfl) ?_ | refine aw_skip ?_ | refine aw_if ?_ | refine And.intro (by first | omega | with_reducible assumption) ?_ | refine aw_exit ?_ | refine aw_ret ?_ | (simp (decide := true) (disch := omega) only [go_sem, ↓reduceIte, ↓put_at]) | (refine ret_s [] ?_; simp (decide := true) (disch := omega) only [go_sem, ↓reduceIte, ↓put_at]))))
      refine next_s (α := {x : Nat × Int // x.1 ≤ l.length ∧ ∀ k (h : k < l.length), x.1 ≤ k → x.2 < l[k].id}) ⟨(j + 1, w.id), hlt, hq2⟩ ⟨?_, ?_⟩
      · (try dsimp only)
        rw [← hB2]
        simp (decide := true) (disch := omega) only [go_sem, ↓reduceIte, ↓put_at]
      · (try dsimp only)
        omega
    · obtain rfl : j = l.length := by omega
      have hal := adsB_len src l
      rw [List.take_length]
      have c4 := out_bytes (adsB src l) (by omega)
      (repeat' ((first | refine aw_seq ?_ | refine aw_block ?_ | refine aw_reg hC (by kernel_rfl) ?_ | refine aw_regd hC Try.checked.mixed (by kernel_rfl) ?_ | refine chk_and (by kernel_rfl) ?_ | refine aw_skip ?_ | refine aw_if ?_ | refine And.intro (by first | omega | with_reducible assumption) ?_ | refine aw_exit ?_ | refine aw_ret ?_ | (simp (decide := true) (disch := omega) only [go_sem, ↓reduceIte, ↓put_at]) | refine call_u Try.call128 (c4) [(9, 0)] (by simp (decide := true) (disch := omega) only [go_sem, ↓reduceIte, ↓put_at]; first | done | assumption | omega) ?_ | (refine ret_s [] ?_; simp (decide := true) (disch := omega) only [go_sem, ↓reduceIte, ↓put_at]))))
set_option maxRecDepth 100000 in
theorem sf_piece (src : Int) (hs : 0 ≤ src ∧ src < 4294967296) (l : List En) (hu : Up16 l) (ho : ∀ e ∈ l, okE e) (hl : l.length ≤ 1000) :
    Spec Try.prog 33 [.ca (.val (.agg (adV src l)))] [] (.ca (.val (.agg [vi 2, vi 211, vs (adsB src l)]))) [] := by
  have c := sf_build src hs l hu ho hl
  refine spec_of Try.func33 rfl Try.ntmps33 Try.results33 ⟨by decide, by simp⟩ fun C hC => ?_
  (repeat' ((first | refine aw_seq ?_ | refine aw_block ?_ | refine aw_reg hC (by kernel_rfl) ?_ | refine aw_regd hC Try.checked.mixed (by kernel_rfl) ?_ | refine chk_and (by kernel_rfl) ?_ | refine aw_skip ?_ | refine aw_if ?_ | refine And.intro (by first | omega | with_reducible assumption) ?_ | refine aw_exit ?_ | refine aw_ret ?_ | (simp (decide := true) (disch := omega) only [go_sem, ↓reduceIte, ↓put_at]) | refine call_u Try.call88 (c) [] (by simp (decide := true) (disch := omega) only [go_sem, ↓reduceIte, ↓put_at]; first | done | assumption | omega) ?_ | (refine ret_s [] ?_; simp (decide := true) (disch := omega) only [go_sem, ↓reduceIte, ↓put_at]))))
theorem raw_put (n : Int) (k : Nat) (rest : List UInt8) (h : 0 ≤ n ∧ n < 256 ^ k) : (getN (rawT (putZ n k ++ rest) k) : Int) = n ∧ rawL (putZ n k ++ rest) 0 k = rest ∧ rawE (putZ n k ++ rest) 0 k = 0 := by
  have hk : (k : Int) ≤ ((putZ n k ++ rest).length : Int) := by rw [List.length_append, putZ_length]; omega
  obtain ⟨h1, h2, h3⟩ := raw_some (putZ n k ++ rest) 0 k hk
  rw [h1, h2, h3, Int.toNat_natCast]
  have hl := putZ_length n k
  refine ⟨?_, ?_, rfl⟩
  · rw [List.take_append_of_le_length (by omega), List.take_of_length_le (by omega), getN_putZ]
    exact Int.emod_eq_of_lt h.1 h.2
  · rw [List.drop_append, List.drop_of_length_le (by omega), hl]; simp
end Go.Proofs.Ytdgkehoodlncmaa
