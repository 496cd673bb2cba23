
/- Package subflow's adverts, walked: as a piece, and back. -/
import Derived.Test.YtdgkehoodlncmaaTab2
import Derived.Test.YtdgkehoodlncmaaRO
import Derived.Test.YtdgkehoodlncmaaQIn
namespace Go.Proofs.Ytdgkehoodlncmaa
open Go.RowKit
set_option linter.unusedVariables false
set_option linter.unusedSimpArgs false

def upZ (b : Bool) : Int := if b = true then 1 else 0
/-- An advert's bytes. -/
def adB (e : En) : List UInt8 := putZ e.id 1 ++ putZ (upZ e.up) 1 ++ putZ e.rate 2
def adsB (src : Int) (l : List En) : List UInt8 := putZ src 4 ++ l.flatMap adB
theorem adB_len (e : En) : (adB e).length = 4 := by simp [adB, putZ_length]
theorem adsB_len (src : Int) (l : List En) : (adsB src l).length = 4 + 4 * l.length := by
  unfold adsB
  rw [List.length_append, putZ_length]
  congr 1
  induction l with
  | nil => rfl
  | cons x xs ih => simp [adB_len, ih]; omega
set_option maxRecDepth 100000 in
theorem sf_within (n lo hi : Int) : Spec Try.prog 190 [.ca (.val (vi n)), .ca (.val (vi lo)), .ca (.val (vi hi))] [] (.ca (.val (vb (decide (lo ≤ n ∧ n ≤ hi))))) [] := by
  by_cases h1 : lo ≤ n
  · by_cases h2 : n ≤ hi
    · rw [decide_eq_true ⟨h1, h2⟩]
      refine spec_of Try.func190 rfl Try.ntmps190 Try.results190 ⟨by decide, by simp⟩ fun C hC => ?_
      (repeat' ((first | refine aw_seq ?_ | refine aw_block ?_ | refine aw_reg hC (by kernel_rfl) ?_ | refine aw_regd hC Try.checked.mixed (by kernel_rfl) ?_ | refine chk_and (by kernel_rfl) ?_ | refine aw_skip ?_ | refine aw_if ?_ | refine And.intro (by first | omega | with_reducible assumption) ?_ | refine aw_exit ?_ | refine aw_ret ?_ | (simp (decide := true) (disch := omega) only [go_sem, ↓reduceIte, ↓put_at]) | (refine ret_s [] ?_; simp (decide := true) (disch := omega) only [go_sem, ↓reduceIte, ↓put_at]))))
    · rw [decide_eq_false (fun h => h2 h.2)]
      refine spec_of Try.func190 rfl Try.ntmps190 Try.results190 ⟨by decide, by simp⟩ fun C hC => ?_
      (repeat' ((first | refine aw_seq ?_ | refine aw_block ?_ | refine aw_reg hC (by kernel_rfl) ?_ | refine aw_regd hC Try.checked.mixed (by kernel_rfl) ?_ | refine chk_and (by kernel_rfl) ?_ | refine aw_skip ?_ | refine aw_if ?_ | refine And.intro (by first | omega | with_reducible assumption) ?_ | refine aw_exit ?_ | refine aw_ret ?_ | (simp (decide := true) (disch := omega) only [go_sem, ↓reduceIte, ↓put_at]) | (refine ret_s [] ?_; simp (decide := true) (disch := omega) only [go_sem, ↓reduceIte, ↓put_at]))))
  · rw [decide_eq_false (fun h => h1 h.1)]
    refine spec_of Try.func190 rfl Try.ntmps190 Try.results190 ⟨by decide, by simp⟩ fun C hC => ?_
    (repeat' ((first | refine aw_seq ?_ | refine aw_block ?_ | refine aw_reg hC (by kernel_rfl) ?_ | refine aw_regd hC Try.checked.mixed (by kernel_rfl) ?_ | refine chk_and (by kernel_rfl) ?_ | refine aw_skip ?_ | refine aw_if ?_ | refine And.intro (by first | omega | with_reducible assumption) ?_ | refine aw_exit ?_ | refine aw_ret ?_ | (simp (decide := true) (disch := omega) only [go_sem, ↓reduceIte, ↓put_at]) | (refine ret_s [] ?_; simp (decide := true) (disch := omega) only [go_sem, ↓reduceIte, ↓put_at]))))
set_option maxRecDepth 100000 in
theorem sf_may (e : En) (he : okE e) : Spec Try.prog 188 [.ca (.val (.agg (enEl e)))] [] (.ca (.val (vb true))) [] := by
  obtain ⟨h1, h2, h3, h4⟩ := he
  have c1 := sf_within e.id 1 15
  rw [decide_eq_true ⟨h1, h2⟩] at c1
  have c2 := sf_within e.rate 0 65535
  rw [decide_eq_true ⟨h3, h4⟩] at c2
  refine spec_of Try.func188 rfl Try.ntmps188 Try.results188 ⟨by decide, by simp⟩ fun C hC => ?_
  (repeat' ((first | refine aw_seq ?_ | refine aw_block ?_ | refine aw_reg hC (by kernel_rfl) ?_ | refine aw_regd hC Try.checked.mixed (by kernel_rfl) ?_ | refine chk_and (by kernel_rfl) ?_ | refine aw_skip ?_ | refine aw_if ?_ | refine And.intro (by first | omega | with_reducible assumption) ?_ | refine aw_exit ?_ | refine aw_ret ?_ | (simp (decide := true) (disch := omega) only [go_sem, ↓reduceIte, ↓put_at]) | refine call_u Try.call190 (c1) [] (by simp (decide := true) (disch := omega) only [go_sem, ↓reduceIte, ↓put_at]; first | done | assumption | omega) ?_ | refine call_u Try.call190 (c2) [] (by simp (decide := true) (disch := omega) only [go_sem, ↓reduceIte, ↓put_at]; first | done | assumption | omega) ?_ | (refine ret_s [] ?_; simp (decide := true) (disch := omega) only [go_sem, ↓reduceIte, ↓put_at]))))
set_option maxRecDepth 100000 in
theorem sf_path (e : En) : Spec Try.prog 89 [.ca (.val (.agg (enEl e)))] [] (.ca (.val (vi e.id))) [] := by
  refine spec_of Try.func89 rfl Try.ntmps89 Try.results89 ⟨by decide, by simp⟩ fun C hC => ?_
  (repeat' ((first | refine aw_seq ?_ | refine aw_block ?_ | refine aw_reg hC (by kernel_rfl) ?_ | refine aw_regd hC Try.checked.mixed (by kernel_rfl) ?_ | refine chk_and (by kernel_rfl) ?_ | refine aw_skip ?_ | refine aw_if ?_ | refine And.intro (by first | omega | with_reducible assumption) ?_ | refine aw_exit ?_ | refine aw_ret ?_ | (simp (decide := true) (disch := omega) only [go_sem, ↓reduceIte, ↓put_at]) | (refine ret_s [] ?_; simp (decide := true) (disch := omega) only [go_sem, ↓reduceIte, ↓put_at]))))
set_option maxRecDepth 100000 in
set_option maxHeartbeats 2000000 in
theorem sf_write (e : En) (o : List UInt8) (ho : o.length ≤ 1000000) : Spec Try.prog 189 [.ca (.val (.agg (enEl e))), .ptr 0 0] [outO o] (.ca (.val (.tup []))) [outO (o ++ adB e)] := by
  have c1 := out_u8 o [e.id, upZ e.up] (by simp; omega)
  have c2 := out_u16 (o ++ puts' 1 [e.id, upZ e.up]) [e.rate] (by simp [puts'_length]; omega)
  have h : o ++ puts' 1 [e.id, upZ e.up] ++ puts' 2 [e.rate] = o ++ adB e := by simp [puts', adB]
  rw [h] at c2
  cases hu : e.up with
  | false =>
    rw [hu] at c1 c2
    simp only [upZ] at c1 c2
    refine spec_of Try.func189 rfl Try.ntmps189 Try.results189 ⟨by decide, by simp⟩ fun C hC => ?_
    (repeat' ((first | refine aw_seq ?_ | refine aw_block ?_ | refine aw_reg hC (by kernel_rfl) ?_ | refine aw_regd hC Try.checked.mixed (by kernel_rfl) ?_ | refine chk_and (by kernel_rfl) ?_ | refine aw_skip ?_ | refine aw_if ?_ | refine And.intro (by first | omega | with_reducible assumption) ?_ | refine aw_exit ?_ | refine aw_ret ?_ | (simp (decide := true) (disch := omega) only [go_sem, ↓reduceIte, ↓put_at]) | (refine ret_s [] ?_; simp (decide := true) (disch := omega) only [go_sem, ↓reduceIte, ↓put_at]))))
    simp only [hu]
    (repeat' ((first | refine aw_seq ?_ | refine aw_block ?_ | refine aw_reg hC (by kernel_rfl) ?_ | refine aw_regd hC Try.checked.mixed (by kernel_rfl) ?_ | refine chk_and (by kernel_rfl) ?_ | refine aw_skip ?_ | refine aw_if ?_ | refine And.intro (by first | omega | with_reducible assumption) ?_ | refine aw_exit ?_ | refine aw_ret ?_ | (simp (decide := true) (disch := omega) only [go_sem, ↓reduceIte, ↓put_at]) | refine call_u Try.call191 (c1) [(1000, 0)] (by simp (decide := true) (disch := omega) only [go_sem, ↓reduceIte, ↓put_at]; first | done | assumption | omega) ?_ | refine call_u Try.call192 (c2) [(1000, 0)] (by simp (decide := true) (disch := omega) only [go_sem, ↓reduceIte, ↓put_at]; first | done | assumption | omega) ?_ | (refine ret_s [] ?_; simp (decide := true) (disch := omega) only [go_sem, ↓reduceIte, ↓put_at]))))
  | true =>
    rw [hu] at c1 c2
    simp only [upZ] at c1 c2
    refine spec_of Try.func189 rfl Try.ntmps189 Try.results189 ⟨by decide, by simp⟩ fun C hC => ?_
    (repeat' ((first | refine aw_seq ?_ | refine aw_block ?_ | refine aw_reg hC (by kernel_rfl) ?_ | refine aw_regd hC Try.checked.mixed (by kernel_rfl) ?_ | refine chk_and (by kernel_rfl) ?_ | refine aw_skip ?_ | refine aw_if ?_ | refine And.intro (by first | omega | with_reducible assumption) ?_ | refine aw_exit ?_ | refine aw_ret ?_ | (simp (decide := true) (disch := omega) only [go_sem, ↓reduceIte, ↓put_at]) | (refine ret_s [] ?_; simp (decide := true) (disch := omega) only [go_sem, ↓reduceIte, ↓put_at]))))
    simp only [hu]
    (repeat' ((first | refine aw_seq ?_ | refine aw_block ?_ | refine aw_reg hC (by kernel_rfl) ?_ | refine aw_regd hC Try.checked.mixed (by kernel_rfl) ?_ | refine chk_and (by kernel_rfl) ?_ | refine aw_skip ?_ | refine aw_if ?_ | refine And.intro (by first | omega | with_reducible assumption) ?_ | refine aw_exit ?_ | refine aw_ret ?_ | (simp (decide := true) (disch := omega) only [go_sem, ↓reduceIte, ↓put_at]) | refine call_u Try.call191 (c1) [(1000, 0)] (by simp (decide := true) (disch := omega) only [go_sem, ↓reduceIte, ↓put_at]; first | done | assumption | omega) ?_ | refine call_u Try.call192 (c2) [(1000, 0)] (by simp (decide := true) (disch := omega) only [go_sem, ↓reduceIte, ↓put_at]; first | done | assumption | omega) ?_ | (refine ret_s [] ?_; simp (decide := true) (disch := omega) only [go_sem, ↓reduceIte, ↓put_at]))))
end Go.Proofs.Ytdgkehoodlncmaa
