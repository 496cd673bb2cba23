
/- Layer 16: a table that merges what another one adverts; walked. -/
import Derived.Test.YtdgkehoodlncmaaMrg5
import Derived.Test.YtdgkehoodlncmaaMrg6
import Derived.Test.YtdgkehoodlncmaaTab3
namespace Go.Proofs.Ytdgkehoodlncmaa
open Go.RowKit
set_option linter.unusedVariables false
set_option linter.unusedSimpArgs false

set_option maxRecDepth 100000 in
set_option maxHeartbeats 8000000 in
theorem merges_walk (acts : List A16) (src : Int) (hs : 0 ≤ src ∧ src < 4294967296) (hl : acts.length ≤ maxLen) (hal : ∀ a ∈ acts, a.all.length ≤ maxLen) : Spec Try.prog 7 [.ca (.val (.lst 5 (acts.map actL))), .ca (.val (vu src))] [] (.ca (.val (vb true))) [] := by
  have ca := awake16
  have cn := t_new 15
  rw [show max 1 (min (15 : Int) 15) = 15 by decide] at cn
  have cr := r_new 15
  rw [show max 1 (min (15 : Int) 15) = 15 by decide] at cr
  refine spec_of Try.func7 rfl Try.ntmps7 Try.results7 ⟨by decide, by simp⟩ fun C hC => ?_
  (repeat' ((fail_if_success (refine stop_reg 8 ?_)); (first | refine aw_seq ?_ | refine aw_block ?_ | refine aw_reg hC (by kernel_rfl) ?_ | refine aw_regd hC Try.checked.mixed (by kernel_rfl) ?_ | refine chk_and (by kernel_rfl) ?_ | refine aw_skip ?_ | refine aw_if ?_ | refine And.intro (by first | omega | with_reducible assumption) ?_ | refine aw_exit ?_ | refine aw_ret ?_ | (simp (decide := true) (disch := omega) only [go_sem, ↓reduceIte, ↓put_at]) | refine call_u Try.call14 (ca) [] (by simp (decide := true) (disch := omega) only [go_sem, ↓reduceIte, ↓put_at]; first | done | assumption | omega) ?_ | refine call_u Try.call15 (cn) [] (by simp (decide := true) (disch := omega) only [go_sem, ↓reduceIte, ↓put_at]; first | done | assumption | omega) ?_ | refine call_u Try.call29 (cr) [] (by simp (decide := true) (disch := omega) only [go_sem, ↓reduceIte, ↓put_at]; first | done | assumption | omega) ?_ | refine pnil_u (by first | exact .inl rfl | exact .inr rfl) (by simp (decide := true) (disch := omega) only [go_sem, ↓reduceIte, ↓put_at]; first | done | assumption | omega) ?_ | (refine ret_s [] ?_; simp (decide := true) (disch := omega) only [go_sem, ↓reduceIte, ↓put_at]))))
  refine meetB_s (α := {T : Tb // TbOk T ∧ (0 ≤ T.ver ∧ T.ver ≤ 240)}) (fun T => [(.r (20, 3), .tree (.rw 32 3 (T.1.l.map enEl))), (.o (20, 0), .num 3), (.c (20, 0) 0, .av (.val (vi T.1.most))), (.c (20, 0) 1, .av (.val (vi T.1.ver))), (.c (20, 0) 2, .av (.ref (20, 3) 0)), (.r (21, 3), .tree (.rw 32 3 ((⟨15, 0, []⟩ : Tb).l.map enEl))), (.o (21, 0), .num 3), (.c (21, 0) 0, .av (.val (vi (⟨15, 0, []⟩ : Tb).most))), (.c (21, 0) 1, .av (.val (vi (⟨15, 0, []⟩ : Tb).ver))), (.c (21, 0) 2, .av (.ref (21, 3) 0)), (.s 1, .av (.val (vu src))), (.s 4, .av (.val (vb false))), (.s 5, .av (.ptr (20, 0) 0 0)), (.s 6, .av (.ptr (21, 0) 0 0))]) ?_ (fun T => ?_)
  · refine loop_s (α := {x : Nat × Tb × Tb // x.1 ≤ acts.length ∧ x.1 ≤ 30 ∧ TbOk x.2.1 ∧ (0 ≤ x.2.1.ver ∧ x.2.1.ver ≤ 8 * x.1) ∧ x.2.2.l.length ≤ 15 ∧ (0 ≤ x.2.2.ver ∧ x.2.2.ver ≤ 8 * x.1)}) (fun x => [(.s 0, .av (.val (.lst 5 (acts.map actL)))), (.r (20, 3), .tree (.rw 32 3 (x.1.2.1.l.map enEl))), (.o (20, 0), .num 3), (.c (20, 0) 0, .av (.val (vi x.1.2.1.most))), (.c (20, 0) 1, .av (.val (vi x.1.2.1.ver))), (.c (20, 0) 2, .av (.ref (20, 3) 0)), (.r (21, 3), .tree (.rw 32 3 ((⟨15, 0, []⟩ : Tb).l.map enEl))), (.o (21, 0), .num 3), (.c (21, 0) 0, .av (.val (vi (⟨15, 0, []⟩ : Tb).most))), (.c (21, 0) 1, .av (.val (vi (⟨15, 0, []⟩ : Tb).ver))), (.c (21, 0) 2, .av (.ref (21, 3) 0)), (.o (7, 0), .num 3), (.c (7, 0) 0, .av (.val (vi x.1.2.2.most))), (.c (7, 0) 1, .av (.val (vi x.1.2.2.ver))), (.c (7, 0) 2, .av (.val (.lst 3 (x.1.2.2.l.map enEl)))), (.s 7, .av (.ptr (7, 0) 0 0)), (.s 1, .av (.val (vu src))), (.s 4, .av (.val (vb false))), (.s 5, .av (.ptr (20, 0) 0 0)), (.s 6, .av (.ptr (21, 0) 0 0)), (.s 8, .av (.val (vi x.1.1)))]) (fun x => 30 - x.1.1) ⟨(0, ⟨15, 0, []⟩, ⟨15, 0, []⟩), by simp, by simp, tNew_ok, by simp, by simp, by simp⟩ ?_ (fun x => ?_)
    · simp (decide := true) (disch := omega) only [go_sem, ↓reduceIte, ↓put_at]
    · obtain ⟨⟨i, A, X⟩, h1, h2, h3, h4, h5, h6⟩ := x
      dsimp only at h1 h2 h3 h4 h5 h6 ⊢
      by_cases hlt : i < acts.length
      · by_cases hlt2 : i < 30
        · have hge : (acts.map actL).getD i [] = actL acts[i] := by simp [hlt]
          have c := l16_do A h3 X h5 acts[i] (by omega) (by omega) (hal _ (List.getElem_mem hlt))
          have k1 := doT_ok h3 acts[i]
          have k2 := doT_ver A acts[i]
          have k3 := doX_bd h5 acts[i]
          generalize doT A acts[i] = A2 at *
          generalize doX X acts[i] = X2 at *
          (repeat' ((first | refine aw_seq ?_ | refine aw_block ?_ | refine aw_reg hC (by kernel_rfl) ?_ | refine aw_regd hC Try.checked.mixed (by kernel_rfl) ?_ | refine chk_and (by kernel_rfl) ?_ | refine aw_skip ?_ | refine aw_if ?_ | refine And.intro (by first | omega | with_reducible assumption) ?_ | refine aw_exit ?_ | refine aw_ret ?_ | (simp (decide := true) (disch := omega) only [go_sem, ↓reduceIte, ↓put_at]) | refine call_u Try.call30 (c) [(20, 0)] (by simp (decide := true) (disch := omega) only [go_sem, ↓reduceIte, ↓put_at]; first | done | assumption | omega) ?_ | (refine ret_s [] ?_; simp (decide := true) (disch := omega) only [go_sem, ↓reduceIte, ↓put_at]))))
          refine next_s (α := {x : Nat × Tb × Tb // x.1 ≤ acts.length ∧ x.1 ≤ 30 ∧ TbOk x.2.1 ∧ (0 ≤ x.2.1.ver ∧ x.2.1.ver ≤ 8 * x.1) ∧ x.2.2.l.length ≤ 15 ∧ (0 ≤ x.2.2.ver ∧ x.2.2.ver ≤ 8 * x.1)}) ⟨(i + 1, A2, X2), hlt, hlt2, k1, by dsimp only; omega, k3.1, by dsimp only; omega⟩ ⟨?_, ?_⟩
          · simp (decide := true) (disch := omega) only [go_sem, ↓reduceIte, ↓put_at]
          · (try dsimp only)
            omega
        · (repeat' ((first | refine aw_seq ?_ | refine aw_block ?_ | refine aw_reg hC (by kernel_rfl) ?_ | refine aw_regd hC Try.checked.mixed (by kernel_rfl) ?_ | refine chk_and (by kernel_rfl) ?_ | refine aw_skip ?_ | refine aw_if ?_ | refine And.intro (by first | omega | with_reducible assumption) ?_ | refine aw_exit ?_ | refine aw_ret ?_ | (simp (decide := true) (disch := omega) only [go_sem, ↓reduceIte, ↓put_at]) | (refine ret_s [] ?_; simp (decide := true) (disch := omega) only [go_sem, ↓reduceIte, ↓put_at]))))
          refine at_meet ⟨A, h3, by omega⟩ ?_
          simp (decide := true) (disch := omega) only [go_sem, ↓reduceIte, ↓put_at]
      · (repeat' ((first | refine aw_seq ?_ | refine aw_block ?_ | refine aw_reg hC (by kernel_rfl) ?_ | refine aw_regd hC Try.checked.mixed (by kernel_rfl) ?_ | refine chk_and (by kernel_rfl) ?_ | refine aw_skip ?_ | refine aw_if ?_ | refine And.intro (by first | omega | with_reducible assumption) ?_ | refine aw_exit ?_ | refine aw_ret ?_ | (simp (decide := true) (disch := omega) only [go_sem, ↓reduceIte, ↓put_at]) | (refine ret_s [] ?_; simp (decide := true) (disch := omega) only [go_sem, ↓reduceIte, ↓put_at]))))
        refine at_meet ⟨A, h3, by omega⟩ ?_
        simp (decide := true) (disch := omega) only [go_sem, ↓reduceIte, ↓put_at]
  obtain ⟨T, hT, hv⟩ := T
  dsimp only
  have hfw := hT.few
  have c1 := t_adv T (by omega) src
  have c2 := sf_piece src hs T.l hT.up hT.ok (by omega)
  have c3 := sf_to src hs T.l hT.up hT.ok hT.few
  have c4 := t_merge ⟨15, 0, []⟩ tNew_ok T.l (by omega) (by simp)
  rw [show tMerge ⟨15, 0, []⟩ T.l = (⟨15, T.l.length, T.l⟩, T.l.length, 0) from merge_new hT] at c4
  have c5 := t_merge ⟨15, T.l.length, T.l⟩ ⟨hT.up, hT.ok, hT.few⟩ T.l (by omega) (by dsimp only; omega)
  rw [merge_same (t := ⟨15, T.l.length, T.l⟩) T.l fun e he => ⟨he, hT.ok e he⟩] at c5
  have c6 := t_all T (by omega)
  have c7 := t_all ⟨15, T.l.length, T.l⟩ (by dsimp only; omega)
  generalize adsB src T.l = BB at *
  obtain ⟨tm, tv, L⟩ := T
  (try dsimp only at *)
  (repeat' ((fail_if_success (refine stop_reg 20 ?_)); (first | refine aw_seq ?_ | refine aw_block ?_ | refine aw_reg hC (by kernel_rfl) ?_ | refine aw_regd hC Try.checked.mixed (by kernel_rfl) ?_ | refine chk_and (by kernel_rfl) ?_ | refine aw_skip ?_ | refine aw_if ?_ | refine And.intro (by first | omega | with_reducible assumption) ?_ | refine aw_exit ?_ | refine aw_ret ?_ | (simp (decide := true) (disch := omega) only [go_sem, ↓reduceIte, ↓put_at]) | refine call_u Try.call32 (c1) [(20, 0)] (by simp (decide := true) (disch := omega) only [go_sem, ↓reduceIte, ↓put_at]; first | done | assumption | omega) ?_ | refine call_u Try.call33 (c2) [] (by simp (decide := true) (disch := omega) only [go_sem, ↓reduceIte, ↓put_at]; first | done | assumption | omega) ?_ | refine call_u Try.call31 (c3) [] (by simp (decide := true) (disch := omega) only [go_sem, ↓reduceIte, ↓put_at]; first | done | assumption | omega) ?_ | refine call_u Try.call34 (c4) [(21, 0)] (by simp (decide := true) (disch := omega) only [go_sem, ↓reduceIte, ↓put_at]; first | done | assumption | omega) ?_ | refine call_u Try.call34 (c5) [(21, 0)] (by simp (decide := true) (disch := omega) only [go_sem, ↓reduceIte, ↓put_at]; first | done | assumption | omega) ?_ | refine pcallT_u Try.call17 (c6) ((en_flat L)) (by simp (decide := true) (disch := omega) only [go_sem, ↓reduceIte, ↓put_at]; first | done | assumption | omega) ?_ | refine pcallT_u Try.call17 (c7) ((en_flat L)) (by simp (decide := true) (disch := omega) only [go_sem, ↓reduceIte, ↓put_at]; first | done | assumption | omega) ?_ | (refine ret_s [] ?_; simp (decide := true) (disch := omega) only [go_sem, ↓reduceIte, ↓put_at]))))
  refine loop_s (α := {i : Nat // i ≤ L.length}) (fun i => [(.r (80, 1), .tree (.rw 32 3 (L.map enEl))), (.r (82, 1), .tree (.rw 32 3 (L.map enEl))), (.s 15, .av (.ref (80, 1) 0)), (.s 16, .av (.ref (82, 1) 0)), (.s 107, .av (.val (vi L.length))), (.s 108, .av (.val (vi i.1)))]) (fun i => L.length - i.1) ⟨0, Nat.zero_le _⟩ ?_ (fun i => ?_)
  · simp (decide := true) (disch := omega) only [go_sem, ↓reduceIte, ↓put_at]
  · obtain ⟨i, hi⟩ := i
    dsimp only at hi ⊢
    by_cases hlt3 : i < L.length
    · have hge : (L.map enEl).getD i [] = enEl L[i] := by simp [hlt3]
      (repeat' ((first | refine aw_seq ?_ | refine aw_block ?_ | refine aw_reg hC (by kernel_rfl) ?_ | refine aw_regd hC Try.checked.mixed (by kernel_rfl) ?_ | refine chk_and (by kernel_rfl) ?_ | refine aw_skip ?_ | refine aw_if ?_ | refine And.intro (by first | omega | with_reducible assumption) ?_ | refine aw_exit ?_ | refine aw_ret ?_ | (simp (decide := true) (disch := omega) only [go_sem, ↓reduceIte, ↓put_at]) | (refine ret_s [] ?_; simp (decide := true) (disch := omega) only [go_sem, ↓reduceIte, ↓put_at]))))
      refine cmpA_s _ _ _ (.inr rfl) (by simp (decide := true) (disch := omega) only [go_sem, ↓reduceIte, ↓put_at]) (by simp (decide := true) (disch := omega) only [go_sem, ↓reduceIte, ↓put_at]) (by kernel_rfl) (ne16_ L[i].id L[i].id L[i].up L[i].up L[i].rate L[i].rate) ?_
      rw [decide_eq_true (show L[i].id = L[i].id ∧ L[i].up = L[i].up ∧ L[i].rate = L[i].rate from ⟨rfl, rfl, rfl⟩)]
      (repeat' ((first | refine aw_seq ?_ | refine aw_block ?_ | refine aw_reg hC (by kernel_rfl) ?_ | refine aw_regd hC Try.checked.mixed (by kernel_rfl) ?_ | refine chk_and (by kernel_rfl) ?_ | refine aw_skip ?_ | refine aw_if ?_ | refine And.intro (by first | omega | with_reducible assumption) ?_ | refine aw_exit ?_ | refine aw_ret ?_ | (simp (decide := true) (disch := omega) only [go_sem, ↓reduceIte, ↓put_at]) | (refine ret_s [] ?_; simp (decide := true) (disch := omega) only [go_sem, ↓reduceIte, ↓put_at]))))
      refine next_s (α := {i : Nat // i ≤ L.length}) ⟨i + 1, hlt3⟩ ⟨?_, ?_⟩
      · simp (decide := true) (disch := omega) only [go_sem, ↓reduceIte, ↓put_at]
      · (try dsimp only)
        omega
    · (repeat' ((first | refine aw_seq ?_ | refine aw_block ?_ | refine aw_reg hC (by kernel_rfl) ?_ | refine aw_regd hC Try.checked.mixed (by kernel_rfl) ?_ | refine chk_and (by kernel_rfl) ?_ | refine aw_skip ?_ | refine aw_if ?_ | refine And.intro (by first | omega | with_reducible assumption) ?_ | refine aw_exit ?_ | refine aw_ret ?_ | (simp (decide := true) (disch := omega) only [go_sem, ↓reduceIte, ↓put_at]) | (refine ret_s [] ?_; simp (decide := true) (disch := omega) only [go_sem, ↓reduceIte, ↓put_at]))))
end Go.Proofs.Ytdgkehoodlncmaa
