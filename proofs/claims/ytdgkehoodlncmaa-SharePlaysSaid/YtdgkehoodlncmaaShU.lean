
/- Layer 18: behind any calls who carried how much, and who is next; walked. -/
import Derived.Test.YtdgkehoodlncmaaShT
namespace Go.Proofs.Ytdgkehoodlncmaa
open Go.RowKit
set_option linter.unusedVariables false
set_option linter.unusedSimpArgs false

def bd18 (i : Nat) : Int := i * 1073741824
theorem bd18_succ (i : Nat) : bd18 (i + 1) = bd18 i + 1073741824 := by unfold bd18; omega
theorem bd18_nn (i : Nat) : 0 ≤ bd18 i := by unfold bd18; omega
theorem bd18_mono {i j : Nat} (h : i ≤ j) : bd18 i ≤ bd18 j := by unfold bd18; omega
theorem bd18_le {i : Nat} (h : i ≤ 56) : bd18 i ≤ 1099511627776 := by unfold bd18; omega
set_option maxRecDepth 100000 in
set_option maxHeartbeats 8000000 in
theorem plays_walk (acts more : List A18) (hl : acts.length ≤ maxLen) (hm : more.length ≤ maxLen) (ha : ∀ a ∈ acts, a.ws.length ≤ maxLen ∧ a.may.length ≤ maxLen) (hb : ∀ a ∈ more, a.ws.length ≤ maxLen ∧ a.may.length ≤ maxLen) :
    Spec Try.prog 6 [.ca (.val (.lst 5 (acts.map act18))), .ca (.val (.lst 5 (more.map act18)))] [] (.ca (.val (vb true))) [] := by
  have ca := awake18
  have cn := s_new
  refine spec_of Try.func6 rfl Try.ntmps6 Try.results6 ⟨by decide, by simp⟩ fun C hC => ?_
  (repeat' ((fail_if_success (refine stop_reg 9 ?_)); (first | refine aw_seq ?_ | refine aw_block ?_ | refine aw_reg hC (by kernel_rfl) ?_ | refine aw_regd hC Try.checked.mixed (by kernel_rfl) ?_ | refine chk_and (by kernel_rfl) ?_ | refine aw_skip ?_ | refine aw_if ?_ | refine And.intro (by first | omega | with_reducible assumption) ?_ | refine aw_exit ?_ | refine aw_ret ?_ | (simp (decide := true) (disch := omega) only [go_sem, ↓reduceIte, ↓put_at]) | refine call_u Try.call19 (ca) [] (by simp (decide := true) (disch := omega) only [go_sem, ↓reduceIte, ↓put_at]; first | done | assumption | omega) ?_ | refine call_u Try.call20 (cn) [] (by simp (decide := true) (disch := omega) only [go_sem, ↓reduceIte, ↓put_at]; first | done | assumption | omega) ?_ | refine pnil_u (by first | exact .inl rfl | exact .inr rfl) (by simp (decide := true) (disch := omega) only [go_sem, ↓reduceIte, ↓put_at]; first | done | assumption | omega) ?_ | (refine ret_s [] ?_; simp (decide := true) (disch := omega) only [go_sem, ↓reduceIte, ↓put_at]))))
  refine meetB_s (α := {l : List Ld // ShOk (bd18 40) l}) (fun l => [(.s 1, .av (.val (.lst 5 (more.map act18)))), (.r (14, 1), .tree (.rw 140 3 (l.1.map ldEl))), (.o (14, 0), .num 1), (.c (14, 0) 0, .av (.ref (14, 1) 0)), (.s 5, .av (.ptr (14, 0) 0 0)), (.s 6, .av (.val (.lst 3 (l.1.map ldEl))))]) ?_ (fun l => ?_)
  · refine loop_s (α := {x : Nat × List Ld // x.1 ≤ acts.length ∧ x.1 ≤ 40 ∧ ShOk (bd18 x.1) x.2}) (fun x => [(.s 0, .av (.val (.lst 5 (acts.map act18)))), (.s 1, .av (.val (.lst 5 (more.map act18)))), (.r (14, 1), .tree (.rw 140 3 (x.1.2.map ldEl))), (.o (14, 0), .num 1), (.c (14, 0) 0, .av (.ref (14, 1) 0)), (.s 5, .av (.ptr (14, 0) 0 0)), (.s 6, .av (.val (.lst 3 (x.1.2.map ldEl)))), (.s 8, .av (.val (vi x.1.1)))]) (fun x => 40 - x.1.1) ⟨(0, []), Nat.zero_le _, by simp, sh_nil _⟩ ?_ (fun x => ?_)
    · simp (decide := true) (disch := omega) only [go_sem, ↓reduceIte, ↓put_at]
    · obtain ⟨⟨i, l⟩, h1, h2, ok⟩ := x
      dsimp only at h1 h2 ok ⊢
      by_cases hlt : i < acts.length
      · by_cases hlt2 : i < 40
        · have hge : (acts.map act18).getD i [] = act18 acts[i] := by simp [hlt]
          obtain ⟨q1, q2⟩ := ha _ (List.getElem_mem hlt)
          have c := l18_do l ok (bd18_le (by omega)) acts[i] q1 q2
          have ok2 := doS_ok (bd18_nn _) ok acts[i]
          have c2 := l18_is _ ok2 (by rw [← bd18_succ]; exact bd18_le (by omega))
          generalize doS l acts[i] = L2 at *
          (repeat' ((first | refine aw_seq ?_ | refine aw_block ?_ | refine aw_reg hC (by kernel_rfl) ?_ | refine aw_regd hC Try.checked.mixed (by kernel_rfl) ?_ | refine chk_and (by kernel_rfl) ?_ | refine aw_skip ?_ | refine aw_if ?_ | refine And.intro (by first | omega | with_reducible assumption) ?_ | refine aw_exit ?_ | refine aw_ret ?_ | (simp (decide := true) (disch := omega) only [go_sem, ↓reduceIte, ↓put_at]) | refine call_u Try.call26 (c) [(14, 0)] (by simp (decide := true) (disch := omega) only [go_sem, ↓reduceIte, ↓put_at]; first | done | assumption | omega) ?_ | refine pcall_u Try.call27 (c2) (by simp (decide := true) (disch := omega) only [go_sem, ↓reduceIte, ↓put_at]; first | done | assumption | omega) ?_ | (refine ret_s [] ?_; simp (decide := true) (disch := omega) only [go_sem, ↓reduceIte, ↓put_at]))))
          refine next_s (α := {x : Nat × List Ld // x.1 ≤ acts.length ∧ x.1 ≤ 40 ∧ ShOk (bd18 x.1) x.2}) ⟨(i + 1, L2), hlt, hlt2, by rw [bd18_succ]; exact ok2⟩ ⟨?_, ?_⟩
          · simp (decide := true) (disch := omega) only [go_sem, ↓reduceIte, ↓put_at]
          · (try dsimp only)
            omega
        · (repeat' ((first | refine aw_seq ?_ | refine aw_block ?_ | refine aw_reg hC (by kernel_rfl) ?_ | refine aw_regd hC Try.checked.mixed (by kernel_rfl) ?_ | refine chk_and (by kernel_rfl) ?_ | refine aw_skip ?_ | refine aw_if ?_ | refine And.intro (by first | omega | with_reducible assumption) ?_ | refine aw_exit ?_ | refine aw_ret ?_ | (simp (decide := true) (disch := omega) only [go_sem, ↓reduceIte, ↓put_at]) | (refine ret_s [] ?_; simp (decide := true) (disch := omega) only [go_sem, ↓reduceIte, ↓put_at]))))
          refine at_meet ⟨l, ok.mono (bd18_mono (by omega))⟩ ?_
          simp (decide := true) (disch := omega) only [go_sem, ↓reduceIte, ↓put_at]
      · (repeat' ((first | refine aw_seq ?_ | refine aw_block ?_ | refine aw_reg hC (by kernel_rfl) ?_ | refine aw_regd hC Try.checked.mixed (by kernel_rfl) ?_ | refine chk_and (by kernel_rfl) ?_ | refine aw_skip ?_ | refine aw_if ?_ | refine And.intro (by first | omega | with_reducible assumption) ?_ | refine aw_exit ?_ | refine aw_ret ?_ | (simp (decide := true) (disch := omega) only [go_sem, ↓reduceIte, ↓put_at]) | (refine ret_s [] ?_; simp (decide := true) (disch := omega) only [go_sem, ↓reduceIte, ↓put_at]))))
        refine at_meet ⟨l, ok.mono (bd18_mono (by omega))⟩ ?_
        simp (decide := true) (disch := omega) only [go_sem, ↓reduceIte, ↓put_at]
  obtain ⟨l, ok⟩ := l
  dsimp only
  have hf := ok.few
  have cc := s_clone l (by omega)
  (repeat' ((fail_if_success (refine stop_reg 18 ?_)); (first | refine aw_seq ?_ | refine aw_block ?_ | refine aw_reg hC (by kernel_rfl) ?_ | refine aw_regd hC Try.checked.mixed (by kernel_rfl) ?_ | refine chk_and (by kernel_rfl) ?_ | refine aw_skip ?_ | refine aw_if ?_ | refine And.intro (by first | omega | with_reducible assumption) ?_ | refine aw_exit ?_ | refine aw_ret ?_ | (simp (decide := true) (disch := omega) only [go_sem, ↓reduceIte, ↓put_at]) | refine call_u Try.call28 (cc) [(14, 0)] (by simp (decide := true) (disch := omega) only [go_sem, ↓reduceIte, ↓put_at]; first | done | assumption | omega) ?_ | refine pnil_u (by first | exact .inl rfl | exact .inr rfl) (by simp (decide := true) (disch := omega) only [go_sem, ↓reduceIte, ↓put_at]; first | done | assumption | omega) ?_ | (refine ret_s [] ?_; simp (decide := true) (disch := omega) only [go_sem, ↓reduceIte, ↓put_at]))))
  refine meetB_s (α := {l : List Ld // ShOk (bd18 55) l}) (fun m => [(.r (14, 1), .tree (.rw 140 3 (l.map ldEl))), (.o (14, 0), .num 1), (.c (14, 0) 0, .av (.ref (14, 1) 0)), (.s 5, .av (.ptr (14, 0) 0 0)), (.s 6, .av (.val (.lst 3 (l.map ldEl)))), (.r (46, 1), .tree (.rw 140 3 (m.1.map ldEl))), (.o (46, 0), .num 1), (.c (46, 0) 0, .av (.ref (46, 1) 0)), (.s 9, .av (.ptr (46, 0) 0 0)), (.s 10, .av (.val (.lst 3 (m.1.map ldEl))))]) ?_ (fun m => ?_)
  · refine loop_s (α := {x : Nat × List Ld // x.1 ≤ more.length ∧ x.1 ≤ 15 ∧ ShOk (bd18 (40 + x.1)) x.2}) (fun x => [(.s 1, .av (.val (.lst 5 (more.map act18)))), (.r (14, 1), .tree (.rw 140 3 (l.map ldEl))), (.o (14, 0), .num 1), (.c (14, 0) 0, .av (.ref (14, 1) 0)), (.s 5, .av (.ptr (14, 0) 0 0)), (.s 6, .av (.val (.lst 3 (l.map ldEl)))), (.r (46, 1), .tree (.rw 140 3 (x.1.2.map ldEl))), (.o (46, 0), .num 1), (.c (46, 0) 0, .av (.ref (46, 1) 0)), (.s 9, .av (.ptr (46, 0) 0 0)), (.s 10, .av (.val (.lst 3 (x.1.2.map ldEl)))), (.s 11, .av (.val (vi x.1.1)))]) (fun x => 15 - x.1.1) ⟨(0, l), Nat.zero_le _, by simp, ok.mono (bd18_mono (by omega))⟩ ?_ (fun x => ?_)
    · simp (decide := true) (disch := omega) only [go_sem, ↓reduceIte, ↓put_at]
    · obtain ⟨⟨i, m⟩, h1, h2, ok3⟩ := x
      dsimp only at h1 h2 ok3 ⊢
      by_cases hlt : i < more.length
      · by_cases hlt2 : i < 15
        · have hge : (more.map act18).getD i [] = act18 more[i] := by simp [hlt]
          obtain ⟨q1, q2⟩ := hb _ (List.getElem_mem hlt)
          have c := l18_do m ok3 (bd18_le (by omega)) more[i] q1 q2
          have ok2 := doS_ok (bd18_nn _) ok3 more[i]
          generalize doS m more[i] = L2 at *
          (repeat' ((first | refine aw_seq ?_ | refine aw_block ?_ | refine aw_reg hC (by kernel_rfl) ?_ | refine aw_regd hC Try.checked.mixed (by kernel_rfl) ?_ | refine chk_and (by kernel_rfl) ?_ | refine aw_skip ?_ | refine aw_if ?_ | refine And.intro (by first | omega | with_reducible assumption) ?_ | refine aw_exit ?_ | refine aw_ret ?_ | (simp (decide := true) (disch := omega) only [go_sem, ↓reduceIte, ↓put_at]) | refine call_u Try.call26 (c) [(46, 0)] (by simp (decide := true) (disch := omega) only [go_sem, ↓reduceIte, ↓put_at]; first | done | assumption | omega) ?_ | (refine ret_s [] ?_; simp (decide := true) (disch := omega) only [go_sem, ↓reduceIte, ↓put_at]))))
          refine next_s (α := {x : Nat × List Ld // x.1 ≤ more.length ∧ x.1 ≤ 15 ∧ ShOk (bd18 (40 + x.1)) x.2}) ⟨(i + 1, L2), hlt, hlt2, by rw [← Nat.add_assoc, bd18_succ]; exact ok2⟩ ⟨?_, ?_⟩
          · simp (decide := true) (disch := omega) only [go_sem, ↓reduceIte, ↓put_at]
          · (try dsimp only)
            omega
        · (repeat' ((first | refine aw_seq ?_ | refine aw_block ?_ | refine aw_reg hC (by kernel_rfl) ?_ | refine aw_regd hC Try.checked.mixed (by kernel_rfl) ?_ | refine chk_and (by kernel_rfl) ?_ | refine aw_skip ?_ | refine aw_if ?_ | refine And.intro (by first | omega | with_reducible assumption) ?_ | refine aw_exit ?_ | refine aw_ret ?_ | (simp (decide := true) (disch := omega) only [go_sem, ↓reduceIte, ↓put_at]) | (refine ret_s [] ?_; simp (decide := true) (disch := omega) only [go_sem, ↓reduceIte, ↓put_at]))))
          refine at_meet ⟨m, ok3.mono (bd18_mono (by omega))⟩ ?_
          simp (decide := true) (disch := omega) only [go_sem, ↓reduceIte, ↓put_at]
      · (repeat' ((first | refine aw_seq ?_ | refine aw_block ?_ | refine aw_reg hC (by kernel_rfl) ?_ | refine aw_regd hC Try.checked.mixed (by kernel_rfl) ?_ | refine chk_and (by kernel_rfl) ?_ | refine aw_skip ?_ | refine aw_if ?_ | refine And.intro (by first | omega | with_reducible assumption) ?_ | refine aw_exit ?_ | refine aw_ret ?_ | (simp (decide := true) (disch := omega) only [go_sem, ↓reduceIte, ↓put_at]) | (refine ret_s [] ?_; simp (decide := true) (disch := omega) only [go_sem, ↓reduceIte, ↓put_at]))))
        refine at_meet ⟨m, ok3.mono (bd18_mono (by omega))⟩ ?_
        simp (decide := true) (disch := omega) only [go_sem, ↓reduceIte, ↓put_at]
  obtain ⟨m, ok3⟩ := m
  dsimp only
  have c1 := l18_is l ok (bd18_le (by omega))
  have c2 := l18_is m ok3 (bd18_le (by omega))
  (repeat' ((first | refine aw_seq ?_ | refine aw_block ?_ | refine aw_reg hC (by kernel_rfl) ?_ | refine aw_regd hC Try.checked.mixed (by kernel_rfl) ?_ | refine chk_and (by kernel_rfl) ?_ | refine aw_skip ?_ | refine aw_if ?_ | refine And.intro (by first | omega | with_reducible assumption) ?_ | refine aw_exit ?_ | refine aw_ret ?_ | (simp (decide := true) (disch := omega) only [go_sem, ↓reduceIte, ↓put_at]) | refine pcall_u Try.call27 (c1) (by simp (decide := true) (disch := omega) only [go_sem, ↓reduceIte, ↓put_at]; first | done | assumption | omega) ?_ | refine pcall_u Try.call27 (c2) (by simp (decide := true) (disch := omega) only [go_sem, ↓reduceIte, ↓put_at]; first | done | assumption | omega) ?_ | (refine ret_s [] ?_; simp (decide := true) (disch := omega) only [go_sem, ↓reduceIte, ↓put_at]))))
end Go.Proofs.Ytdgkehoodlncmaa
