
/- Layer 18: FAIR, walked. -/
import Derived.Test.YtdgkehoodlncmaaSh5
import Derived.Test.YtdgkehoodlncmaaShQ
namespace Go.Proofs.Ytdgkehoodlncmaa
open Go.RowKit
set_option linter.unusedVariables false
set_option linter.unusedSimpArgs false

theorem sum_snoc (ks : List Int) (k : Int) : (ks ++ [k]).sum = ks.sum + k := by simp
theorem sum_bd : ∀ ks : List Int, (∀ k ∈ ks, 1 ≤ k ∧ k ≤ 4096) → 0 ≤ ks.sum ∧ ks.sum ≤ 4096 * ks.length
  | [], _ => by simp
  | k :: ks, h => by
    have h1 := h k (List.mem_cons_self ..)
    have h2 := sum_bd ks fun x hx => h x (List.mem_cons_of_mem _ hx)
    simp only [List.sum_cons, List.length_cons]
    omega
theorem mul_bd {a b A B : Int} (h1 : 0 ≤ a) (h2 : a ≤ A) (h3 : 0 ≤ b) (h4 : b ≤ B) : 0 ≤ a * b ∧ a * b ≤ A * B := ⟨Int.mul_nonneg h1 h3, Int.mul_le_mul h2 h4 h3 (Int.le_trans h1 h2)⟩
set_option maxRecDepth 100000 in
set_option maxHeartbeats 8000000 in
theorem fair_walk (w z : List Int) (hw : w.length ≤ maxLen) (hz : z.length ≤ maxLen) : Spec Try.prog 5 [.ca (.val (.lst 1 (w.map iRow))), .ca (.val (.lst 1 (z.map iRow)))] [] (.ca (.val (vb true))) [] := by
  have ca := awake18
  have cn := s_new
  refine spec_of Try.func5 rfl Try.ntmps5 Try.results5 ⟨by decide, by simp⟩ fun C hC => ?_
  (repeat' ((fail_if_success (refine stop_reg 10 ?_)); (first | refine aw_seq ?_ | refine aw_block ?_ | refine aw_reg hC (by kernel_rfl) ?_ | refine aw_regd hC Try.checked.mixed (by kernel_rfl) ?_ | refine chk_and (by kernel_rfl) ?_ | refine aw_skip ?_ | refine aw_if ?_ | refine And.intro (by first | omega | with_reducible assumption) ?_ | refine aw_exit ?_ | refine aw_ret ?_ | (simp (decide := true) (disch := omega) only [go_sem, ↓reduceIte, ↓put_at]) | refine call_u Try.call19 (ca) [] (by simp (decide := true) (disch := omega) only [go_sem, ↓reduceIte, ↓put_at]; first | done | assumption | omega) ?_ | refine call_u Try.call20 (cn) [] (by simp (decide := true) (disch := omega) only [go_sem, ↓reduceIte, ↓put_at]; first | done | assumption | omega) ?_ | refine pnil_u (by first | exact .inl rfl | exact .inr rfl) (by simp (decide := true) (disch := omega) only [go_sem, ↓reduceIte, ↓put_at]; first | done | assumption | omega) ?_ | (refine ret_s [] ?_; simp (decide := true) (disch := omega) only [go_sem, ↓reduceIte, ↓put_at]))))
  refine own_s 6 (6, 1) 42 2 ?_
  simp (decide := true) (disch := omega) only [go_sem, ↓reduceIte, ↓put_at]
  refine own_s 7 (7, 1) 3 1 ?_
  simp (decide := true) (disch := omega) only [go_sem, ↓reduceIte, ↓put_at]
  refine meetB_s (α := {ks : List Int // ks.length ≤ 6 ∧ ∀ k ∈ ks, 1 ≤ k ∧ k ≤ 4096}) (fun ks => [(.s 1, .av (.val (.lst 1 (z.map iRow)))), (.s 4, .av (.val (vb false))), (.s 5, .av (.ptr (20, 0) 0 0)), (.r (20, 1), .tree (.rw 140 3 (([] : List Ld).map ldEl))), (.o (20, 0), .num 1), (.c (20, 0) 0, .av (.ref (20, 1) 0)), (.k (6, 1), .row 42 2 (wsOf ks.1).length), (.s 6, .av (.own (6, 1) 0 42 2 ((wsOf ks.1).map wtEl))), (.k (7, 1), .row 3 1 (psOf ks.1.length).length), (.s 7, .av (.own (7, 1) 0 3 1 ((psOf ks.1.length).map iRow))), (.s 8, .av (.val (vi ks.1.sum)))]) ?_ (fun ks => ?_)
  · refine loop_s (α := {ks : List Int // ks.length ≤ w.length ∧ ks.length ≤ 6 ∧ ∀ k ∈ ks, 1 ≤ k ∧ k ≤ 4096}) (fun ks => [(.s 0, .av (.val (.lst 1 (w.map iRow)))), (.s 1, .av (.val (.lst 1 (z.map iRow)))), (.s 4, .av (.val (vb false))), (.s 5, .av (.ptr (20, 0) 0 0)), (.r (20, 1), .tree (.rw 140 3 (([] : List Ld).map ldEl))), (.o (20, 0), .num 1), (.c (20, 0) 0, .av (.ref (20, 1) 0)), (.k (6, 1), .row 42 2 (wsOf ks.1).length), (.s 6, .av (.own (6, 1) 0 42 2 ((wsOf ks.1).map wtEl))), (.k (7, 1), .row 3 1 (psOf ks.1.length).length), (.s 7, .av (.own (7, 1) 0 3 1 ((psOf ks.1.length).map iRow))), (.s 8, .av (.val (vi ks.1.sum))), (.s 9, .av (.val (vi ks.1.length)))]) (fun ks => 6 - ks.1.length) ⟨[], by simp, by simp, fun k h => by simp at h⟩ ?_ (fun ks => ?_)
    · simp only [List.map_nil, show wsOf [] = [] from rfl, show psOf ([] : List Int).length = [] from rfl, List.sum_nil]
      simp (decide := true) (disch := omega) only [go_sem, ↓reduceIte, ↓put_at]
    · obtain ⟨ks, hk1, hk2, hk3⟩ := ks
      dsimp only at hk1 hk2 hk3 ⊢
      have hwl := wsOf_len ks
      have hpl := psOf_len ks.length
      have hsb := sum_bd ks hk3
      by_cases hlt : ks.length < w.length
      · by_cases hlt2 : ks.length < 6
        · have hge : (w.map iRow).getD ks.length [] = iRow w[ks.length] := by simp [hlt]
          have hks : ∀ k ∈ ks ++ [1 + w[ks.length] % 4096], 1 ≤ k ∧ k ≤ 4096 := fun k hk => by
            rcases List.mem_append.1 hk with hk | hk
            · exact hk3 k hk
            · simp at hk; omega
          (repeat' ((first | refine aw_seq ?_ | refine aw_block ?_ | refine aw_reg hC (by kernel_rfl) ?_ | refine aw_regd hC Try.checked.mixed (by kernel_rfl) ?_ | refine chk_and (by kernel_rfl) ?_ | refine aw_skip ?_ | refine aw_if ?_ | refine And.intro (by first | omega | with_reducible assumption) ?_ | refine aw_exit ?_ | refine aw_ret ?_ | (simp (decide := true) (disch := omega) only [go_sem, ↓reduceIte, ↓put_at]) | (refine ret_s [] ?_; simp (decide := true) (disch := omega) only [go_sem, ↓reduceIte, ↓put_at]))))
          refine next_s (α := {ks : List Int // ks.length ≤ w.length ∧ ks.length ≤ 6 ∧ ∀ k ∈ ks, 1 ≤ k ∧ k ≤ 4096}) ⟨ks ++ [1 + w[ks.length] % 4096], by simp; omega, by simp; omega, hks⟩ ⟨?_, ?_⟩
          · (try dsimp only)
            rw [wsOf_snoc, sum_snoc, show (ks ++ [1 + w[ks.length] % 4096]).length = ks.length + 1 by simp, psOf_succ]
            simp (decide := true) (disch := omega) only [go_sem, ↓reduceIte, ↓put_at]
            simp only [List.map_append, List.map_cons, List.map_nil, wtEl, and_self]
          · (try dsimp only)
            simp
            omega
        · (repeat' ((first | refine aw_seq ?_ | refine aw_block ?_ | refine aw_reg hC (by kernel_rfl) ?_ | refine aw_regd hC Try.checked.mixed (by kernel_rfl) ?_ | refine chk_and (by kernel_rfl) ?_ | refine aw_skip ?_ | refine aw_if ?_ | refine And.intro (by first | omega | with_reducible assumption) ?_ | refine aw_exit ?_ | refine aw_ret ?_ | (simp (decide := true) (disch := omega) only [go_sem, ↓reduceIte, ↓put_at]) | (refine ret_s [] ?_; simp (decide := true) (disch := omega) only [go_sem, ↓reduceIte, ↓put_at]))))
          refine at_meet ⟨ks, hk2, hk3⟩ ?_
          simp (decide := true) (disch := omega) only [go_sem, ↓reduceIte, ↓put_at]
      · (repeat' ((first | refine aw_seq ?_ | refine aw_block ?_ | refine aw_reg hC (by kernel_rfl) ?_ | refine aw_regd hC Try.checked.mixed (by kernel_rfl) ?_ | refine chk_and (by kernel_rfl) ?_ | refine aw_skip ?_ | refine aw_if ?_ | refine And.intro (by first | omega | with_reducible assumption) ?_ | refine aw_exit ?_ | refine aw_ret ?_ | (simp (decide := true) (disch := omega) only [go_sem, ↓reduceIte, ↓put_at]) | (refine ret_s [] ?_; simp (decide := true) (disch := omega) only [go_sem, ↓reduceIte, ↓put_at]))))
        refine at_meet ⟨ks, hk2, hk3⟩ ?_
        simp (decide := true) (disch := omega) only [go_sem, ↓reduceIte, ↓put_at]
  obtain ⟨ks, hk2, hk3⟩ := ks
  dsimp only at hk2 hk3 ⊢
  have hwl := wsOf_len ks
  have hpl := psOf_len ks.length
  have hsb := sum_bd ks hk3
  have e1 : (setF [] (wsOf ks)).1 = ldOf ks := by rw [set_nil, loads_of ks (by omega) fun k hk => by have := hk3 k hk; omega]
  have cs1 := s_set [] (by simp) (wsOf ks) (by omega)
  have o1 : ShOk 0 (ldOf ks) := by rw [← e1, set_nil]; exact loadsF_ok _
  have ops := (ldOf_ps ks).1
  have ows := (ldOf_ps ks).2
  have oin := inv0 ks
  rw [e1] at cs1
  generalize (setF [] (wsOf ks)).2 = b1 at cs1
  generalize ldOf ks = L0 at *
  (repeat' ((fail_if_success (refine stop_reg 18 ?_)); (first | refine aw_seq ?_ | refine aw_block ?_ | refine aw_reg hC (by kernel_rfl) ?_ | refine aw_regd hC Try.checked.mixed (by kernel_rfl) ?_ | refine chk_and (by kernel_rfl) ?_ | refine aw_skip ?_ | refine aw_if ?_ | refine And.intro (by first | omega | with_reducible assumption) ?_ | refine aw_exit ?_ | refine aw_ret ?_ | (simp (decide := true) (disch := omega) only [go_sem, ↓reduceIte, ↓put_at]) | refine call_u Try.call21 (cs1) [(20, 0)] (by simp (decide := true) (disch := omega) only [go_sem, ↓reduceIte, ↓put_at]; first | done | assumption | omega) ?_ | (refine ret_s [] ?_; simp (decide := true) (disch := omega) only [go_sem, ↓reduceIte, ↓put_at]))))
  refine loop_s (α := {x : Nat × Int × List Ld // x.1 ≤ z.length ∧ x.1 ≤ 150 ∧ 0 ≤ x.2.1 ∧ x.2.1 ≤ 2047 ∧ ShOk ((x.1 : Int) * 1073741824) x.2.2 ∧ x.2.2.map (·.p) = psOf ks.length ∧ x.2.2.map (·.w) = ks ∧ invF x.2.1 x.2.2}) (fun x => [(.s 1, .av (.val (.lst 1 (z.map iRow)))), (.s 4, .av (.val (vb false))), (.s 5, .av (.ptr (20, 0) 0 0)), (.r (20, 1), .tree (.rw 140 3 (x.1.2.2.map ldEl))), (.o (20, 0), .num 1), (.c (20, 0) 0, .av (.ref (20, 1) 0)), (.k (6, 1), .row 42 2 (wsOf ks).length), (.s 6, .av (.own (6, 1) 0 42 2 ((wsOf ks).map wtEl))), (.k (7, 1), .row 3 1 (psOf ks.length).length), (.s 7, .av (.own (7, 1) 0 3 1 ((psOf ks.length).map iRow))), (.s 8, .av (.val (vi ks.sum))), (.s 10, .av (.val (vi x.1.2.1))), (.s 11, .av (.val (vi x.1.1)))]) (fun x => 150 - x.1.1) ⟨(0, 0, L0), by simp, by simp, by simp, by simp, by simpa using o1, ops, ows, oin⟩ ?_ (fun x => ?_)
  · simp (decide := true) (disch := omega) only [go_sem, ↓reduceIte, ↓put_at]
  · obtain ⟨⟨i, M, L⟩, hi1, hi2, hM1, hM2, p1, p3, p4, p5⟩ := x
    dsimp only at hi1 hi2 hM1 hM2 p1 p3 p4 p5 ⊢
    by_cases hlt : i < z.length ∧ i < 150
    · obtain ⟨hlt, hlt2⟩ := hlt
      have hge : (z.map iRow).getD i [] = iRow z[i] := by simp [hlt]
      have cp1 := s_pick L p1 (by omega) (psOf ks.length) (by omega)
      have his := pick_is p3
      have cc1 := s_carry L (by have := p1.few; omega) (pickF L (psOf ks.length)).1 (z[i] % 2048) (fun x hx => by have := p1.ok x hx; omega)
      have ok1 := carryF_ok p1 (pickF L (psOf ks.length)).1 (z[i] % 2048)
      have ok3 := (carry_ps L (pickF L (psOf ks.length)).1 (z[i] % 2048))
      rw [p3, p4] at ok3
      have hst := fun h0 : 0 < ks.length => fair_step (n := z[i] % 2048) p1 p3 h0 hM1 (by omega) p5
      generalize carryF L (pickF L (psOf ks.length)).1 (z[i] % 2048) = N at *
      generalize pickF L (psOf ks.length) = Q at *
      obtain ⟨p, is⟩ := Q
      obtain ⟨N1, N2⟩ := N
      dsimp only at cp1 his cc1 ok1 ok3 hst
      subst his
      by_cases h0 : 0 < ks.length
      · obtain ⟨ht1, ht2⟩ := hst h0
        (try dsimp only at ht1 ht2)
        subst ht1
        obtain ⟨q1, q2⟩ := ok3
        rw [decide_eq_true h0] at cp1
        have hnl : N1.length = ks.length := by have := congrArg List.length q1; rwa [List.length_map, psOf_len] at this
        have hbn : ∀ x ∈ N1, 0 ≤ x.b ∧ x.b ≤ 161061273600 := fun x hx => by have := ok1.ok x hx; omega
        have ctt := s_total N1 ok1.few (fun x hx => by have := hbn x hx; omega)
        have htb := tot_bd 161061273600 N1 hbn
        have hn6 : (N1.length : Int) * 161061273600 ≤ 966367641600 := by omega
        (repeat' ((fail_if_success (refine stop_reg 26 ?_)); (first | refine aw_seq ?_ | refine aw_block ?_ | refine aw_reg hC (by kernel_rfl) ?_ | refine aw_regd hC Try.checked.mixed (by kernel_rfl) ?_ | refine chk_and (by kernel_rfl) ?_ | refine aw_skip ?_ | refine aw_if ?_ | refine And.intro (by first | omega | with_reducible assumption) ?_ | refine aw_exit ?_ | refine aw_ret ?_ | (simp (decide := true) (disch := omega) only [go_sem, ↓reduceIte, ↓put_at]) | refine pcall_u Try.call22 (cp1) (by simp (decide := true) (disch := omega) only [go_sem, ↓reduceIte, ↓put_at]; first | done | assumption | omega) ?_ | refine call_u Try.call23 (cc1) [(20, 0)] (by simp (decide := true) (disch := omega) only [go_sem, ↓reduceIte, ↓put_at]; first | done | assumption | omega) ?_ | (refine ret_s [] ?_; simp (decide := true) (disch := omega) only [go_sem, ↓reduceIte, ↓put_at]))))
        obtain ⟨M', hM'⟩ : ∃ M' : Int, M' = max M (z[i] % 2048) := ⟨_, rfl⟩
        rw [← hM'] at ht2 ⊢
        have hMa : 0 ≤ M' := by omega
        have hMb : M' ≤ 2047 := by omega
        refine loop_s (α := {j : Nat // j ≤ ks.length}) (fun j => [(.s 1, .av (.val (.lst 1 (z.map iRow)))), (.s 4, .av (.val (vb false))), (.s 5, .av (.ptr (20, 0) 0 0)), (.r (20, 1), .tree (.rw 140 3 (N1.map ldEl))), (.o (20, 0), .num 1), (.c (20, 0) 0, .av (.ref (20, 1) 0)), (.k (6, 1), .row 42 2 (wsOf ks).length), (.s 6, .av (.own (6, 1) 0 42 2 ((wsOf ks).map wtEl))), (.k (7, 1), .row 3 1 (psOf ks.length).length), (.s 7, .av (.own (7, 1) 0 3 1 ((psOf ks.length).map iRow))), (.s 8, .av (.val (vi ks.sum))), (.s 10, .av (.val (vi M'))), (.s 11, .av (.val (vi i))), (.s 100, .av (.val (.lst 2 ((wsOf ks).map wtEl)))), (.s 101, .av (.val (vi (wsOf ks).length))), (.s 102, .av (.val (vi j.1)))]) (fun j => ks.length - j.1) ⟨0, Nat.zero_le _⟩ ?_ (fun j => ?_)
        · simp (decide := true) (disch := omega) only [go_sem, ↓reduceIte, ↓put_at]
        · obtain ⟨j, hj⟩ := j
          dsimp only at hj ⊢
          by_cases hjl : j < ks.length
          · have hjn : j < N1.length := by omega
            have hfa := fair_at ok1 hMa ht2 (List.getElem_mem hjn)
            have hcr := s_carried N1 (by omega) (1 + j)
            rw [car_at ok1 q1 hjn] at hcr
            have hwj : N1[j].w = ks[j] := by
              have : (N1.map (·.w))[j]'(by simpa using hjn) = N1[j].w := by simp
              rw [← this]; simp only [q2]
            rw [q2, hwj] at hfa
            have hwg : ∀ h : j < (wsOf ks).length, (wsOf ks)[j]'h = ⟨1 + (j : Int), ks[j]⟩ := fun h => by simp [wsOf]
            have hb1 := hbn _ (List.getElem_mem hjn)
            have hkj := hk3 _ (List.getElem_mem hjl)
            have m1 := mul_bd hb1.1 hb1.2 hsb.1 (show ks.sum ≤ 24576 by omega)
            have m2 := mul_bd htb.1 (show totF N1 ≤ 966367641600 by omega) (show 0 ≤ ks[j] by omega) hkj.2
            have m3 := mul_bd hMa hMb hsb.1 (show ks.sum ≤ 24576 by omega)
            have m4 := mul_bd m3.1 m3.2 (show 0 ≤ max 0 ((ks.length : Int) - 1) by omega) (show max 0 ((ks.length : Int) - 1) ≤ 5 by omega)
            have emx : max 0 ((ks.length : Int) - 1) = ((wsOf ks).length : Int) - 1 := by omega
            rw [hnl, emx] at hfa
            rw [emx] at m4
            generalize totF N1 = T at *
            generalize N1[j].b = b at *
            generalize hkk : ks[j] = kj at *
            generalize ks.sum = S at *
            obtain ⟨m1a, m1b⟩ := m1
            obtain ⟨m2a, m2b⟩ := m2
            obtain ⟨m3a, m3b⟩ := m3
            obtain ⟨m4a, m4b⟩ := m4
            obtain ⟨f1, f2⟩ := hfa
            (repeat' ((first | refine aw_seq ?_ | refine aw_block ?_ | refine aw_reg hC (by kernel_rfl) ?_ | refine aw_regd hC Try.checked.mixed (by kernel_rfl) ?_ | refine chk_and (by kernel_rfl) ?_ | refine aw_skip ?_ | refine aw_if ?_ | refine And.intro (by first | omega | with_reducible assumption) ?_ | refine aw_exit ?_ | refine aw_ret ?_ | (simp (decide := true) (disch := omega) only [go_sem, ↓reduceIte, ↓put_at]) | refine pcall_u Try.call25 (hcr) (by simp (decide := true) (disch := omega) only [go_sem, ↓reduceIte, ↓put_at]; first | done | assumption | omega) ?_ | refine pcall_u Try.call24 (ctt) (by simp (decide := true) (disch := omega) only [go_sem, ↓reduceIte, ↓put_at]; first | done | assumption | omega) ?_ | (refine ret_s [] ?_; simp (decide := true) (disch := omega) only [go_sem, ↓reduceIte, ↓put_at]))))
            simp only [hwg]
            (repeat' ((first | refine aw_seq ?_ | refine aw_block ?_ | refine aw_reg hC (by kernel_rfl) ?_ | refine aw_regd hC Try.checked.mixed (by kernel_rfl) ?_ | refine chk_and (by kernel_rfl) ?_ | refine aw_skip ?_ | refine aw_if ?_ | refine And.intro (by first | omega | with_reducible assumption) ?_ | refine aw_exit ?_ | refine aw_ret ?_ | (simp (decide := true) (disch := omega) only [go_sem, ↓reduceIte, ↓put_at]) | refine pcall_u Try.call25 (hcr) (by simp (decide := true) (disch := omega) only [go_sem, ↓reduceIte, ↓put_at]; first | done | assumption | omega) ?_ | refine pcall_u Try.call24 (ctt) (by simp (decide := true) (disch := omega) only [go_sem, ↓reduceIte, ↓put_at]; first | done | assumption | omega) ?_ | (refine ret_s [] ?_; simp (decide := true) (disch := omega) only [go_sem, ↓reduceIte, ↓put_at]))))
            refine next_s (α := {j : Nat // j ≤ ks.length}) ⟨j + 1, hjl⟩ ⟨?_, ?_⟩
            · simp (decide := true) (disch := omega) only [go_sem, ↓reduceIte, ↓put_at]
            · (try dsimp only)
              omega
          · (repeat' ((first | refine aw_seq ?_ | refine aw_block ?_ | refine aw_reg hC (by kernel_rfl) ?_ | refine aw_regd hC Try.checked.mixed (by kernel_rfl) ?_ | refine chk_and (by kernel_rfl) ?_ | refine aw_skip ?_ | refine aw_if ?_ | refine And.intro (by first | omega | with_reducible assumption) ?_ | refine aw_exit ?_ | refine aw_ret ?_ | (simp (decide := true) (disch := omega) only [go_sem, ↓reduceIte, ↓put_at]) | (refine ret_s [] ?_; simp (decide := true) (disch := omega) only [go_sem, ↓reduceIte, ↓put_at]))))
            refine next_s (α := {x : Nat × Int × List Ld // x.1 ≤ z.length ∧ x.1 ≤ 150 ∧ 0 ≤ x.2.1 ∧ x.2.1 ≤ 2047 ∧ ShOk ((x.1 : Int) * 1073741824) x.2.2 ∧ x.2.2.map (·.p) = psOf ks.length ∧ x.2.2.map (·.w) = ks ∧ invF x.2.1 x.2.2}) ⟨(i + 1, M', N1), hlt, hlt2, hMa, hMb, by refine ShOk.mono ok1 ?_; omega, q1, q2, ht2⟩ ⟨?_, ?_⟩
            · simp (decide := true) (disch := omega) only [go_sem, ↓reduceIte, ↓put_at]
            · (try dsimp only)
              omega
      · rw [decide_eq_false h0] at cp1
        have hLe : L = [] := List.eq_nil_of_length_eq_zero (by have := congrArg List.length p4; simp at this; omega)
        (repeat' ((fail_if_success (refine stop_reg 26 ?_)); (first | refine aw_seq ?_ | refine aw_block ?_ | refine aw_reg hC (by kernel_rfl) ?_ | refine aw_regd hC Try.checked.mixed (by kernel_rfl) ?_ | refine chk_and (by kernel_rfl) ?_ | refine aw_skip ?_ | refine aw_if ?_ | refine And.intro (by first | omega | with_reducible assumption) ?_ | refine aw_exit ?_ | refine aw_ret ?_ | (simp (decide := true) (disch := omega) only [go_sem, ↓reduceIte, ↓put_at]) | refine pcall_u Try.call22 (cp1) (by simp (decide := true) (disch := omega) only [go_sem, ↓reduceIte, ↓put_at]; first | done | assumption | omega) ?_ | (refine ret_s [] ?_; simp (decide := true) (disch := omega) only [go_sem, ↓reduceIte, ↓put_at]))))
        refine loop_s (α := Unit) (fun _ => [(.s 1, .av (.val (.lst 1 (z.map iRow)))), (.s 4, .av (.val (vb false))), (.s 5, .av (.ptr (20, 0) 0 0)), (.r (20, 1), .tree (.rw 140 3 (L.map ldEl))), (.o (20, 0), .num 1), (.c (20, 0) 0, .av (.ref (20, 1) 0)), (.k (6, 1), .row 42 2 (wsOf ks).length), (.s 6, .av (.own (6, 1) 0 42 2 ((wsOf ks).map wtEl))), (.k (7, 1), .row 3 1 (psOf ks.length).length), (.s 7, .av (.own (7, 1) 0 3 1 ((psOf ks.length).map iRow))), (.s 8, .av (.val (vi ks.sum))), (.s 10, .av (.val (vi (max M (z[i] % 2048))))), (.s 11, .av (.val (vi i))), (.s 100, .av (.val (.lst 2 ((wsOf ks).map wtEl)))), (.s 101, .av (.val (vi (wsOf ks).length))), (.s 102, .av (.val (vi 0)))]) (fun _ => 0) () ?_ (fun _ => ?_)
        · simp (decide := true) (disch := omega) only [go_sem, ↓reduceIte, ↓put_at]
        · (repeat' ((first | refine aw_seq ?_ | refine aw_block ?_ | refine aw_reg hC (by kernel_rfl) ?_ | refine aw_regd hC Try.checked.mixed (by kernel_rfl) ?_ | refine chk_and (by kernel_rfl) ?_ | refine aw_skip ?_ | refine aw_if ?_ | refine And.intro (by first | omega | with_reducible assumption) ?_ | refine aw_exit ?_ | refine aw_ret ?_ | (simp (decide := true) (disch := omega) only [go_sem, ↓reduceIte, ↓put_at]) | (refine ret_s [] ?_; simp (decide := true) (disch := omega) only [go_sem, ↓reduceIte, ↓put_at]))))
          refine next_s (α := {x : Nat × Int × List Ld // x.1 ≤ z.length ∧ x.1 ≤ 150 ∧ 0 ≤ x.2.1 ∧ x.2.1 ≤ 2047 ∧ ShOk ((x.1 : Int) * 1073741824) x.2.2 ∧ x.2.2.map (·.p) = psOf ks.length ∧ x.2.2.map (·.w) = ks ∧ invF x.2.1 x.2.2}) ⟨(i + 1, max M (z[i] % 2048), L), hlt, hlt2, by dsimp only; omega, by dsimp only; omega, p1.mono (by dsimp only; omega), p3, p4, fun x hx => by dsimp only at hx; rw [hLe] at hx; simp at hx⟩ ⟨?_, ?_⟩
          · simp (decide := true) (disch := omega) only [go_sem, ↓reduceIte, ↓put_at]
          · (try dsimp only)
            omega
    · by_cases h15 : i < z.length
      · have h16 : ¬ i < 150 := fun h => hlt ⟨h15, h⟩
        (repeat' ((first | refine aw_seq ?_ | refine aw_block ?_ | refine aw_reg hC (by kernel_rfl) ?_ | refine aw_regd hC Try.checked.mixed (by kernel_rfl) ?_ | refine chk_and (by kernel_rfl) ?_ | refine aw_skip ?_ | refine aw_if ?_ | refine And.intro (by first | omega | with_reducible assumption) ?_ | refine aw_exit ?_ | refine aw_ret ?_ | (simp (decide := true) (disch := omega) only [go_sem, ↓reduceIte, ↓put_at]) | (refine ret_s [] ?_; simp (decide := true) (disch := omega) only [go_sem, ↓reduceIte, ↓put_at]))))
      · (repeat' ((first | refine aw_seq ?_ | refine aw_block ?_ | refine aw_reg hC (by kernel_rfl) ?_ | refine aw_regd hC Try.checked.mixed (by kernel_rfl) ?_ | refine chk_and (by kernel_rfl) ?_ | refine aw_skip ?_ | refine aw_if ?_ | refine And.intro (by first | omega | with_reducible assumption) ?_ | refine aw_exit ?_ | refine aw_ret ?_ | (simp (decide := true) (disch := omega) only [go_sem, ↓reduceIte, ↓put_at]) | (refine ret_s [] ?_; simp (decide := true) (disch := omega) only [go_sem, ↓reduceIte, ↓put_at]))))
end Go.Proofs.Ytdgkehoodlncmaa
