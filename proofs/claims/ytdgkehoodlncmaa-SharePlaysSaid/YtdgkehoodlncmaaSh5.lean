
/- Layer 18: weights that are all so many times as great share alike; walked. -/
import Derived.Test.YtdgkehoodlncmaaSh4
namespace Go.Proofs.Ytdgkehoodlncmaa
open Go.RowKit
set_option linter.unusedVariables false
set_option linter.unusedSimpArgs false

theorem i64_and2047 (x : Int) : bits .and .i64 x 2047 = x % 2048 := i64_mask 11 (by decide) x
attribute [go_sem] i64_and2047
set_option maxRecDepth 100000 in
set_option maxHeartbeats 8000000 in
theorem scales_walk (w z : List Int) (t : Int) (hw : w.length ≤ maxLen) (hz : z.length ≤ maxLen) : Spec Try.prog 4 [.ca (.val (.lst 1 (w.map iRow))), .ca (.val (.lst 1 (z.map iRow))), .ca (.val (vi t))] [] (.ca (.val (vb true))) [] := by
  have ca := awake18
  have cn := s_new
  obtain ⟨c, hc⟩ : ∃ c : Int, c = 1 + t % 16 := ⟨_, rfl⟩
  have hc1 : 1 ≤ c := by omega
  have hc2 : c ≤ 16 := by omega
  refine spec_of Try.func4 rfl Try.ntmps4 Try.results4 ⟨by decide, by simp⟩ fun C hC => ?_
  (repeat' ((fail_if_success (refine stop_reg 10 ?_)); (first | refine aw_seq ?_ | refine aw_block ?_ | refine aw_reg hC (by kernel_rfl) ?_ | refine aw_regd hC Try.checked.mixed (by kernel_rfl) ?_ | refine chk_and (by kernel_rfl) ?_ | refine aw_skip ?_ | refine aw_if ?_ | refine And.intro (by first | omega | with_reducible assumption) ?_ | refine aw_exit ?_ | refine aw_ret ?_ | (simp (decide := true) (disch := omega) only [go_sem, ↓reduceIte, ↓put_at]) | refine call_u Try.call19 (ca) [] (by simp (decide := true) (disch := omega) only [go_sem, ↓reduceIte, ↓put_at]; first | done | assumption | omega) ?_ | refine call_u Try.call20 (cn) [] (by simp (decide := true) (disch := omega) only [go_sem, ↓reduceIte, ↓put_at]; first | done | assumption | omega) ?_ | refine pnil_u (by first | exact .inl rfl | exact .inr rfl) (by simp (decide := true) (disch := omega) only [go_sem, ↓reduceIte, ↓put_at]; first | done | assumption | omega) ?_ | (refine ret_s [] ?_; simp (decide := true) (disch := omega) only [go_sem, ↓reduceIte, ↓put_at]))))
  rw [← hc]
  refine own_s 9 (9, 1) 42 2 ?_
  simp (decide := true) (disch := omega) only [go_sem, ↓reduceIte, ↓put_at]
  refine own_s 10 (10, 1) 42 2 ?_
  simp (decide := true) (disch := omega) only [go_sem, ↓reduceIte, ↓put_at]
  refine own_s 11 (11, 1) 3 1 ?_
  simp (decide := true) (disch := omega) only [go_sem, ↓reduceIte, ↓put_at]
  refine meetB_s (α := {ks : List Int // ks.length ≤ 5 ∧ ∀ k ∈ ks, 1 ≤ k ∧ k ≤ 2048}) (fun ks => [(.s 1, .av (.val (.lst 1 (z.map iRow)))), (.s 6, .av (.val (vb false))), (.s 7, .av (.ptr (24, 0) 0 0)), (.s 8, .av (.ptr (25, 0) 0 0)), (.r (24, 1), .tree (.rw 140 3 (([] : List Ld).map ldEl))), (.o (24, 0), .num 1), (.c (24, 0) 0, .av (.ref (24, 1) 0)), (.r (25, 1), .tree (.rw 140 3 (([] : List Ld).map ldEl))), (.o (25, 0), .num 1), (.c (25, 0) 0, .av (.ref (25, 1) 0)), (.k (9, 1), .row 42 2 (wsOf ks.1).length), (.s 9, .av (.own (9, 1) 0 42 2 ((wsOf ks.1).map wtEl))), (.k (10, 1), .row 42 2 (wsOf (ks.1.map (· * c))).length), (.s 10, .av (.own (10, 1) 0 42 2 ((wsOf (ks.1.map (· * c))).map wtEl))), (.k (11, 1), .row 3 1 (psOf ks.1.length).length), (.s 11, .av (.own (11, 1) 0 3 1 ((psOf ks.1.length).map iRow)))]) ?_ (fun ks => ?_)
  · refine loop_s (α := {ks : List Int // ks.length ≤ w.length ∧ ks.length ≤ 5 ∧ ∀ k ∈ ks, 1 ≤ k ∧ k ≤ 2048}) (fun ks => [(.s 0, .av (.val (.lst 1 (w.map iRow)))), (.s 2, .av (.val (vi c))), (.s 1, .av (.val (.lst 1 (z.map iRow)))), (.s 6, .av (.val (vb false))), (.s 7, .av (.ptr (24, 0) 0 0)), (.s 8, .av (.ptr (25, 0) 0 0)), (.r (24, 1), .tree (.rw 140 3 (([] : List Ld).map ldEl))), (.o (24, 0), .num 1), (.c (24, 0) 0, .av (.ref (24, 1) 0)), (.r (25, 1), .tree (.rw 140 3 (([] : List Ld).map ldEl))), (.o (25, 0), .num 1), (.c (25, 0) 0, .av (.ref (25, 1) 0)), (.k (9, 1), .row 42 2 (wsOf ks.1).length), (.s 9, .av (.own (9, 1) 0 42 2 ((wsOf ks.1).map wtEl))), (.k (10, 1), .row 42 2 (wsOf (ks.1.map (· * c))).length), (.s 10, .av (.own (10, 1) 0 42 2 ((wsOf (ks.1.map (· * c))).map wtEl))), (.k (11, 1), .row 3 1 (psOf ks.1.length).length), (.s 11, .av (.own (11, 1) 0 3 1 ((psOf ks.1.length).map iRow))), (.s 12, .av (.val (vi ks.1.length)))]) (fun ks => 5 - ks.1.length) ⟨[], by simp, by simp, fun k h => by simp at h⟩ ?_ (fun ks => ?_)
    · simp only [List.map_nil, show wsOf [] = [] from rfl, show psOf ([] : List Int).length = [] from rfl]
      simp (decide := true) (disch := omega) only [go_sem, ↓reduceIte, ↓put_at]
    · obtain ⟨ks, hk1, hk2, hk3⟩ := ks
      dsimp only at hk1 hk2 hk3 ⊢
      have hwl := wsOf_len ks
      have hwl2 := wsOf_len (ks.map (· * c))
      have hpl := psOf_len ks.length
      rw [List.length_map] at hwl2
      by_cases hlt : ks.length < w.length
      · by_cases hlt2 : ks.length < 5
        · have hge : (w.map iRow).getD ks.length [] = iRow w[ks.length] := by simp [hlt]
          have hks : ∀ k ∈ ks ++ [1 + w[ks.length] % 2048], 1 ≤ k ∧ k ≤ 2048 := fun k hk => by
            rcases List.mem_append.1 hk with hk | hk
            · exact hk3 k hk
            · simp at hk; omega
          have hm : 0 ≤ (1 + w[ks.length] % 2048) * c ∧ (1 + w[ks.length] % 2048) * c ≤ 32768 := by
            refine ⟨Int.mul_nonneg (by omega) (by omega), ?_⟩
            have := Int.mul_le_mul (show 1 + w[ks.length] % 2048 ≤ 2048 by omega) hc2 (by omega) (by omega : (0 : Int) ≤ 2048)
            omega
          obtain ⟨hm1, hm2⟩ := hm
          (repeat' ((first | refine aw_seq ?_ | refine aw_block ?_ | refine aw_reg hC (by kernel_rfl) ?_ | refine aw_regd hC Try.checked.mixed (by kernel_rfl) ?_ | refine chk_and (by kernel_rfl) ?_ | refine aw_skip ?_ | refine aw_if ?_ | refine And.intro (by first | omega | with_reducible assumption) ?_ | refine aw_exit ?_ | refine aw_ret ?_ | (simp (decide := true) (disch := omega) only [go_sem, ↓reduceIte, ↓put_at]) | (refine ret_s [] ?_; simp (decide := true) (disch := omega) only [go_sem, ↓reduceIte, ↓put_at]))))
          refine next_s (α := {ks : List Int // ks.length ≤ w.length ∧ ks.length ≤ 5 ∧ ∀ k ∈ ks, 1 ≤ k ∧ k ≤ 2048}) ⟨ks ++ [1 + w[ks.length] % 2048], by simp; omega, by simp; omega, hks⟩ ⟨?_, ?_⟩
          · (try dsimp only)
            rw [List.map_append, wsOf_snoc, List.map_singleton, wsOf_snoc, List.length_map, show (ks ++ [1 + w[ks.length] % 2048]).length = ks.length + 1 by simp, psOf_succ]
            simp (decide := true) (disch := omega) only [go_sem, ↓reduceIte, ↓put_at]
            simp only [List.map_append, List.map_cons, List.map_nil, wtEl, and_self]
          · (try dsimp only)
            simp
            omega
        · (repeat' ((first | refine aw_seq ?_ | refine aw_block ?_ | refine aw_reg hC (by kernel_rfl) ?_ | refine aw_regd hC Try.checked.mixed (by kernel_rfl) ?_ | refine chk_and (by kernel_rfl) ?_ | refine aw_skip ?_ | refine aw_if ?_ | refine And.intro (by first | omega | with_reducible assumption) ?_ | refine aw_exit ?_ | refine aw_ret ?_ | (simp (decide := true) (disch := omega) only [go_sem, ↓reduceIte, ↓put_at]) | (refine ret_s [] ?_; simp (decide := true) (disch := omega) only [go_sem, ↓reduceIte, ↓put_at]))))
          refine at_meet ⟨ks, hk2, hk3⟩ ?_
          simp (decide := true) (disch := omega) only [go_sem, ↓reduceIte, ↓put_at]
      · (repeat' ((first | refine aw_seq ?_ | refine aw_block ?_ | refine aw_reg hC (by kernel_rfl) ?_ | refine aw_regd hC Try.checked.mixed (by kernel_rfl) ?_ | refine chk_and (by kernel_rfl) ?_ | refine aw_skip ?_ | refine aw_if ?_ | refine And.intro (by first | omega | with_reducible assumption) ?_ | refine aw_exit ?_ | refine aw_ret ?_ | (simp (decide := true) (disch := omega) only [go_sem, ↓reduceIte, ↓put_at]) | (refine ret_s [] ?_; simp (decide := true) (disch := omega) only [go_sem, ↓reduceIte, ↓put_at]))))
        refine at_meet ⟨ks, hk2, hk3⟩ ?_
        simp (decide := true) (disch := omega) only [go_sem, ↓reduceIte, ↓put_at]
  obtain ⟨ks, hk2, hk3⟩ := ks
  dsimp only at hk2 hk3 ⊢
  have hwl := wsOf_len ks
  have hwl2 := wsOf_len (ks.map (· * c))
  have hpl := psOf_len ks.length
  rw [List.length_map] at hwl2
  have hkc : ∀ k ∈ ks.map (· * c), 1 ≤ k ∧ k ≤ 65535 := fun k hk => by
    obtain ⟨x, hx, rfl⟩ := List.mem_map.1 hk
    have h1 := hk3 x hx
    have h2 := Int.mul_le_mul h1.2 hc2 (by omega) (by omega : (0 : Int) ≤ 2048)
    have h3 := Int.mul_le_mul h1.1 hc1 (by omega) (by omega : (0 : Int) ≤ x)
    simp only [Int.one_mul] at h3
    omega
  have e1 : (setF [] (wsOf ks)).1 = ldOf ks := by rw [set_nil, loads_of ks (by omega) fun k hk => by have := hk3 k hk; omega]
  have e2 : (setF [] (wsOf (ks.map (· * c)))).1 = (ldOf ks).map (scL c) := by rw [set_nil, loads_of _ (by rw [List.length_map]; omega) hkc, ldOf_sc]
  have cs1 := s_set [] (by simp) (wsOf ks) (by omega)
  have cs2 := s_set [] (by simp) (wsOf (ks.map (· * c))) (by omega)
  have o1 : ShOk 0 (ldOf ks) := by rw [← e1, set_nil]; exact loadsF_ok _
  have o2 : ShOk 0 ((ldOf ks).map (scL c)) := by rw [← e2, set_nil]; exact loadsF_ok _
  have ops := (ldOf_ps ks).1
  rw [e1] at cs1
  rw [e2] at cs2
  generalize (setF [] (wsOf ks)).2 = b1 at cs1
  generalize (setF [] (wsOf (ks.map (· * c)))).2 = b2 at cs2
  generalize ldOf ks = L0 at *
  (repeat' ((fail_if_success (refine stop_reg 17 ?_)); (first | refine aw_seq ?_ | refine aw_block ?_ | refine aw_reg hC (by kernel_rfl) ?_ | refine aw_regd hC Try.checked.mixed (by kernel_rfl) ?_ | refine chk_and (by kernel_rfl) ?_ | refine aw_skip ?_ | refine aw_if ?_ | refine And.intro (by first | omega | with_reducible assumption) ?_ | refine aw_exit ?_ | refine aw_ret ?_ | (simp (decide := true) (disch := omega) only [go_sem, ↓reduceIte, ↓put_at]) | refine call_u Try.call21 (cs1) [(24, 0)] (by simp (decide := true) (disch := omega) only [go_sem, ↓reduceIte, ↓put_at]; first | done | assumption | omega) ?_ | refine call_u Try.call21 (cs2) [(25, 0)] (by simp (decide := true) (disch := omega) only [go_sem, ↓reduceIte, ↓put_at]; first | done | assumption | omega) ?_ | (refine ret_s [] ?_; simp (decide := true) (disch := omega) only [go_sem, ↓reduceIte, ↓put_at]))))
  refine loop_s (α := {x : Nat × List Ld // x.1 ≤ z.length ∧ x.1 ≤ 80 ∧ ShOk ((x.1 : Int) * 1073741824) x.2 ∧ ShOk ((x.1 : Int) * 1073741824) (x.2.map (scL c)) ∧ x.2.map (·.p) = psOf ks.length}) (fun x => [(.s 1, .av (.val (.lst 1 (z.map iRow)))), (.s 6, .av (.val (vb false))), (.s 7, .av (.ptr (24, 0) 0 0)), (.s 8, .av (.ptr (25, 0) 0 0)), (.r (24, 1), .tree (.rw 140 3 (x.1.2.map ldEl))), (.o (24, 0), .num 1), (.c (24, 0) 0, .av (.ref (24, 1) 0)), (.r (25, 1), .tree (.rw 140 3 ((x.1.2.map (scL c)).map ldEl))), (.o (25, 0), .num 1), (.c (25, 0) 0, .av (.ref (25, 1) 0)), (.k (9, 1), .row 42 2 (wsOf ks).length), (.s 9, .av (.own (9, 1) 0 42 2 ((wsOf ks).map wtEl))), (.k (11, 1), .row 3 1 (psOf ks.length).length), (.s 11, .av (.own (11, 1) 0 3 1 ((psOf ks.length).map iRow))), (.s 14, .av (.val (vi x.1.1)))]) (fun x => 80 - x.1.1) ⟨(0, L0), by simp, by simp, by simpa using o1, by simpa using o2, ops⟩ ?_ (fun x => ?_)
  · simp (decide := true) (disch := omega) only [go_sem, ↓reduceIte, ↓put_at]
  · obtain ⟨⟨i, L⟩, hi1, hi2, p1, p2, p3⟩ := x
    dsimp only at hi1 hi2 p1 p2 p3 ⊢
    have hps := hpl
    by_cases hlt : i < z.length ∧ i < 80
    · obtain ⟨hlt, hlt2⟩ := hlt
      have hge : (z.map iRow).getD i [] = iRow z[i] := by simp [hlt]
      have cp1 := s_pick L p1 (by omega) (psOf ks.length) (by omega)
      have cp2 := s_pick (L.map (scL c)) p2 (by omega) (psOf ks.length) (by omega)
      rw [pick_sc c (by omega)] at cp2
      have his := pick_is p3
      have cc1 := s_carry L (by have := p1.few; omega) (pickF L (psOf ks.length)).1 (z[i] % 2048) (fun x hx => by have := p1.ok x hx; omega)
      have cc2 := s_carry (L.map (scL c)) (by have := p2.few; omega) (pickF L (psOf ks.length)).1 (z[i] % 2048) (fun x hx => by have := p2.ok x hx; omega)
      have ok1 := carryF_ok p1 (pickF L (psOf ks.length)).1 (z[i] % 2048)
      have ok2 := carryF_ok p2 (pickF L (psOf ks.length)).1 (z[i] % 2048)
      have ok3 := (carry_ps L (pickF L (psOf ks.length)).1 (z[i] % 2048)).1
      rw [carry_sc] at cc2 ok2
      dsimp only at cc2 ok2
      rw [p3] at ok3
      generalize carryF L (pickF L (psOf ks.length)).1 (z[i] % 2048) = N at *
      generalize pickF L (psOf ks.length) = Q at *
      obtain ⟨p, is⟩ := Q
      obtain ⟨N1, N2⟩ := N
      dsimp only at cp1 cp2 his cc1 cc2 ok1 ok2 ok3
      subst his
      by_cases h0 : 0 < ks.length
      · rw [decide_eq_true h0] at cp1 cp2
        (repeat' ((first | refine aw_seq ?_ | refine aw_block ?_ | refine aw_reg hC (by kernel_rfl) ?_ | refine aw_regd hC Try.checked.mixed (by kernel_rfl) ?_ | refine chk_and (by kernel_rfl) ?_ | refine aw_skip ?_ | refine aw_if ?_ | refine And.intro (by first | omega | with_reducible assumption) ?_ | refine aw_exit ?_ | refine aw_ret ?_ | (simp (decide := true) (disch := omega) only [go_sem, ↓reduceIte, ↓put_at]) | refine pcall_u Try.call22 (cp1) (by simp (decide := true) (disch := omega) only [go_sem, ↓reduceIte, ↓put_at]; first | done | assumption | omega) ?_ | refine pcall_u Try.call22 (cp2) (by simp (decide := true) (disch := omega) only [go_sem, ↓reduceIte, ↓put_at]; first | done | assumption | omega) ?_ | refine call_u Try.call23 (cc1) [(24, 0)] (by simp (decide := true) (disch := omega) only [go_sem, ↓reduceIte, ↓put_at]; first | done | assumption | omega) ?_ | refine call_u Try.call23 (cc2) [(25, 0)] (by simp (decide := true) (disch := omega) only [go_sem, ↓reduceIte, ↓put_at]; first | done | assumption | omega) ?_ | (refine ret_s [] ?_; simp (decide := true) (disch := omega) only [go_sem, ↓reduceIte, ↓put_at]))))
        refine next_s (α := {x : Nat × List Ld // x.1 ≤ z.length ∧ x.1 ≤ 80 ∧ ShOk ((x.1 : Int) * 1073741824) x.2 ∧ ShOk ((x.1 : Int) * 1073741824) (x.2.map (scL c)) ∧ x.2.map (·.p) = psOf ks.length}) ⟨(i + 1, N1), hlt, hlt2, by refine ShOk.mono ok1 ?_; omega, by refine ShOk.mono ok2 ?_; omega, ok3⟩ ⟨?_, ?_⟩
        · simp (decide := true) (disch := omega) only [go_sem, ↓reduceIte, ↓put_at]
        · (try dsimp only)
          omega
      · rw [decide_eq_false h0] at cp1 cp2
        (repeat' ((first | refine aw_seq ?_ | refine aw_block ?_ | refine aw_reg hC (by kernel_rfl) ?_ | refine aw_regd hC Try.checked.mixed (by kernel_rfl) ?_ | refine chk_and (by kernel_rfl) ?_ | refine aw_skip ?_ | refine aw_if ?_ | refine And.intro (by first | omega | with_reducible assumption) ?_ | refine aw_exit ?_ | refine aw_ret ?_ | (simp (decide := true) (disch := omega) only [go_sem, ↓reduceIte, ↓put_at]) | refine pcall_u Try.call22 (cp1) (by simp (decide := true) (disch := omega) only [go_sem, ↓reduceIte, ↓put_at]; first | done | assumption | omega) ?_ | refine pcall_u Try.call22 (cp2) (by simp (decide := true) (disch := omega) only [go_sem, ↓reduceIte, ↓put_at]; first | done | assumption | omega) ?_ | refine call_u Try.call23 (cc1) [(24, 0)] (by simp (decide := true) (disch := omega) only [go_sem, ↓reduceIte, ↓put_at]; first | done | assumption | omega) ?_ | refine call_u Try.call23 (cc2) [(25, 0)] (by simp (decide := true) (disch := omega) only [go_sem, ↓reduceIte, ↓put_at]; first | done | assumption | omega) ?_ | (refine ret_s [] ?_; simp (decide := true) (disch := omega) only [go_sem, ↓reduceIte, ↓put_at]))))
        refine next_s (α := {x : Nat × List Ld // x.1 ≤ z.length ∧ x.1 ≤ 80 ∧ ShOk ((x.1 : Int) * 1073741824) x.2 ∧ ShOk ((x.1 : Int) * 1073741824) (x.2.map (scL c)) ∧ x.2.map (·.p) = psOf ks.length}) ⟨(i + 1, N1), hlt, hlt2, by refine ShOk.mono ok1 ?_; omega, by refine ShOk.mono ok2 ?_; omega, ok3⟩ ⟨?_, ?_⟩
        · simp (decide := true) (disch := omega) only [go_sem, ↓reduceIte, ↓put_at]
        · (try dsimp only)
          omega
    · have ct1 := s_total L p1.few (fun x hx => by have := p1.ok x hx; omega)
      have ct2 := s_total (L.map (scL c)) p2.few (fun x hx => by have := p2.ok x hx; omega)
      rw [tot_sc] at ct2
      generalize totF L = T at *
      by_cases h15 : i < z.length
      · have h16 : ¬ i < 80 := fun h => hlt ⟨h15, h⟩
        (repeat' ((first | refine aw_seq ?_ | refine aw_block ?_ | refine aw_reg hC (by kernel_rfl) ?_ | refine aw_regd hC Try.checked.mixed (by kernel_rfl) ?_ | refine chk_and (by kernel_rfl) ?_ | refine aw_skip ?_ | refine aw_if ?_ | refine And.intro (by first | omega | with_reducible assumption) ?_ | refine aw_exit ?_ | refine aw_ret ?_ | (simp (decide := true) (disch := omega) only [go_sem, ↓reduceIte, ↓put_at]) | refine pcall_u Try.call24 (ct1) (by simp (decide := true) (disch := omega) only [go_sem, ↓reduceIte, ↓put_at]; first | done | assumption | omega) ?_ | refine pcall_u Try.call24 (ct2) (by simp (decide := true) (disch := omega) only [go_sem, ↓reduceIte, ↓put_at]; first | done | assumption | omega) ?_ | (refine ret_s [] ?_; simp (decide := true) (disch := omega) only [go_sem, ↓reduceIte, ↓put_at]))))
      · (repeat' ((first | refine aw_seq ?_ | refine aw_block ?_ | refine aw_reg hC (by kernel_rfl) ?_ | refine aw_regd hC Try.checked.mixed (by kernel_rfl) ?_ | refine chk_and (by kernel_rfl) ?_ | refine aw_skip ?_ | refine aw_if ?_ | refine And.intro (by first | omega | with_reducible assumption) ?_ | refine aw_exit ?_ | refine aw_ret ?_ | (simp (decide := true) (disch := omega) only [go_sem, ↓reduceIte, ↓put_at]) | refine pcall_u Try.call24 (ct1) (by simp (decide := true) (disch := omega) only [go_sem, ↓reduceIte, ↓put_at]; first | done | assumption | omega) ?_ | refine pcall_u Try.call24 (ct2) (by simp (decide := true) (disch := omega) only [go_sem, ↓reduceIte, ↓put_at]; first | done | assumption | omega) ?_ | (refine ret_s [] ?_; simp (decide := true) (disch := omega) only [go_sem, ↓reduceIte, ↓put_at]))))
end Go.Proofs.Ytdgkehoodlncmaa
