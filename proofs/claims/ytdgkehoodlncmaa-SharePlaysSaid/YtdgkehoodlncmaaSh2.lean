
/- Package share, walked: its methods. -/
import Derived.Test.YtdgkehoodlncmaaSh1
namespace Go.Proofs.Ytdgkehoodlncmaa
open Go.RowKit
set_option linter.unusedVariables false
set_option linter.unusedSimpArgs false

abbrev shL (l : List Ld) : List CA := [.hd (.rw 140 3 (l.map ldEl))]
abbrev shV (l : List Ld) : List V := [.lst 3 (l.map ldEl)]
theorem ld_len (l : List Ld) : ∀ r ∈ l.map ldEl, r.length = 3 := fun r h => by obtain ⟨e, _, rfl⟩ := List.mem_map.1 h; rfl
theorem ld_one (l : List Ld) : ∀ r ∈ l.map ldEl, ∀ y ∈ r, oneV y = true := fun r h y hy => by obtain ⟨e, _, rfl⟩ := List.mem_map.1 h; simp [ldEl] at hy; rcases hy with rfl | rfl | rfl <;> rfl
theorem ld_flat (l : List Ld) : flatR (l.map ldEl) := fun r h y hy => by obtain ⟨e, _, rfl⟩ := List.mem_map.1 h; simp [ldEl] at hy; rcases hy with rfl | rfl | rfl <;> trivial
theorem fn_at {E : List En} (hu : Up16 E) (id : Int) : firstN (fun i => cmpZ ((E[i]?.map (·.id)).getD 0) id) E.length = atP E id := by
  refine firstN_is _ _ _ (atP_le _ _) (fun k hk => ?_) (fun k hk hk2 => ?_)
  · have h1 : k < E.length := by have := atP_le E id; omega
    have := (at_lt hu h1).1 hk
    simp [h1, cmpZ, this]
  · have : ¬ (E[k]).id < id := fun hc => by have := (at_lt hu hk2).2 hc; omega
    simp only [hk2, List.getElem?_eq_getElem, Option.map_some, Option.getD_some, cmpZ, if_neg this]
    split <;> omega
theorem fn_has {E : List En} (hu : Up16 E) (id : Int) : (decide (atP E id < E.length) && decide (cmpZ ((E[atP E id]?.map (·.id)).getD 0) id = 0)) = hasP E id := by
  rw [at_has hu]
  by_cases h1 : atP E id < E.length
  · simp only [h1, List.getElem?_eq_getElem, Option.map_some, Option.getD_some, decide_true, Bool.true_and]
    unfold cmpZ
    by_cases h2 : (E[atP E id]).id = id
    · simp [h2]
    · have h4 : ¬ (some (E[atP E id]).id = some id) := fun h => h2 (Option.some.inj h)
      rw [decide_eq_false h4]
      refine decide_eq_false ?_
      split
      · omega
      · split <;> omega
  · simp [h1]
theorem fn_mono {E : List En} (hu : Up16 E) (id : Int) (i j : Nat) (hij : i ≤ j) (hj : j < E.length) (h0 : 0 ≤ cmpZ ((E[i]?.map (·.id)).getD 0) id) : 0 ≤ cmpZ ((E[j]?.map (·.id)).getD 0) id := by
  have h1 : i < E.length := by omega
  have h3 : (E[i]).id ≤ (E[j]).id := by
    rcases Nat.lt_or_ge i j with h | h
    · have := up_get hu h hj; omega
    · have : i = j := by omega
      subst this; omega
  simp only [h1, hj, List.getElem?_eq_getElem, Option.map_some, Option.getD_some, cmpZ] at h0 ⊢
  split at h0
  · omega
  · split at h0
    · split
      · omega
      · split <;> omega
    · split
      · omega
      · split <;> omega
set_option maxRecDepth 100000 in
theorem s_new : Spec Try.prog 20 [] [] (.ptr 0 0) [shL []] := by
  refine spec_of Try.func20 rfl Try.ntmps20 Try.results20 ⟨by decide, by simp⟩ fun C hC => ?_
  (repeat' ((first | refine aw_seq ?_ | refine aw_block ?_ | refine aw_reg hC (by kernel_rfl) ?_ | refine aw_regd hC Try.checked.mixed (by kernel_rfl) ?_ | refine chk_and (by kernel_rfl) ?_ | refine aw_skip ?_ | refine aw_if ?_ | refine And.intro (by first | omega | with_reducible assumption) ?_ | refine aw_exit ?_ | refine aw_ret ?_ | (simp (decide := true) (disch := omega) only [go_sem, ↓reduceIte, ↓put_at]) | refine condK_eq (fun h => ?_) (fun h => ?_) | refine condK_dec (fun h => ?_) (fun h => ?_) | refine condK_if (fun h => ?_) (fun h => ?_) | (refine ret_s [(2, 0)] ?_; simp (decide := true) (disch := omega) only [go_sem, ↓reduceIte, ↓put_at]))))
set_option maxHeartbeats 4000000 in
theorem s_find {l : List Ld} (h : ShOk 0 l) (p : Int) : Spec Try.prog 117 [.ca (.val (.lst 3 (l.map ldEl))), .ca (.val (vi p)), .fn 118 []] [] (.ca (.val (.tup [vi (atL l p), vb (hasL l p)]))) [] := by
  have c := sl_bs (l.map ldEl) p 118 Try.call118 (fun i => cmpZ ((((l.map toE)[i]?).map (·.id)).getD 0) p) (by have := h.few; rw [List.length_map]; omega) (ld_len _) (fun i hi => by
      have h1 : i < l.length := by simpa using hi
      have := sh_l1 (l[i]) p
      simpa [h1, toE] using this) (fun i j hij hj h0 => fn_mono h.up p i j hij (by simpa using hj) h0)
  have e1 : (l.map ldEl).length = (l.map toE).length := by simp
  rw [e1, fn_at h.up, fn_has h.up] at c
  exact c
set_option maxRecDepth 100000 in
set_option maxHeartbeats 4000000 in
theorem s_loads (ws : List Wt) (hl : ws.length ≤ 1000000) : Spec Try.prog 65 [.ca (.val (.lst 2 (ws.map wtEl)))] [] (.ca (.hd (.rw 140 3 ((loadsF ws).map ldEl)))) [] := by
  refine spec_of Try.func65 rfl Try.ntmps65 Try.results65 ⟨by decide, by simp⟩ fun C hC => ?_
  (repeat' ((fail_if_success (refine stop_reg 3 ?_)); (first | refine aw_seq ?_ | refine aw_block ?_ | refine aw_reg hC (by kernel_rfl) ?_ | refine aw_regd hC Try.checked.mixed (by kernel_rfl) ?_ | refine chk_and (by kernel_rfl) ?_ | refine aw_skip ?_ | refine aw_if ?_ | refine And.intro (by first | omega | with_reducible assumption) ?_ | refine aw_exit ?_ | refine aw_ret ?_ | (simp (decide := true) (disch := omega) only [go_sem, ↓reduceIte, ↓put_at]) | (refine ret_s [] ?_; simp (decide := true) (disch := omega) only [go_sem, ↓reduceIte, ↓put_at]))))
  refine tre_s 3 (3, 1) 140 3 (by decide) ?_
  simp (decide := true) (disch := omega) only [go_sem, ↓reduceIte, ↓put_at]
  refine loop_s (α := {j : Nat // j ≤ ws.length}) (fun j => [(.s 2, .av (.val (.sc (.slice none 0 0)))), (.r (3, 1), .tree (.rw 140 3 ((loadsF (ws.take j.1)).map ldEl))), (.s 3, .av (.ref (3, 1) 0)), (.s 8, .av (.val (.lst 2 (ws.map wtEl)))), (.s 9, .av (.val (vi ws.length))), (.s 10, .av (.val (vi j.1)))]) (fun j => ws.length - j.1) ⟨0, Nat.zero_le _⟩ ?_ (fun j => ?_)
  · simp (decide := true) (disch := omega) only [go_sem, ↓reduceIte, ↓put_at]
    rfl
  · obtain ⟨j, hj⟩ := j
    dsimp only at hj ⊢
    have hok := loadsF_ok (ws.take j)
    generalize hL : loadsF (ws.take j) = L at hok ⊢
    by_cases hlt : j < ws.length
    · have hge : (ws.map wtEl).getD j [] = wtEl ws[j] := by simp [hlt]
      have hnx : loadsF (ws.take (j + 1)) = addW L ws[j] := by
        rw [← List.take_append_getElem hlt]
        unfold loadsF at hL ⊢
        rw [List.foldl_append, hL]; rfl
      have c1 := s_find hok ws[j].p
      have hale : atL L ws[j].p ≤ L.length := by have := atP_le (L.map toE) ws[j].p; rw [List.length_map] at this; exact this
      have hfew := hok.few
      generalize hA : atL L ws[j].p = A at *
      by_cases hc : hasL L ws[j].p = false ∧ L.length < 15
      · have hadd : addW L ws[j] = L.take A ++ ⟨ws[j].p, cw ws[j].w, 0⟩ :: L.drop A := by unfold addW; rw [if_pos hc, hA]
        obtain ⟨hc1, hc2⟩ := hc
        rw [hc1] at c1
        have c2 := sl_ins_ld (L.map ldEl) (ldEl ⟨ws[j].p, cw ws[j].w, 0⟩) A (by simpa using hale) (by simp; omega) (ld_len _) (ld_one _) rfl (fun y hy => by simp [ldEl] at hy; rcases hy with rfl | rfl | rfl <;> rfl)
        have hins : List.take A (L.map ldEl) ++ ldEl ⟨ws[j].p, cw ws[j].w, 0⟩ :: List.drop A (L.map ldEl) = (addW L ws[j]).map ldEl := by
          rw [hadd, List.map_append, List.map_cons, List.map_take, List.map_drop]
        rw [hins] at c2
        unfold cw at c2
        (repeat' ((fail_if_success (first | refine stop_at 9 ?_ | refine stop_l 9 ?_)); (first | refine aw_seq ?_ | refine aw_block ?_ | refine aw_reg hC (by kernel_rfl) ?_ | refine aw_regd hC Try.checked.mixed (by kernel_rfl) ?_ | refine chk_and (by kernel_rfl) ?_ | refine aw_skip ?_ | refine aw_if ?_ | refine And.intro (by first | omega | with_reducible assumption) ?_ | refine aw_exit ?_ | refine aw_ret ?_ | (simp (decide := true) (disch := omega) only [go_sem, ↓reduceIte, ↓put_at]) | refine pcall_u Try.call117 (c1) (by simp (decide := true) (disch := omega) only [go_sem, ↓reduceIte, ↓put_at]; first | done | assumption | omega) ?_ | refine call_u Try.call119 (c2) [] (by simp (decide := true) (disch := omega) only [go_sem, ↓reduceIte, ↓put_at]; first | done | assumption | omega) ?_ | (refine ret_s [] ?_; simp (decide := true) (disch := omega) only [go_sem, ↓reduceIte, ↓put_at]))))
        refine ren_s 3 (38, 1) (3, 1) 140 3 ((addW L ws[j]).map ldEl) (by decide) ⟨⟨by kernel_rfl, by kernel_rfl, by rw [hC]; decide⟩, ?_⟩
        (repeat' ((first | refine aw_seq ?_ | refine aw_block ?_ | refine aw_reg hC (by kernel_rfl) ?_ | refine aw_regd hC Try.checked.mixed (by kernel_rfl) ?_ | refine chk_and (by kernel_rfl) ?_ | refine aw_skip ?_ | refine aw_if ?_ | refine And.intro (by first | omega | with_reducible assumption) ?_ | refine aw_exit ?_ | refine aw_ret ?_ | (simp (decide := true) (disch := omega) only [go_sem, ↓reduceIte, ↓put_at]) | (refine ret_s [] ?_; simp (decide := true) (disch := omega) only [go_sem, ↓reduceIte, ↓put_at]))))
        refine next_s (α := {j : Nat // j ≤ ws.length}) ⟨j + 1, hlt⟩ ⟨?_, ?_⟩
        · (try dsimp only)
          rw [hnx]
          simp (decide := true) (disch := omega) only [go_sem, ↓reduceIte, ↓put_at]
        · (try dsimp only)
          omega
      · have hadd : addW L ws[j] = L := by unfold addW; rw [if_neg hc]
        cases hh : hasL L ws[j].p with
        | true =>
          rw [hh] at c1
          (repeat' ((first | refine aw_seq ?_ | refine aw_block ?_ | refine aw_reg hC (by kernel_rfl) ?_ | refine aw_regd hC Try.checked.mixed (by kernel_rfl) ?_ | refine chk_and (by kernel_rfl) ?_ | refine aw_skip ?_ | refine aw_if ?_ | refine And.intro (by first | omega | with_reducible assumption) ?_ | refine aw_exit ?_ | refine aw_ret ?_ | (simp (decide := true) (disch := omega) only [go_sem, ↓reduceIte, ↓put_at]) | refine pcall_u Try.call117 (c1) (by simp (decide := true) (disch := omega) only [go_sem, ↓reduceIte, ↓put_at]; first | done | assumption | omega) ?_ | (refine ret_s [] ?_; simp (decide := true) (disch := omega) only [go_sem, ↓reduceIte, ↓put_at]))))
          refine next_s (α := {j : Nat // j ≤ ws.length}) ⟨j + 1, hlt⟩ ⟨?_, ?_⟩
          · (try dsimp only)
            rw [hnx, hadd]
            simp (decide := true) (disch := omega) only [go_sem, ↓reduceIte, ↓put_at]
          · (try dsimp only)
            omega
        | false =>
          rw [hh] at c1
          have h15 : ¬ L.length < 15 := fun h => hc ⟨hh, h⟩
          (repeat' ((first | refine aw_seq ?_ | refine aw_block ?_ | refine aw_reg hC (by kernel_rfl) ?_ | refine aw_regd hC Try.checked.mixed (by kernel_rfl) ?_ | refine chk_and (by kernel_rfl) ?_ | refine aw_skip ?_ | refine aw_if ?_ | refine And.intro (by first | omega | with_reducible assumption) ?_ | refine aw_exit ?_ | refine aw_ret ?_ | (simp (decide := true) (disch := omega) only [go_sem, ↓reduceIte, ↓put_at]) | refine pcall_u Try.call117 (c1) (by simp (decide := true) (disch := omega) only [go_sem, ↓reduceIte, ↓put_at]; first | done | assumption | omega) ?_ | (refine ret_s [] ?_; simp (decide := true) (disch := omega) only [go_sem, ↓reduceIte, ↓put_at]))))
          refine next_s (α := {j : Nat // j ≤ ws.length}) ⟨j + 1, hlt⟩ ⟨?_, ?_⟩
          · (try dsimp only)
            rw [hnx, hadd]
            simp (decide := true) (disch := omega) only [go_sem, ↓reduceIte, ↓put_at]
          · (try dsimp only)
            omega
    · obtain rfl : j = ws.length := by omega
      rw [List.take_length] at hL
      rw [hL]
      (repeat' ((first | refine aw_seq ?_ | refine aw_block ?_ | refine aw_reg hC (by kernel_rfl) ?_ | refine aw_regd hC Try.checked.mixed (by kernel_rfl) ?_ | refine chk_and (by kernel_rfl) ?_ | refine aw_skip ?_ | refine aw_if ?_ | refine And.intro (by first | omega | with_reducible assumption) ?_ | refine aw_exit ?_ | refine aw_ret ?_ | (simp (decide := true) (disch := omega) only [go_sem, ↓reduceIte, ↓put_at]) | (refine ret_s [] ?_; simp (decide := true) (disch := omega) only [go_sem, ↓reduceIte, ↓put_at]))))
set_option maxRecDepth 100000 in
set_option maxHeartbeats 4000000 in
theorem s_set (l : List Ld) (hl : l.length ≤ 1000000) (ws : List Wt) (hw : ws.length ≤ 1000000) : Spec Try.prog 21 [.ptr 0 0, .ca (.val (.lst 2 (ws.map wtEl)))] [shL l] (.ca (.val (vb (setF l ws).2))) [shL (setF l ws).1] := by
  have c1 := s_loads ws hw
  have c2 := sl_equal (loadsF ws) l 67 Try.call67 sameW (by have := (loadsF_ok ws).few; omega) hl sh_s1
  unfold setF
  generalize loadsF ws = n at *
  cases hq : allF sameW n l with
  | true =>
    rw [hq] at c2
    rw [if_pos rfl]
    refine spec_of Try.func21 rfl Try.ntmps21 Try.results21 ⟨by decide, by simp⟩ fun C hC => ?_
    (repeat' ((first | refine aw_seq ?_ | refine aw_block ?_ | refine aw_reg hC (by kernel_rfl) ?_ | refine aw_regd hC Try.checked.mixed (by kernel_rfl) ?_ | refine chk_and (by kernel_rfl) ?_ | refine aw_skip ?_ | refine aw_if ?_ | refine And.intro (by first | omega | with_reducible assumption) ?_ | refine aw_exit ?_ | refine aw_ret ?_ | (simp (decide := true) (disch := omega) only [go_sem, ↓reduceIte, ↓put_at]) | refine call_u Try.call65 (c1) [] (by simp (decide := true) (disch := omega) only [go_sem, ↓reduceIte, ↓put_at]; first | done | assumption | omega) ?_ | refine pcall_u Try.call66 (c2) (by simp (decide := true) (disch := omega) only [go_sem, ↓reduceIte, ↓put_at]; first | done | assumption | omega) ?_ | (refine ret_s [] ?_; simp (decide := true) (disch := omega) only [go_sem, ↓reduceIte, ↓put_at]))))
  | false =>
    rw [hq] at c2
    rw [if_neg (by simp)]
    refine spec_of Try.func21 rfl Try.ntmps21 Try.results21 ⟨by decide, by simp⟩ fun C hC => ?_
    (repeat' ((first | refine aw_seq ?_ | refine aw_block ?_ | refine aw_reg hC (by kernel_rfl) ?_ | refine aw_regd hC Try.checked.mixed (by kernel_rfl) ?_ | refine chk_and (by kernel_rfl) ?_ | refine aw_skip ?_ | refine aw_if ?_ | refine And.intro (by first | omega | with_reducible assumption) ?_ | refine aw_exit ?_ | refine aw_ret ?_ | (simp (decide := true) (disch := omega) only [go_sem, ↓reduceIte, ↓put_at]) | refine call_u Try.call65 (c1) [] (by simp (decide := true) (disch := omega) only [go_sem, ↓reduceIte, ↓put_at]; first | done | assumption | omega) ?_ | refine pcall_u Try.call66 (c2) (by simp (decide := true) (disch := omega) only [go_sem, ↓reduceIte, ↓put_at]; first | done | assumption | omega) ?_ | (refine ret_s [] ?_; simp (decide := true) (disch := omega) only [go_sem, ↓reduceIte, ↓put_at]))))
set_option maxRecDepth 100000 in
theorem s_at (l : List Ld) (hl : l.length ≤ 1000000) (p : Int) : Spec Try.prog 74 [.ca (.val (.ep (shV l))), .ca (.val (vi p))] [] (.ca (.val (vi (idxF (fun x => decide (x.p = p)) l)))) [] := by
  have c := sl_index l (.ep [vi p]) 123 Try.call123 (fun x => decide (x.p = p)) hl (fun x _ => sh_a1 x p)
  generalize idxF (fun x => decide (x.p = p)) l = r at *
  refine spec_of Try.func74 rfl Try.ntmps74 Try.results74 ⟨by decide, by simp⟩ fun C hC => ?_
  (repeat' ((first | refine aw_seq ?_ | refine aw_block ?_ | refine aw_reg hC (by kernel_rfl) ?_ | refine aw_regd hC Try.checked.mixed (by kernel_rfl) ?_ | refine chk_and (by kernel_rfl) ?_ | refine aw_skip ?_ | refine aw_if ?_ | refine And.intro (by first | omega | with_reducible assumption) ?_ | refine aw_exit ?_ | refine aw_ret ?_ | (simp (decide := true) (disch := omega) only [go_sem, ↓reduceIte, ↓put_at]) | refine pcall_u Try.call120 (c) (by simp (decide := true) (disch := omega) only [go_sem, ↓reduceIte, ↓put_at]; first | done | assumption | omega) ?_ | (refine ret_s [] ?_; simp (decide := true) (disch := omega) only [go_sem, ↓reduceIte, ↓put_at]))))
end Go.Proofs.Ytdgkehoodlncmaa
