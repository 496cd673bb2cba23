/- Package media: Parse. -/
import Derived.Test.YthnbeodpckmjnaaGreatDoorMedia1z
import Derived.Test.YthnbeodpckmjnaaGreatDoorRtp4z
namespace Go.Proofs.YthnbeodpckmjnaaGreatDoor
open Go.RowKit
set_option linter.unusedVariables false
set_option linter.unusedSimpArgs false

set_option maxRecDepth 100000 in
set_option maxHeartbeats 8000000 in
theorem media_elements (p : P4) (hl : p.ext.length ≤ 1000000) : Spec Tryz.prog 28 [.ca (.val (.agg (p4L p)))] [] (.ca (.val (.tup [.lst 2 ((if p.hasExt = true then (parse5 p.profile p.ext).2.1 else []).map e5El), vi (if p.hasExt = true then (parse5 p.profile p.ext).2.2 else 5)]))) [] := by
  have c := exts_of p hl
  obtain ⟨mk, kd, sq, tm, sr, os, hx, pf, ex, da, pd⟩ := p
  dsimp only at *
  cases hx with
  | true =>
    simp only [if_true] at c ⊢
    refine spec_of Tryz.func28 rfl Tryz.ntmps28 Tryz.results28 ⟨by decide, by simp⟩ fun C hC => ?_
    (repeat (first | refine sp_ ?_ | exact ex0))
    refine call_s Tryz.call55 c [] ?_
    (repeat (first | refine sp_ ?_ | exact ex0))
    (refine ret_s [] ?_; simp (decide := true) (disch := omega) only [go_sem, ↓reduceIte, ↓put_at])
  | false =>
    simp only [Bool.false_eq_true, if_false, List.map_nil]
    refine spec_of Tryz.func28 rfl Tryz.ntmps28 Tryz.results28 ⟨by decide, by simp⟩ fun C hC => ?_
    (repeat (first | refine sp_ ?_ | exact ex0))
    (refine ret_s [] ?_; simp (decide := true) (disch := omega) only [go_sem, ↓reduceIte, ↓put_at])
theorem find5_len (l : List E5) (id : Int) (hd : ∀ x ∈ l, x.data.length ≤ maxLen) : ((find5 l id).getD []).length ≤ maxLen := by
  unfold find5
  cases h : l.find? (fun x => decide (x.id = id)) with
  | none => simp [maxLen]
  | some x => exact hd x (List.mem_of_find?_eq_some h)
theorem rawL_len (l : List UInt8) (e n : Int) : (rawL l e n).length ≤ l.length := by
  unfold rawL failL
  split
  · rw [List.length_drop]; omega
  · split
    · simp
    · exact Nat.le_refl _
set_option maxRecDepth 100000 in
set_option maxHeartbeats 4000000 in
theorem media_read (p : P4) (l : List E5) (hl : l.length ≤ maxLen) (hd : ∀ x ∈ l, x.data.length ≤ maxLen) : Spec Tryz.prog 29 [.ca (.val (.agg (p4L p))), .ca (.val (.lst 2 (l.map e5El)))] [] (.ca (.val (.agg (m6L (rd6 p l))))) [] := by
  have c1 := exts_find l 1 hl
  have c2 := exts_find l 2 hl
  have la := find5_len l 1 hd
  have lb := find5_len l 2 hd
  have e0 : rd6 p l = ⟨p.src, p.seq, p.time, getN (rawT ((find5 l 1).getD []) 1), getN (rawT (rawL ((find5 l 1).getD []) 0 1) 2), getN (rawT ((find5 l 2).getD []) 1), getN (rawT (rawL ((find5 l 2).getD []) 0 1) 1), p.data⟩ := rfl
  rw [e0]
  generalize (find5 l 1).getD [] = a at *
  generalize (find5 l 2).getD [] = b at *
  generalize (find5 l 1).isSome = A at *
  generalize (find5 l 2).isSome = B at *
  clear e0
  have k1 := pen_of a
  have k2 := pen_of b
  have k3 := in_u8 a 0 la
  have k4 := in_u16 (rawL a 0 1) (rawE a 0 1) (Nat.le_trans (rawL_len _ _ _) la)
  have k5 := in_u8 b 0 lb
  have k6 := in_u8 (rawL b 0 1) (rawE b 0 1) (Nat.le_trans (rawL_len _ _ _) lb)
  have h16 : (getN (rawT (rawL a 0 1) 2) : Int) < 65536 := raw_lt (rawL a 0 1) 2 65536 (by decide)
  obtain ⟨mk, kd, sq, tm, sr, os, hx, pf, ex, da, pd⟩ := p
  refine spec_of Tryz.func29 rfl Tryz.ntmps29 Tryz.results29 ⟨by decide, by simp⟩ fun C hC => ?_
  (repeat (first | refine sp_ ?_ | exact ex0))
  refine call_s Tryz.call56 c1 [] ?_
  (repeat (first | refine sp_ ?_ | exact ex0))
  refine call_s Tryz.call56 c2 [] ?_
  (repeat (first | refine sp_ ?_ | exact ex0))
  refine call_s Tryz.call43 k1 [] ?_
  (repeat (first | refine sp_ ?_ | exact ex0))
  refine call_s Tryz.call43 k2 [] ?_
  (repeat (first | refine sp_ ?_ | exact ex0))
  refine call_s Tryz.call50 k3 [(35, 0)] ?_
  (repeat (first | refine sp_ ?_ | exact ex0))
  refine call_s Tryz.call51 k4 [(35, 0)] ?_
  (repeat (first | refine sp_ ?_ | exact ex0))
  refine call_s Tryz.call50 k5 [(37, 0)] ?_
  (repeat (first | refine sp_ ?_ | exact ex0))
  refine call_s Tryz.call50 k6 [(37, 0)] ?_
  (repeat (first | refine sp_ ?_ | exact ex0))
  (refine ret_s [] ?_; simp (decide := true) (disch := omega) only [go_sem, ↓reduceIte, ↓put_at])
theorem rd6_ok (p : P4) (l : List E5) (hp : p.Ok) : (rd6 p l).Ok := by
  refine ⟨hp.src, hp.seq, hp.time, ?_⟩
  show 0 ≤ (getN (rawT (rawL (rd6.find5' l 1) 0 1) 2) : Int) ∧ (getN (rawT (rawL (rd6.find5' l 1) 0 1) 2) : Int) < 65536
  exact ⟨by omega, raw_lt _ 2 65536 (by decide)⟩
theorem body4_data (p : P4) : p.data.length ≤ (body4 p).length := by
  unfold body4
  simp only [List.length_append]
  omega
set_option maxRecDepth 100000 in
set_option maxHeartbeats 4000000 in
theorem media_parse (s : List UInt8) (hl : s.length ≤ 1099511627776) : Spec Tryz.prog 11 [.ca (.val (vs s))] [] (.ca (.val (.tup [.agg (m6L (parse6 s).1), vi (parse6 s).2]))) [] := by
  obtain ⟨R, hR⟩ : ∃ R, R = parse6 s := ⟨_, rfl⟩
  rw [← hR]
  unfold parse6 at hR
  by_cases h1 : 1500 < s.length
  · rw [if_pos h1] at hR
    subst hR
    unfold no6
    refine spec_of Tryz.func11 rfl Tryz.ntmps11 Tryz.results11 ⟨by decide, by simp⟩ fun C hC => ?_
    (repeat (first | refine sp_ ?_ | exact ex0))
    (refine ret_s [] ?_; simp (decide := true) (disch := omega) only [go_sem, ↓reduceIte, ↓put_at])
  rw [if_neg h1] at hR
  have c1 := crc_right s (by unfold maxLen; omega)
  by_cases h2 : rem s ≠ 0
  · rw [if_pos h2] at hR
    rw [decide_eq_false h2] at c1
    subst hR
    unfold no6
    refine spec_of Tryz.func11 rfl Tryz.ntmps11 Tryz.results11 ⟨by decide, by simp⟩ fun C hC => ?_
    (repeat (first | refine sp_ ?_ | exact ex0))
    refine call_s Tryz.call20 c1 [] ?_
    (repeat (first | refine sp_ ?_ | exact ex0))
    (refine ret_s [] ?_; simp (decide := true) (disch := omega) only [go_sem, ↓reduceIte, ↓put_at])
  rw [if_neg h2] at hR
  rw [decide_eq_true (Classical.not_not.1 h2)] at c1
  have c2 := rtp_parse s (by unfold maxLen; omega)
  have hpp : (parse4 s).2 = 0 → body4 (parse4 s).1 = s ∧ may4 (parse4 s).1 = true ∧ (parse4 s).1.Ok := fun h => pack_parse s (parse4 s).1 (by rw [← h]) (by omega)
  generalize parse4 s = Q at *
  obtain ⟨p, e⟩ := Q
  dsimp only at *
  by_cases h3 : e ≠ 0
  · rw [if_pos h3] at hR
    subst hR
    unfold no6
    obtain ⟨mk, kd, sq, tm, sr, os, hx, pf, ex, da, pd⟩ := p
    refine spec_of Tryz.func11 rfl Tryz.ntmps11 Tryz.results11 ⟨by decide, by simp⟩ fun C hC => ?_
    (repeat (first | refine sp_ ?_ | exact ex0))
    refine call_s Tryz.call20 c1 [] ?_
    (repeat (first | refine sp_ ?_ | exact ex0))
    refine call_s Tryz.call27 c2 [] ?_
    (repeat (first | refine sp_ ?_ | exact ex0))
    (refine ret_s [] ?_; simp (decide := true) (disch := omega) only [go_sem, ↓reduceIte, ↓put_at])
  rw [if_neg h3] at hR
  have h3 : e = 0 := Classical.not_not.1 h3
  subst h3
  obtain ⟨hbody, hmay, hok⟩ := hpp rfl
  have hext : p.ext.length ≤ 262140 := by
    have := ((may4_iff p).1 hmay).2.2.2.2
    cases hx : p.hasExt with
    | true => rw [hx, if_pos rfl] at this; exact this.2
    | false => rw [hx, if_neg (by decide)] at this; rw [this.2]; simp
  have hdat : p.data.length ≤ maxLen := by
    have := body4_data p
    rw [hbody] at this
    unfold maxLen; omega
  have c3 := media_elements p (by omega)
  by_cases h4 : p.hasExt = false
  · rw [if_pos h4] at hR
    rw [h4, if_neg (by decide), if_neg (by decide)] at c3
    subst hR
    unfold no6
    obtain ⟨mk, kd, sq, tm, sr, os, hx, pf, ex, da, pd⟩ := p
    refine spec_of Tryz.func11 rfl Tryz.ntmps11 Tryz.results11 ⟨by decide, by simp⟩ fun C hC => ?_
    (repeat (first | refine sp_ ?_ | exact ex0))
    refine call_s Tryz.call20 c1 [] ?_
    (repeat (first | refine sp_ ?_ | exact ex0))
    refine call_s Tryz.call27 c2 [] ?_
    (repeat (first | refine sp_ ?_ | exact ex0))
    refine call_s Tryz.call28 c3 [] ?_
    (repeat (first | refine sp_ ?_ | exact ex0))
    (refine ret_s [] ?_; simp (decide := true) (disch := omega) only [go_sem, ↓reduceIte, ↓put_at])
  rw [if_neg h4] at hR
  have h4 : p.hasExt = true := by cases hx : p.hasExt with
    | true => rfl
    | false => exact absurd hx h4
  rw [if_pos h4, if_pos h4] at c3
  have hraw := parse5_raw p.profile p.ext
  have hcnt := raw5_count (formOk (parse5 p.profile p.ext).1) (parse5 p.profile p.ext).2.1
  have hdt := raw5_data (formOk (parse5 p.profile p.ext).1) (parse5 p.profile p.ext).2.1
  generalize parse5 p.profile p.ext = X at *
  obtain ⟨f, l, g⟩ := X
  dsimp only at *
  by_cases h5 : g ≠ 0
  · rw [if_pos h5] at hR
    subst hR
    unfold no6
    obtain ⟨mk, kd, sq, tm, sr, os, hx, pf, ex, da, pd⟩ := p
    refine spec_of Tryz.func11 rfl Tryz.ntmps11 Tryz.results11 ⟨by decide, by simp⟩ fun C hC => ?_
    (repeat (first | refine sp_ ?_ | exact ex0))
    refine call_s Tryz.call20 c1 [] ?_
    (repeat (first | refine sp_ ?_ | exact ex0))
    refine call_s Tryz.call27 c2 [] ?_
    (repeat (first | refine sp_ ?_ | exact ex0))
    refine call_s Tryz.call28 c3 [] ?_
    (repeat (first | refine sp_ ?_ | exact ex0))
    (refine ret_s [] ?_; simp (decide := true) (disch := omega) only [go_sem, ↓reduceIte, ↓put_at])
  rw [if_neg h5] at hR
  have h5 : g = 0 := Classical.not_not.1 h5
  subst h5
  have hraw := hraw rfl
  have c4 := media_read p l (by unfold maxLen; omega) (fun x hx => by
    have := hdt x hx
    unfold maxLen; omega)
  have c5 := media_pack (rd6 p l) (rd6_ok p l hok) hdat
  generalize rd6 p l = m at *
  generalize pack6 m = t at *
  obtain ⟨sr2, sq2, tm2, pa, ps, ix, ct, da2⟩ := m
  obtain ⟨mk, kd, sq, tm, sr, os, hx, pf, ex, da, pd⟩ := p
  by_cases h6 : t = s
  · rw [if_pos h6] at hR
    have hb : (t == s) = true := by rw [h6]; exact beq_self_eq_true s
    subst hR
    refine spec_of Tryz.func11 rfl Tryz.ntmps11 Tryz.results11 ⟨by decide, by simp⟩ fun C hC => ?_
    (repeat (first | refine sp_ ?_ | exact ex0))
    refine call_s Tryz.call20 c1 [] ?_
    (repeat (first | refine sp_ ?_ | exact ex0))
    refine call_s Tryz.call27 c2 [] ?_
    (repeat (first | refine sp_ ?_ | exact ex0))
    refine call_s Tryz.call28 c3 [] ?_
    (repeat (first | refine sp_ ?_ | exact ex0))
    refine call_s Tryz.call29 c4 [] ?_
    (repeat (first | refine sp_ ?_ | exact ex0))
    refine call_s Tryz.call6 c5 [] ?_
    (repeat (first | refine sp_ ?_ | exact ex0))
    simp only [hb]
    (repeat (first | refine sp_ ?_ | exact ex0))
    (refine ret_s [] ?_; simp (decide := true) (disch := omega) only [go_sem, ↓reduceIte, ↓put_at])
  · rw [if_neg h6] at hR
    have hb : (t == s) = false := by simpa using h6
    subst hR
    unfold no6
    refine spec_of Tryz.func11 rfl Tryz.ntmps11 Tryz.results11 ⟨by decide, by simp⟩ fun C hC => ?_
    (repeat (first | refine sp_ ?_ | exact ex0))
    refine call_s Tryz.call20 c1 [] ?_
    (repeat (first | refine sp_ ?_ | exact ex0))
    refine call_s Tryz.call27 c2 [] ?_
    (repeat (first | refine sp_ ?_ | exact ex0))
    refine call_s Tryz.call28 c3 [] ?_
    (repeat (first | refine sp_ ?_ | exact ex0))
    refine call_s Tryz.call29 c4 [] ?_
    (repeat (first | refine sp_ ?_ | exact ex0))
    refine call_s Tryz.call6 c5 [] ?_
    (repeat (first | refine sp_ ?_ | exact ex0))
    simp only [hb]
    (repeat (first | refine sp_ ?_ | exact ex0))
    (refine ret_s [] ?_; simp (decide := true) (disch := omega) only [go_sem, ↓reduceIte, ↓put_at])
end Go.Proofs.YthnbeodpckmjnaaGreatDoor

