
/- MediaBursts, walked. -/
import Derived.Test.YtojcjbaimdjhoaaDoorMedia3
import Derived.Test.YtojcjbaimdjhoaaDoorCrc2
namespace Go.Proofs.YtojcjbaimdjhoaaDoor
open Go.RowKit
set_option linter.unusedVariables false
set_option linter.unusedSimpArgs false

set_option maxRecDepth 100000 in
set_option maxHeartbeats 4000000 in
theorem q_bursts6 (x : M6) (a : Int) (k : Nat) (ox : x.Ok) (lx : x.data.length ≤ maxLen) (hk : k < 4294967296) : Spec Tryd.prog 8 [.ca (.val (.agg (m6L x))), .ca (.val (vi a)), .ca (.val (vu k))] [] (.ca (.val (vb true))) [] := by
  have c1 := law_cut6 x lx
  obtain ⟨oc, lc⟩ := cut6_ok x ox
  obtain ⟨sr, sq, tm, pa, ps, ix, ct, da⟩ := x
  generalize cut6 ⟨sr, sq, tm, pa, ps, ix, ct, da⟩ = y at *
  obtain ⟨sr2, sq2, tm2, pa2, ps2, ix2, ct2, da2⟩ := y
  dsimp only at *
  obtain ⟨P, hP⟩ : ∃ P, P = 1 + pa2 % 8 := ⟨_, rfl⟩
  obtain ⟨N, hN⟩ : ∃ N, N = 1 + ct2 % 128 := ⟨_, rfl⟩
  obtain ⟨I, hI⟩ : ∃ I, I = ix2 % 65536 % N := ⟨_, rfl⟩
  have hN1 : 1 ≤ N ∧ N ≤ 128 := by omega
  have hI1 : 0 ≤ I ∧ I < N := by
    rw [hI]
    exact ⟨Int.emod_nonneg _ (by omega), Int.emod_lt_of_pos _ (by omega)⟩
  have om : M6.Ok ⟨sr2, sq2, tm2, P, ps2, I, N, da2⟩ := ⟨oc.src, oc.seq, oc.time, oc.pseq⟩
  have hm : may6 ⟨sr2, sq2, tm2, P, ps2, I, N, da2⟩ = true := by
    rw [may6_iff]
    dsimp only
    omega
  have c2 := media_pack ⟨sr2, sq2, tm2, P, ps2, I, N, da2⟩ om (by unfold maxLen; dsimp only; omega)
  have hl := pack6_len ⟨sr2, sq2, tm2, P, ps2, I, N, da2⟩ hm
  have hp := parse_pack6 ⟨sr2, sq2, tm2, P, ps2, I, N, da2⟩ om hm
  have hr : rem (pack6 ⟨sr2, sq2, tm2, P, ps2, I, N, da2⟩) = 0 := by unfold pack6; rw [if_pos hm]; exact sealB_rem _ _
  dsimp only at hl
  generalize pack6 ⟨sr2, sq2, tm2, P, ps2, I, N, da2⟩ = s at *
  have c3 := crc_turn s a k (by omega) hk
  have hT := turn_told s a k hk hr
  have hTl := turnS_len s a k
  generalize turnS s a k = t at *
  have c4 := media_parse t (by omega)
  have c5 := ref_burst s t (by omega) (by omega)
  have hb := burst_nil s t (by omega)
  have hpar : t ≠ s → parse6 t = (no6, 4) := fun h => by
    unfold parse6
    rw [if_neg (by omega), if_pos (fun e => h (hT e))]
  by_cases hts : t = s
  · have hb := hb.2 hts
    rw [hb] at c5
    subst hts
    rw [hp] at c4
    refine spec_of Tryd.func8 rfl Tryd.ntmps8 Tryd.results8 ⟨by decide, by simp⟩ fun C hC => ?_
    (repeat (first | refine aw_seq ?_ | refine aw_block ?_ | refine aw_reg hC (by kernel_rfl) ?_ | refine aw_regd hC Tryd.checked.mixed (by kernel_rfl) ?_ | refine chk_and (by kernel_rfl) ?_ | refine aw_skip ?_ | refine aw_if ?_ | refine And.intro (by first | omega | with_reducible assumption) ?_ | refine aw_exit ?_ | refine aw_ret ?_ | (simp (decide := true) (disch := omega) only [go_sem, ↓reduceIte, ↓put_at])))
    (first | refine call_s Tryd.call23 (law_awake6) [] ?_ | refine gcall_s Tryd.call23 (law_awake6) [] ?_)
    (repeat (first | refine aw_seq ?_ | refine aw_block ?_ | refine aw_reg hC (by kernel_rfl) ?_ | refine aw_regd hC Tryd.checked.mixed (by kernel_rfl) ?_ | refine chk_and (by kernel_rfl) ?_ | refine aw_skip ?_ | refine aw_if ?_ | refine And.intro (by first | omega | with_reducible assumption) ?_ | refine aw_exit ?_ | refine aw_ret ?_ | (simp (decide := true) (disch := omega) only [go_sem, ↓reduceIte, ↓put_at])))
    (first | refine call_s Tryd.call24 (c1) [] ?_ | refine gcall_s Tryd.call24 (c1) [] ?_)
    (repeat (first | refine aw_seq ?_ | refine aw_block ?_ | refine aw_reg hC (by kernel_rfl) ?_ | refine aw_regd hC Tryd.checked.mixed (by kernel_rfl) ?_ | refine chk_and (by kernel_rfl) ?_ | refine aw_skip ?_ | refine aw_if ?_ | refine And.intro (by first | omega | with_reducible assumption) ?_ | refine aw_exit ?_ | refine aw_ret ?_ | (simp (decide := true) (disch := omega) only [go_sem, ↓reduceIte, ↓put_at])))
    simp only [← hP, ← hN]
    simp only [← hI]
    (first | refine call_s Tryd.call25 (c2) [] ?_ | refine gcall_s Tryd.call25 (c2) [] ?_)
    (repeat (first | refine aw_seq ?_ | refine aw_block ?_ | refine aw_reg hC (by kernel_rfl) ?_ | refine aw_regd hC Tryd.checked.mixed (by kernel_rfl) ?_ | refine chk_and (by kernel_rfl) ?_ | refine aw_skip ?_ | refine aw_if ?_ | refine And.intro (by first | omega | with_reducible assumption) ?_ | refine aw_exit ?_ | refine aw_ret ?_ | (simp (decide := true) (disch := omega) only [go_sem, ↓reduceIte, ↓put_at])))
    (first | refine call_s Tryd.call31 (c3) [] ?_ | refine gcall_s Tryd.call31 (c3) [] ?_)
    (repeat (first | refine aw_seq ?_ | refine aw_block ?_ | refine aw_reg hC (by kernel_rfl) ?_ | refine aw_regd hC Tryd.checked.mixed (by kernel_rfl) ?_ | refine chk_and (by kernel_rfl) ?_ | refine aw_skip ?_ | refine aw_if ?_ | refine And.intro (by first | omega | with_reducible assumption) ?_ | refine aw_exit ?_ | refine aw_ret ?_ | (simp (decide := true) (disch := omega) only [go_sem, ↓reduceIte, ↓put_at])))
    (first | refine call_s Tryd.call29 (c4) [] ?_ | refine gcall_s Tryd.call29 (c4) [] ?_)
    (repeat (first | refine aw_seq ?_ | refine aw_block ?_ | refine aw_reg hC (by kernel_rfl) ?_ | refine aw_regd hC Tryd.checked.mixed (by kernel_rfl) ?_ | refine chk_and (by kernel_rfl) ?_ | refine aw_skip ?_ | refine aw_if ?_ | refine And.intro (by first | omega | with_reducible assumption) ?_ | refine aw_exit ?_ | refine aw_ret ?_ | (simp (decide := true) (disch := omega) only [go_sem, ↓reduceIte, ↓put_at])))
    (first | refine call_s Tryd.call32 (c5) [] ?_ | refine gcall_s Tryd.call32 (c5) [] ?_)
    (repeat (first | refine aw_seq ?_ | refine aw_block ?_ | refine aw_reg hC (by kernel_rfl) ?_ | refine aw_regd hC Tryd.checked.mixed (by kernel_rfl) ?_ | refine chk_and (by kernel_rfl) ?_ | refine aw_skip ?_ | refine aw_if ?_ | refine And.intro (by first | omega | with_reducible assumption) ?_ | refine aw_exit ?_ | refine aw_ret ?_ | (simp (decide := true) (disch := omega) only [go_sem, ↓reduceIte, ↓put_at])))
    refine gcmpA_s _ _ _ (.inl rfl) (by simp (decide := true) (disch := omega) only [go_sem, ↓reduceIte, ↓put_at]) (by simp (decide := true) (disch := omega) only [go_sem, ↓reduceIte, ↓put_at]) (by simp (decide := true) (disch := omega) only [go_sem, ↓reduceIte, ↓put_at]) (by kernel_rfl) (eq6_ sr2 sr2 sq2 sq2 tm2 tm2 P P ps2 ps2 I I N N da2 da2) ?_
    simp only [and_self, decide_true]
    (repeat (first | refine aw_seq ?_ | refine aw_block ?_ | refine aw_reg hC (by kernel_rfl) ?_ | refine aw_regd hC Tryd.checked.mixed (by kernel_rfl) ?_ | refine chk_and (by kernel_rfl) ?_ | refine aw_skip ?_ | refine aw_if ?_ | refine And.intro (by first | omega | with_reducible assumption) ?_ | refine aw_exit ?_ | refine aw_ret ?_ | (simp (decide := true) (disch := omega) only [go_sem, ↓reduceIte, ↓put_at])))
    (refine ret_s [] ?_; simp (decide := true) (disch := omega) only [go_sem, ↓reduceIte, ↓put_at])
  · have hb : ¬ burstZ s t = 0 := fun e => hts (hb.1 e)
    rw [hpar hts] at c4
    generalize burstZ s t = B at *
    unfold no6 at c4
    refine spec_of Tryd.func8 rfl Tryd.ntmps8 Tryd.results8 ⟨by decide, by simp⟩ fun C hC => ?_
    (repeat (first | refine aw_seq ?_ | refine aw_block ?_ | refine aw_reg hC (by kernel_rfl) ?_ | refine aw_regd hC Tryd.checked.mixed (by kernel_rfl) ?_ | refine chk_and (by kernel_rfl) ?_ | refine aw_skip ?_ | refine aw_if ?_ | refine And.intro (by first | omega | with_reducible assumption) ?_ | refine aw_exit ?_ | refine aw_ret ?_ | (simp (decide := true) (disch := omega) only [go_sem, ↓reduceIte, ↓put_at])))
    (first | refine call_s Tryd.call23 (law_awake6) [] ?_ | refine gcall_s Tryd.call23 (law_awake6) [] ?_)
    (repeat (first | refine aw_seq ?_ | refine aw_block ?_ | refine aw_reg hC (by kernel_rfl) ?_ | refine aw_regd hC Tryd.checked.mixed (by kernel_rfl) ?_ | refine chk_and (by kernel_rfl) ?_ | refine aw_skip ?_ | refine aw_if ?_ | refine And.intro (by first | omega | with_reducible assumption) ?_ | refine aw_exit ?_ | refine aw_ret ?_ | (simp (decide := true) (disch := omega) only [go_sem, ↓reduceIte, ↓put_at])))
    (first | refine call_s Tryd.call24 (c1) [] ?_ | refine gcall_s Tryd.call24 (c1) [] ?_)
    (repeat (first | refine aw_seq ?_ | refine aw_block ?_ | refine aw_reg hC (by kernel_rfl) ?_ | refine aw_regd hC Tryd.checked.mixed (by kernel_rfl) ?_ | refine chk_and (by kernel_rfl) ?_ | refine aw_skip ?_ | refine aw_if ?_ | refine And.intro (by first | omega | with_reducible assumption) ?_ | refine aw_exit ?_ | refine aw_ret ?_ | (simp (decide := true) (disch := omega) only [go_sem, ↓reduceIte, ↓put_at])))
    simp only [← hP, ← hN]
    simp only [← hI]
    (first | refine call_s Tryd.call25 (c2) [] ?_ | refine gcall_s Tryd.call25 (c2) [] ?_)
    (repeat (first | refine aw_seq ?_ | refine aw_block ?_ | refine aw_reg hC (by kernel_rfl) ?_ | refine aw_regd hC Tryd.checked.mixed (by kernel_rfl) ?_ | refine chk_and (by kernel_rfl) ?_ | refine aw_skip ?_ | refine aw_if ?_ | refine And.intro (by first | omega | with_reducible assumption) ?_ | refine aw_exit ?_ | refine aw_ret ?_ | (simp (decide := true) (disch := omega) only [go_sem, ↓reduceIte, ↓put_at])))
    (first | refine call_s Tryd.call31 (c3) [] ?_ | refine gcall_s Tryd.call31 (c3) [] ?_)
    (repeat (first | refine aw_seq ?_ | refine aw_block ?_ | refine aw_reg hC (by kernel_rfl) ?_ | refine aw_regd hC Tryd.checked.mixed (by kernel_rfl) ?_ | refine chk_and (by kernel_rfl) ?_ | refine aw_skip ?_ | refine aw_if ?_ | refine And.intro (by first | omega | with_reducible assumption) ?_ | refine aw_exit ?_ | refine aw_ret ?_ | (simp (decide := true) (disch := omega) only [go_sem, ↓reduceIte, ↓put_at])))
    (first | refine call_s Tryd.call29 (c4) [] ?_ | refine gcall_s Tryd.call29 (c4) [] ?_)
    (repeat (first | refine aw_seq ?_ | refine aw_block ?_ | refine aw_reg hC (by kernel_rfl) ?_ | refine aw_regd hC Tryd.checked.mixed (by kernel_rfl) ?_ | refine chk_and (by kernel_rfl) ?_ | refine aw_skip ?_ | refine aw_if ?_ | refine And.intro (by first | omega | with_reducible assumption) ?_ | refine aw_exit ?_ | refine aw_ret ?_ | (simp (decide := true) (disch := omega) only [go_sem, ↓reduceIte, ↓put_at])))
    (first | refine call_s Tryd.call32 (c5) [] ?_ | refine gcall_s Tryd.call32 (c5) [] ?_)
    (repeat (first | refine aw_seq ?_ | refine aw_block ?_ | refine aw_reg hC (by kernel_rfl) ?_ | refine aw_regd hC Tryd.checked.mixed (by kernel_rfl) ?_ | refine chk_and (by kernel_rfl) ?_ | refine aw_skip ?_ | refine aw_if ?_ | refine And.intro (by first | omega | with_reducible assumption) ?_ | refine aw_exit ?_ | refine aw_ret ?_ | (simp (decide := true) (disch := omega) only [go_sem, ↓reduceIte, ↓put_at])))
    refine gcmpA_s _ _ _ (.inl rfl) (by simp (decide := true) (disch := omega) only [go_sem, ↓reduceIte, ↓put_at]) (by simp (decide := true) (disch := omega) only [go_sem, ↓reduceIte, ↓put_at]) (by simp (decide := true) (disch := omega) only [go_sem, ↓reduceIte, ↓put_at]) (by kernel_rfl) (eq6_ 0 0 0 0 0 0 0 0 0 0 0 0 0 0 [] []) ?_
    simp only [and_self, decide_true]
    (repeat (first | refine aw_seq ?_ | refine aw_block ?_ | refine aw_reg hC (by kernel_rfl) ?_ | refine aw_regd hC Tryd.checked.mixed (by kernel_rfl) ?_ | refine chk_and (by kernel_rfl) ?_ | refine aw_skip ?_ | refine aw_if ?_ | refine And.intro (by first | omega | with_reducible assumption) ?_ | refine aw_exit ?_ | refine aw_ret ?_ | (simp (decide := true) (disch := omega) only [go_sem, ↓reduceIte, ↓put_at])))
    (refine ret_s [] ?_; simp (decide := true) (disch := omega) only [go_sem, ↓reduceIte, ↓put_at])
theorem q_bursts6' (x : M6) (a k : Int) (ox : x.Ok) (lx : x.data.length ≤ maxLen) (hk : 0 ≤ k ∧ k < 4294967296) : Spec Tryd.prog 8 [.ca (.val (.agg (m6L x))), .ca (.val (vi a)), .ca (.val (vu k))] [] (.ca (.val (vb true))) [] := by
  obtain ⟨n, rfl⟩ : ∃ n : Nat, k = n := ⟨k.toNat, by omega⟩
  exact q_bursts6 x a n ox lx (by omega)
end Go.Proofs.YtojcjbaimdjhoaaDoor
