/- Package split: a frame's parts, walked. -/
import Derived.Test.YtkclmofjlmeolaaGreatDoorBufSz
namespace Go.Proofs.YtkclmofjlmeolaaGreatDoor
open Go.RowKit
set_option linter.unusedVariables false
set_option linter.unusedSimpArgs false

set_option maxRecDepth 100000 in
set_option maxHeartbeats 8000000 in
theorem spl_new (t : Nat) (c now : Int) : Spec Tryz.prog 60 [.ca (.val (vu t)), .ca (.val (vi c)), .ca (.val (vi now))] [] (.ptr 0 0) [frO (newF t c now)] := by
  have hn : ((max 1 (min c 255)).toNat : Int) = max 1 (min c 255) := by omega
  unfold frO newF
  dsimp only
  rw [hn, show kvF [] = [] from rfl, show ((sumP [] : Nat) : Int) = 0 from rfl]
  refine spec_of Tryz.func60 rfl Tryz.ntmps60 Tryz.results60 ⟨by decide, by simp⟩ fun C hC => ?_
  (repeat' ((first | refine sp_ ?_ | exact ex0 | (refine ret_s [] ?_; simp (decide := true) (disch := omega) only [go_sem, ↓reduceIte, ↓put_at]))))
  refine bldA_s (by simp (decide := true) (disch := omega) only [go_sem, ↓reduceIte, ↓put_at]; exact ⟨rfl, rfl, rfl⟩) (by simp (decide := true) (disch := omega) only [go_sem, ↓reduceIte, ↓put_at]) ?_
  refine boxA_s (by simp (decide := true) (disch := omega) only [go_sem, ↓reduceIte, ↓put_at]; exact ⟨rfl, rfl, rfl⟩) (by simp (decide := true) (disch := omega) only [go_sem, ↓reduceIte, ↓put_at]) ?_
  (repeat' ((fail_if_success (refine stop_ret ?_)); (first | refine sp_ ?_ | exact ex0 | (refine ret_s [] ?_; simp (decide := true) (disch := omega) only [go_sem, ↓reduceIte, ↓put_at]))))
  refine clm_s (12, 1) [] [] (List.Perm.refl _) ⟨by simp (decide := true) (disch := omega) only [go_sem, ↓reduceIte, ↓put_at], ?_⟩
  (repeat' ((first | refine sp_ ?_ | exact ex0 | (refine ret_s [(14, 0)] ?_; simp (decide := true) (disch := omega) only [go_sem, ↓reduceIte, ↓put_at]))))
set_option maxRecDepth 100000 in
set_option maxHeartbeats 8000000 in
theorem spl_time (f : Fr) : Spec Tryz.prog 30 [.ptr 0 0] [frO f] (.ca (.val (vu f.tm))) [frO f] := by
  refine spec_of Tryz.func30 rfl Tryz.ntmps30 Tryz.results30 ⟨by decide, by simp⟩ fun C hC => ?_
  (repeat' ((first | refine sp_ ?_ | exact ex0 | (refine ret_s [] ?_; simp (decide := true) (disch := omega) only [go_sem, ↓reduceIte, ↓put_at]))))
set_option maxRecDepth 100000 in
set_option maxHeartbeats 8000000 in
theorem spl_first (f : Fr) : Spec Tryz.prog 32 [.ptr 0 0] [frO f] (.ca (.val (vi f.t0))) [frO f] := by
  refine spec_of Tryz.func32 rfl Tryz.ntmps32 Tryz.results32 ⟨by decide, by simp⟩ fun C hC => ?_
  (repeat' ((first | refine sp_ ?_ | exact ex0 | (refine ret_s [] ?_; simp (decide := true) (disch := omega) only [go_sem, ↓reduceIte, ↓put_at]))))
set_option maxRecDepth 100000 in
set_option maxHeartbeats 8000000 in
theorem spl_bytes (f : Fr) : Spec Tryz.prog 63 [.ptr 0 0] [frO f] (.ca (.val (vi (sumP f.ps)))) [frO f] := by
  refine spec_of Tryz.func63 rfl Tryz.ntmps63 Tryz.results63 ⟨by decide, by simp⟩ fun C hC => ?_
  (repeat' ((first | refine sp_ ?_ | exact ex0 | (refine ret_s [] ?_; simp (decide := true) (disch := omega) only [go_sem, ↓reduceIte, ↓put_at]))))
set_option maxRecDepth 100000 in
set_option maxHeartbeats 8000000 in
theorem spl_have (f : Fr) (h : f.Ok) : Spec Tryz.prog 62 [.ptr 0 0] [frO f] (.ca (.val (vi f.ps.length))) [frO f] := by
  have hl := h.len
  have hn := h.n1
  refine spec_of Tryz.func62 rfl Tryz.ntmps62 Tryz.results62 ⟨by decide, by simp⟩ fun C hC => ?_
  refine opm_s (1000, 4) (kvF f.ps) (by simp (decide := true) (disch := omega) only [go_sem, ↓reduceIte, ↓put_at]) fun kvs hp => ?_
  have hk := kvP_len hp
  (repeat' ((fail_if_success (refine stop_ret ?_)); (first | refine sp_ ?_ | exact ex0 | (refine ret_s [] ?_; simp (decide := true) (disch := omega) only [go_sem, ↓reduceIte, ↓put_at]))))
  refine clm_s (1000, 4) kvs (kvF f.ps) hp ⟨by simp (decide := true) (disch := omega) only [go_sem, ↓reduceIte, ↓put_at], ?_⟩
  (repeat' ((first | refine sp_ ?_ | exact ex0 | (refine ret_s [] ?_; simp (decide := true) (disch := omega) only [go_sem, ↓reduceIte, ↓put_at]))))
  rw [hk]
set_option maxRecDepth 100000 in
set_option maxHeartbeats 8000000 in
theorem spl_whole (f : Fr) (h : f.Ok) : Spec Tryz.prog 64 [.ptr 0 0] [frO f] (.ca (.val (vb (wholeF f)))) [frO f] := by
  have hl := h.len
  have hn := h.n1
  unfold wholeF
  refine spec_of Tryz.func64 rfl Tryz.ntmps64 Tryz.results64 ⟨by decide, by simp⟩ fun C hC => ?_
  refine opm_s (1000, 4) (kvF f.ps) (by simp (decide := true) (disch := omega) only [go_sem, ↓reduceIte, ↓put_at]) fun kvs hp => ?_
  have hk := kvP_len hp
  (repeat' ((fail_if_success (refine stop_ret ?_)); (first | refine sp_ ?_ | exact ex0 | (refine ret_s [] ?_; simp (decide := true) (disch := omega) only [go_sem, ↓reduceIte, ↓put_at]))))
  refine clm_s (1000, 4) kvs (kvF f.ps) hp ⟨by simp (decide := true) (disch := omega) only [go_sem, ↓reduceIte, ↓put_at], ?_⟩
  (repeat' ((first | refine sp_ ?_ | exact ex0 | (refine ret_s [] ?_; simp (decide := true) (disch := omega) only [go_sem, ↓reduceIte, ↓put_at]))))
  rw [hk]
  by_cases e : f.ps.length = f.n
  · simp [e]
  · rw [decide_eq_false e]
    simp
    omega
set_option maxRecDepth 100000 in
set_option maxHeartbeats 2000000 in
theorem spl_put (f : Fr) (h : f.Ok) (i c : Int) (s : List UInt8) (hs : s.length ≤ 1048576) : Spec Tryz.prog 27 [.ptr 0 0, .ca (.val (.agg [vi i, vi c])), .ca (.val (vs s))] [frO f] (.ca (.val (vi (putF f i c s).2))) [frO (putF f i c s).1] := by
  have hl := h.len
  have hn := h.n1
  have hsum := h.sum
  have ho' := putF_ok h i c hs
  by_cases h1 : c = f.n ∧ 0 ≤ i ∧ i < f.n
  · obtain ⟨rfl, h2, h3⟩ := h1
    have hu : putF f i f.n s = if (getP f.ps i.toNat).isSome = true then (f, 3) else ({ f with ps := f.ps ++ [(i.toNat, s)] }, if f.ps.length + 1 = f.n then 2 else 1) := by
      unfold putF
      rw [if_neg (by omega)]
    cases hg : getP f.ps i.toNat with
    | some x =>
      rw [hg] at hu
      rw [if_pos (show (some x).isSome = true from rfl)] at hu
      rw [hu]
      clear ho'
      refine spec_of Tryz.func27 rfl Tryz.ntmps27 Tryz.results27 ⟨by decide, by simp⟩ fun C hC => ?_
      refine opm_s (1000, 4) (kvF f.ps) (by simp (decide := true) (disch := omega) only [go_sem, ↓reduceIte, ↓put_at]) fun kvs hp => ?_
      have hk := kvP_keys hp
      have hget := kvP_get h.nd hp h2
      rw [hg] at hget
      simp only [Option.map_some] at hget
      (repeat' ((first | refine sp_ ?_ | exact ex0 | (refine ret_s [] ?_; simp (decide := true) (disch := omega) only [go_sem, ↓reduceIte, ↓put_at]))))
      simp only [hget]
      (repeat' ((fail_if_success (refine stop_ret ?_)); (first | refine sp_ ?_ | exact ex0 | (refine ret_s [] ?_; simp (decide := true) (disch := omega) only [go_sem, ↓reduceIte, ↓put_at]))))
      refine clm_s (1000, 4) kvs (kvF f.ps) hp ⟨by simp (decide := true) (disch := omega) only [go_sem, ↓reduceIte, ↓put_at], ?_⟩
      (repeat' ((first | refine sp_ ?_ | exact ex0 | (refine ret_s [] ?_; simp (decide := true) (disch := omega) only [go_sem, ↓reduceIte, ↓put_at]))))
    | none =>
      rw [hg] at hu
      rw [if_neg (by decide)] at hu
      rw [hu] at ho' ⊢
      have cw := spl_whole _ ho'
      obtain ⟨g, hg'⟩ : ∃ g : Fr, g = { f with ps := f.ps ++ [(i.toNat, s)] } := ⟨_, rfl⟩
      rw [← hg'] at cw ho' ⊢
      have e1 : (sumP g.ps : Int) = sumP f.ps + s.length := by rw [hg', sumP_app]; simp [sumP]
      have e2 : g.tm = f.tm ∧ g.n = f.n ∧ g.t0 = f.t0 := by rw [hg']; exact ⟨rfl, rfl, rfl⟩
      have e3 : wholeF g = decide (f.ps.length + 1 = f.n) := by rw [hg']; unfold wholeF; simp
      have e4 : kvF g.ps = kvF (f.ps ++ [(i.toNat, s)]) := by rw [hg']
      rw [e3] at cw
      refine spec_of Tryz.func27 rfl Tryz.ntmps27 Tryz.results27 ⟨by decide, by simp⟩ fun C hC => ?_
      refine opm_s (1000, 4) (kvF f.ps) (by simp (decide := true) (disch := omega) only [go_sem, ↓reduceIte, ↓put_at]) fun kvs hp => ?_
      have hk := kvP_keys hp
      have hget := kvP_get h.nd hp h2
      rw [hg] at hget
      simp only [Option.map_none] at hget
      obtain ⟨hset, hperm⟩ := kvP_set hp h2 hg s
      (repeat' ((first | refine sp_ ?_ | exact ex0 | (refine ret_s [] ?_; simp (decide := true) (disch := omega) only [go_sem, ↓reduceIte, ↓put_at]))))
      simp only [hget]
      (repeat' ((fail_if_success (first | refine stop_at 7 ?_ | refine stop_l 7 ?_)); (first | refine sp_ ?_ | exact ex0 | (refine ret_s [] ?_; simp (decide := true) (disch := omega) only [go_sem, ↓reduceIte, ↓put_at]))))
      simp only [hset]
      refine clm_s (1000, 4) _ (kvF (f.ps ++ [(i.toNat, s)])) hperm ⟨by simp (decide := true) (disch := omega) only [go_sem, ↓reduceIte, ↓put_at], ?_⟩
      rw [← e4]
      by_cases hw : f.ps.length + 1 = f.n
      · rw [if_pos hw]
        rw [decide_eq_true hw] at cw
        (repeat' ((first | refine sp_ ?_ | exact ex0 | refine call_u Tryz.call64 (cw) [(1000, 0)] ex1 ?_ | (refine ret_s [] ?_; simp (decide := true) (disch := omega) only [go_sem, ↓reduceIte, ↓put_at]))))
      · rw [if_neg hw]
        rw [decide_eq_false hw] at cw
        (repeat' ((first | refine sp_ ?_ | exact ex0 | refine call_u Tryz.call64 (cw) [(1000, 0)] ex1 ?_ | (refine ret_s [] ?_; simp (decide := true) (disch := omega) only [go_sem, ↓reduceIte, ↓put_at]))))
  · have hu : putF f i c s = (f, 4) := by
      unfold putF
      rw [if_pos (by omega)]
    rw [hu]
    clear ho' hu
    by_cases h2 : c = f.n
    · subst h2
      by_cases h3 : i < 0
      · refine spec_of Tryz.func27 rfl Tryz.ntmps27 Tryz.results27 ⟨by decide, by simp⟩ fun C hC => ?_
        refine opm_s (1000, 4) (kvF f.ps) (by simp (decide := true) (disch := omega) only [go_sem, ↓reduceIte, ↓put_at]) fun kvs hp => ?_
        have hk := kvP_keys hp
        (repeat' ((fail_if_success (refine stop_ret ?_)); (first | refine sp_ ?_ | exact ex0 | (refine ret_s [] ?_; simp (decide := true) (disch := omega) only [go_sem, ↓reduceIte, ↓put_at]))))
        refine clm_s (1000, 4) kvs (kvF f.ps) hp ⟨by simp (decide := true) (disch := omega) only [go_sem, ↓reduceIte, ↓put_at], ?_⟩
        (repeat' ((first | refine sp_ ?_ | exact ex0 | (refine ret_s [] ?_; simp (decide := true) (disch := omega) only [go_sem, ↓reduceIte, ↓put_at]))))
      · have h4 : (f.n : Int) ≤ i := by omega
        refine spec_of Tryz.func27 rfl Tryz.ntmps27 Tryz.results27 ⟨by decide, by simp⟩ fun C hC => ?_
        refine opm_s (1000, 4) (kvF f.ps) (by simp (decide := true) (disch := omega) only [go_sem, ↓reduceIte, ↓put_at]) fun kvs hp => ?_
        have hk := kvP_keys hp
        (repeat' ((fail_if_success (refine stop_ret ?_)); (first | refine sp_ ?_ | exact ex0 | (refine ret_s [] ?_; simp (decide := true) (disch := omega) only [go_sem, ↓reduceIte, ↓put_at]))))
        refine clm_s (1000, 4) kvs (kvF f.ps) hp ⟨by simp (decide := true) (disch := omega) only [go_sem, ↓reduceIte, ↓put_at], ?_⟩
        (repeat' ((first | refine sp_ ?_ | exact ex0 | (refine ret_s [] ?_; simp (decide := true) (disch := omega) only [go_sem, ↓reduceIte, ↓put_at]))))
    · refine spec_of Tryz.func27 rfl Tryz.ntmps27 Tryz.results27 ⟨by decide, by simp⟩ fun C hC => ?_
      refine opm_s (1000, 4) (kvF f.ps) (by simp (decide := true) (disch := omega) only [go_sem, ↓reduceIte, ↓put_at]) fun kvs hp => ?_
      have hk := kvP_keys hp
      (repeat' ((fail_if_success (refine stop_ret ?_)); (first | refine sp_ ?_ | exact ex0 | (refine ret_s [] ?_; simp (decide := true) (disch := omega) only [go_sem, ↓reduceIte, ↓put_at]))))
      refine clm_s (1000, 4) kvs (kvF f.ps) hp ⟨by simp (decide := true) (disch := omega) only [go_sem, ↓reduceIte, ↓put_at], ?_⟩
      (repeat' ((first | refine sp_ ?_ | exact ex0 | (refine ret_s [] ?_; simp (decide := true) (disch := omega) only [go_sem, ↓reduceIte, ↓put_at]))))
end Go.Proofs.YtkclmofjlmeolaaGreatDoor

