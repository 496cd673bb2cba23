
/- Package buffer: over, pop; walked. -/
import Derived.Test.YtekpaepkoeelfaaBuf1
namespace Go.Proofs.Ytekpaepkoeelfaa
open Go.RowKit
set_option linter.unusedVariables false
set_option linter.unusedSimpArgs false

theorem fl_len {α : Type} (g : α → V) (l : List α) : ∀ r ∈ l.map (fun a => [g a]), r.length = 1 := fun r h => by obtain ⟨e, _, rfl⟩ := List.mem_map.1 h; rfl
theorem fl_pw {α : Type} (g : α → Nat) (l : List α) : ∀ r ∈ l.map (fun a => [V.sc (pw (g a))]), ∀ y ∈ r, oneV y = true := fun r h y hy => by obtain ⟨e, _, rfl⟩ := List.mem_map.1 h; simp at hy; subst hy; rfl
set_option maxRecDepth 100000 in
set_option maxHeartbeats 8000000 in
theorem buf_over (b : Bu) : Spec Try.prog 26 [.ptr 0 0] [buO b] (.ca (.val (vb (overB b)))) [buO b] := by
  unfold overB
  by_cases h1 : b.cf < b.l.length
  · rw [decide_eq_true (.inl h1)]
    refine spec_of Try.func26 rfl Try.ntmps26 Try.results26 ⟨by decide, by simp⟩ fun C hC => ?_
    (repeat' ((first | refine sp_ ?_ | exact ex0 | (refine ret_s [] ?_; simp (decide := true) (disch := omega) only [go_sem, ↓reduceIte, ↓put_at]))))
  · by_cases h2 : b.cp < pkts b.l
    · rw [decide_eq_true (.inr (.inl h2))]
      refine spec_of Try.func26 rfl Try.ntmps26 Try.results26 ⟨by decide, by simp⟩ fun C hC => ?_
      (repeat' ((first | refine sp_ ?_ | exact ex0 | (refine ret_s [] ?_; simp (decide := true) (disch := omega) only [go_sem, ↓reduceIte, ↓put_at]))))
    · by_cases h3 : b.cb < bts b.l
      · rw [decide_eq_true (.inr (.inr h3))]
        refine spec_of Try.func26 rfl Try.ntmps26 Try.results26 ⟨by decide, by simp⟩ fun C hC => ?_
        (repeat' ((first | refine sp_ ?_ | exact ex0 | (refine ret_s [] ?_; simp (decide := true) (disch := omega) only [go_sem, ↓reduceIte, ↓put_at]))))
      · rw [decide_eq_false (by omega)]
        refine spec_of Try.func26 rfl Try.ntmps26 Try.results26 ⟨by decide, by simp⟩ fun C hC => ?_
        (repeat' ((first | refine sp_ ?_ | exact ex0 | (refine ret_s [] ?_; simp (decide := true) (disch := omega) only [go_sem, ↓reduceIte, ↓put_at]))))
set_option maxRecDepth 100000 in
set_option maxHeartbeats 2000000 in
theorem buf_pop (b : Bu) (f : Fr) (l : List Fr) (hb : b.l = f :: l) (hf : ∀ g ∈ b.l, g.Ok) (hl : b.l.length ≤ 2000) : Spec Try.prog 27 [.ptr 0 0] [buO b] (.ptr 1 0) [buO (popB b), frO f] := by
  obtain ⟨cf, cp, cb, l0, hz, pl, dr, ev⟩ := b
  dsimp only at hb hf hl
  subst hb
  rw [show popB ⟨cf, cp, cb, f :: l, hz, pl, dr, ev⟩ = ⟨cf, cp, cb, l, f.tm, pl, dr, ev⟩ from rfl]
  have p1 := pkts_le hf
  have p2 := bts_le hf
  have ca := fun es => buf_add ⟨cf, cp, cb, f :: l, hz, pl, dr, ev⟩ (f :: l).length (pkts (f :: l)) (bts (f :: l)) es f (hf f (List.mem_cons_self ..)) (-1) (.inr rfl) (by omega) (by omega) (by omega)
  have e1 : ((f :: l).length : Int) + -1 = l.length := by simp only [List.length_cons]; omega
  have e2 : (pkts (f :: l) : Int) + -1 * f.ps.length = pkts l := by rw [pkts]; omega
  have e3 : (bts (f :: l) : Int) + -1 * sumP f.ps = bts l := by rw [bts]; omega
  simp only [e1, e2, e3] at ca
  clear e1 e2 e3
  have ct := spl_time f
  have hn := (hf f (List.mem_cons_self ..)).tm
  refine spec_of Try.func27 rfl Try.ntmps27 Try.results27 ⟨by decide, by simp⟩ fun C hC => ?_
  refine spl_s (1000, 7) (90, 1) (f :: l) frT 66 ⟨by simp (decide := true) (disch := omega) only [go_sem, ↓reduceIte, ↓put_at], by decide, by decide⟩ fun zs hz => ?_
  obtain ⟨b0, zs', rfl, hzl⟩ : ∃ b0 zs', zs = (b0, f) :: zs' ∧ zs'.map (·.2) = l := by
    match zs, hz with
    | (b0, f0) :: zs', hz =>
      simp only [List.map_cons, List.cons.injEq] at hz
      exact ⟨b0, zs', by rw [hz.1], hz.2⟩
  simp only [List.map_cons]
  have hzn : zs'.length = l.length := by rw [← hzl, List.length_map]
  generalize hE : (zs'.map fun z => [V.sc (pw z.1)]) = es
  have hel : es.length = l.length := by rw [← hE, List.length_map, hzn]
  have cd := sl_del_fr ([V.sc (pw b0)] :: es) 0 1 (by omega) (by simp) (by simp only [List.length_cons] at hl ⊢; omega) (fun r hr => by
    rcases List.mem_cons.1 hr with rfl | hr
    · rfl
    · rw [← hE] at hr; exact fl_len (fun z => V.sc (pw z.1)) zs' r hr) (fun r hr y hy => by
    rcases List.mem_cons.1 hr with rfl | hr
    · simp at hy; subst hy; rfl
    · rw [← hE] at hr; exact fl_pw (fun z => z.1) zs' r hr y hy)
  simp only [List.take_zero, List.drop_succ_cons, List.drop_zero, List.nil_append] at cd
  refine opn_s hC (90, 1) 9 0 [9] [] (pw b0) ((pw b0, .box (frT f)) :: zs'.map fun z => (pw z.1, T.box (frT z.2))) ((pw b0, .av .any) :: zs'.map fun z => (pw z.1, T.box (frT z.2))) (frT f) rfl rfl ⟨rfl, rfl⟩ ⟨by simp (decide := true) (disch := omega) only [go_sem, ↓reduceIte, ↓put_at], ?_⟩
  (repeat' ((fail_if_success (refine stop_ret ?_)); (first | refine sp_ ?_ | exact ex0 | refine call_u Try.call47 (cd) [] ex1 ?_ | refine call_u Try.call24 ((ca es)) [(1000, 0), (9, 0)] ex1 ?_ | refine call_u Try.call28 (ct) [(9, 0)] ex1 ?_ | (refine ret_s [] ?_; simp (decide := true) (disch := omega) only [go_sem, ↓reduceIte, ↓put_at]))))
  refine ers_s (90, 1) 0 ((pw b0, .av .any) :: zs'.map fun z => (pw z.1, T.box (frT z.2))) (zs'.map fun z => (pw z.1, T.box (frT z.2))) rfl ⟨by simp (decide := true) (disch := omega) only [go_sem, ↓reduceIte, ↓put_at], ?_⟩
  refine joi_s (1000, 7) (90, 1) 66 (zs'.map fun z => (pw z.1, T.box (frT z.2))) es (l.map fun f => [T.box (frT f)]) (by rw [← hE, List.map_map]; rfl) (by rw [List.map_map, ← hzl, List.map_map]; rfl) ⟨by simp (decide := true) (disch := omega) only [go_sem, ↓reduceIte, ↓put_at], ?_⟩
  (repeat' ((first | refine sp_ ?_ | exact ex0 | (refine ret_s [(9, 0)] ?_; simp (decide := true) (disch := omega) only [go_sem, ↓reduceIte, ↓put_at]))))
set_option maxRecDepth 100000 in
set_option maxHeartbeats 8000000 in
theorem buf_len (b : Bu) : Spec Try.prog 11 [.ptr 0 0] [buO b] (.ca (.val (vi b.l.length))) [buO b] := by
  refine spec_of Try.func11 rfl Try.ntmps11 Try.results11 ⟨by decide, by simp⟩ fun C hC => ?_
  (repeat' ((first | refine sp_ ?_ | exact ex0 | (refine ret_s [] ?_; simp (decide := true) (disch := omega) only [go_sem, ↓reduceIte, ↓put_at]))))
set_option maxRecDepth 100000 in
set_option maxHeartbeats 8000000 in
theorem buf_hor (b : Bu) : Spec Try.prog 14 [.ptr 0 0] [buO b] (.ca (.val (vi b.hz))) [buO b] := by
  refine spec_of Try.func14 rfl Try.ntmps14 Try.results14 ⟨by decide, by simp⟩ fun C hC => ?_
  (repeat' ((first | refine sp_ ?_ | exact ex0 | (refine ret_s [] ?_; simp (decide := true) (disch := omega) only [go_sem, ↓reduceIte, ↓put_at]))))
set_option maxRecDepth 100000 in
set_option maxHeartbeats 8000000 in
theorem buf_pack (b : Bu) : Spec Try.prog 20 [.ptr 0 0] [buO b] (.ca (.val (vi (pkts b.l)))) [buO b] := by
  refine spec_of Try.func20 rfl Try.ntmps20 Try.results20 ⟨by decide, by simp⟩ fun C hC => ?_
  (repeat' ((first | refine sp_ ?_ | exact ex0 | (refine ret_s [] ?_; simp (decide := true) (disch := omega) only [go_sem, ↓reduceIte, ↓put_at]))))
set_option maxRecDepth 100000 in
set_option maxHeartbeats 8000000 in
theorem buf_bytes (b : Bu) : Spec Try.prog 21 [.ptr 0 0] [buO b] (.ca (.val (vi (bts b.l)))) [buO b] := by
  refine spec_of Try.func21 rfl Try.ntmps21 Try.results21 ⟨by decide, by simp⟩ fun C hC => ?_
  (repeat' ((first | refine sp_ ?_ | exact ex0 | (refine ret_s [] ?_; simp (decide := true) (disch := omega) only [go_sem, ↓reduceIte, ↓put_at]))))
set_option maxRecDepth 100000 in
set_option maxHeartbeats 8000000 in
theorem buf_counts (b : Bu) : Spec Try.prog 37 [.ptr 0 0] [buO b] (.ca (.val (.tup [vi b.pl, vi b.dr, vi b.ev]))) [buO b] := by
  refine spec_of Try.func37 rfl Try.ntmps37 Try.results37 ⟨by decide, by simp⟩ fun C hC => ?_
  (repeat' ((first | refine sp_ ?_ | exact ex0 | (refine ret_s [] ?_; simp (decide := true) (disch := omega) only [go_sem, ↓reduceIte, ↓put_at]))))
/-! ### Where a frame is -/
def frV (f : Fr) : V := .ep [vu f.tm, vi f.n, vi f.t0, .any, vi (sumP f.ps)]
attribute [go_sem] frV
set_option maxRecDepth 100000 in
set_option maxHeartbeats 8000000 in
theorem spl_time_v (f : Fr) : Spec Try.prog 28 [.ca (.val (frV f))] [] (.ca (.val (vu f.tm))) [] := by
  refine spec_of Try.func28 rfl Try.ntmps28 Try.results28 ⟨by decide, by simp⟩ fun C hC => ?_
  (repeat' ((first | refine sp_ ?_ | exact ex0 | (refine ret_s [] ?_; simp (decide := true) (disch := omega) only [go_sem, ↓reduceIte, ↓put_at]))))
set_option maxRecDepth 100000 in
set_option maxHeartbeats 8000000 in
theorem buf_cmp (f : Fr) (hf : f.Ok) (t : Nat) (ht : t < 4294967296) : Spec Try.prog 40 [.ca (.val (frV f)), .ca (.val (vu t))] [] (.ca (.val (vi (cmpZ f.tm t)))) [] := by
  have c1 := spl_time_v f
  have c2 := cmp_u32 f.tm t
  have h1 := hf.tm
  refine spec_of Try.func40 rfl Try.ntmps40 Try.results40 ⟨by decide, by simp⟩ fun C hC => ?_
  (repeat' ((first | refine sp_ ?_ | exact ex0 | refine call_u Try.call28 (c1) [] ex1 ?_ | refine call_u Try.call41 (c2) [] ex1 ?_ | (refine ret_s [] ?_; simp (decide := true) (disch := omega) only [go_sem, ↓reduceIte, ↓put_at]))))
def cmpAt (l : List Fr) (t i : Nat) : Int := match l[i]? with | some f => cmpZ f.tm t | none => 0
theorem cmpAt_lt {l : List Fr} {t i : Nat} (h : i < l.length) : cmpAt l t i = cmpZ l[i].tm t := by unfold cmpAt; rw [List.getElem?_eq_getElem h]
theorem cmpZ_neg (a b : Int) : cmpZ a b < 0 ↔ a < b := by unfold cmpZ; split <;> (try split) <;> omega
theorem cmpZ_eq (a b : Int) : cmpZ a b = 0 ↔ a = b := by unfold cmpZ; split <;> (try split) <;> omega
theorem bs_at {l : List Fr} {t : Nat} (hs : l.Pairwise fun f g => f.tm < g.tm) : firstN (cmpAt l t) l.length = atF l t := by
  refine firstN_is _ _ _ (atF_le l t) (fun k hk => ?_) (fun k h1 h2 => ?_)
  · have hkl : k < l.length := Nat.lt_of_lt_of_le hk (atF_le l t)
    rw [cmpAt_lt hkl, cmpZ_neg]
    have := atF_lt k hkl hk
    omega
  · rw [cmpAt_lt h2]
    have := atF_ge hs k h2 h1
    have h3 := cmpZ_neg l[k].tm t
    omega
theorem bs_is (l : List Fr) (t : Nat) : (decide (atF l t < l.length) && decide (cmpAt l t (atF l t) = 0)) = isF l t := by
  unfold isF
  by_cases h : atF l t < l.length
  · rw [cmpAt_lt h, List.getElem?_eq_getElem h, decide_eq_true h, Bool.true_and]
    dsimp only
    by_cases e : l[atF l t].tm = t
    · rw [decide_eq_true e, decide_eq_true ((cmpZ_eq _ _).2 (by omega))]
    · rw [decide_eq_false e, decide_eq_false (fun q => e (by have := (cmpZ_eq _ _).1 q; omega))]
  · rw [decide_eq_false h, List.getElem?_eq_none (by omega)]
    rfl
set_option maxRecDepth 100000 in
set_option maxHeartbeats 8000000 in
theorem buf_bs (l : List Fr) (t : Nat) (ht : t < 4294967296) (hl : l.length ≤ 1000000) (hf : ∀ f ∈ l, f.Ok) (hs : l.Pairwise fun f g => f.tm < g.tm) :
    Spec Try.prog 39 [.ca (.val (.lst 1 (l.map fun f => [frV f]))), .ca (.val (vu t)), .fn 40 []] [] (.ca (.val (.tup [vi (atF l t), vb (isF l t)]))) [] := by
  have h := sl_bs_fr (l.map frV) t 40 Try.call40 (cmpAt l t) (by rw [List.length_map]; exact hl) (fun i hi => by
    rw [List.length_map] at hi
    rw [List.getElem_map, cmpAt_lt hi]
    exact buf_cmp l[i] (hf _ (List.getElem_mem hi)) t ht) (fun i j hij hj h0 => by
    rw [List.length_map] at hj
    rw [cmpAt_lt (by omega)] at h0
    rw [cmpAt_lt hj]
    have h1 := cmpZ_neg l[i].tm t
    have h2 := cmpZ_neg l[j].tm t
    rcases Nat.lt_or_ge i j with h | h
    · have := List.pairwise_iff_getElem.1 hs i j (by omega) hj h
      omega
    · obtain rfl : i = j := by omega
      omega)
  rw [List.length_map, bs_at hs, bs_is, List.map_map] at h
  exact h
end Go.Proofs.Ytekpaepkoeelfaa
