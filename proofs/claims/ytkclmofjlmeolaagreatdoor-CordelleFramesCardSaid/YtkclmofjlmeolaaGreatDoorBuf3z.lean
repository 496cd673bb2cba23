/- Package buffer: over, pop; walked. -/
import Derived.Test.YtkclmofjlmeolaaGreatDoorBuf1z
namespace Go.Proofs.YtkclmofjlmeolaaGreatDoor
open Go.RowKit
set_option linter.unusedVariables false
set_option linter.unusedSimpArgs false

theorem fl_len {α : Type} (g : α → V) (l : List α) : ∀ r ∈ l.map (fun a => [g a]), r.length = 1 := fun r h => by obtain ⟨e, _, rfl⟩ := List.mem_map.1 h; rfl
theorem fl_pw {α : Type} (g : α → Nat) (l : List α) : ∀ r ∈ l.map (fun a => [V.sc (pw (g a))]), ∀ y ∈ r, oneV y = true := fun r h y hy => by obtain ⟨e, _, rfl⟩ := List.mem_map.1 h; simp at hy; subst hy; rfl
set_option maxRecDepth 100000 in
set_option maxHeartbeats 8000000 in
theorem buf_over (b : Bu) : Spec Tryz.prog 28 [.ptr 0 0] [buO b] (.ca (.val (vb (overB b)))) [buO b] := by
  unfold overB
  by_cases h1 : b.cf < b.l.length
  · rw [decide_eq_true (.inl h1)]
    refine spec_of Tryz.func28 rfl Tryz.ntmps28 Tryz.results28 ⟨by decide, by simp⟩ fun C hC => ?_
    (repeat' ((first | refine sp_ ?_ | exact ex0 | (refine ret_s [] ?_; simp (decide := true) (disch := omega) only [go_sem, ↓reduceIte, ↓put_at]))))
  · by_cases h2 : b.cp < pkts b.l
    · rw [decide_eq_true (.inr (.inl h2))]
      refine spec_of Tryz.func28 rfl Tryz.ntmps28 Tryz.results28 ⟨by decide, by simp⟩ fun C hC => ?_
      (repeat' ((first | refine sp_ ?_ | exact ex0 | (refine ret_s [] ?_; simp (decide := true) (disch := omega) only [go_sem, ↓reduceIte, ↓put_at]))))
    · by_cases h3 : b.cb < bts b.l
      · rw [decide_eq_true (.inr (.inr h3))]
        refine spec_of Tryz.func28 rfl Tryz.ntmps28 Tryz.results28 ⟨by decide, by simp⟩ fun C hC => ?_
        (repeat' ((first | refine sp_ ?_ | exact ex0 | (refine ret_s [] ?_; simp (decide := true) (disch := omega) only [go_sem, ↓reduceIte, ↓put_at]))))
      · rw [decide_eq_false (by omega)]
        refine spec_of Tryz.func28 rfl Tryz.ntmps28 Tryz.results28 ⟨by decide, by simp⟩ fun C hC => ?_
        (repeat' ((first | refine sp_ ?_ | exact ex0 | (refine ret_s [] ?_; simp (decide := true) (disch := omega) only [go_sem, ↓reduceIte, ↓put_at]))))
set_option maxRecDepth 100000 in
set_option maxHeartbeats 2000000 in
theorem buf_pop (b : Bu) (f : Fr) (l : List Fr) (hb : b.l = f :: l) (hf : ∀ g ∈ b.l, g.Ok) (hl : b.l.length ≤ 2000) : Spec Tryz.prog 29 [.ptr 0 0] [buO b] (.ptr 1 0) [buO (popB b), frO f] := by
  obtain ⟨cf, cp, cb, l0, hz, pl, dr, ev⟩ := b
  dsimp only at hb hf hl
  subst hb
  rw [show popB ⟨cf, cp, cb, f :: l, hz, pl, dr, ev⟩ = ⟨cf, cp, cb, l, f.tm, pl, dr, ev⟩ from rfl]
  have p1 := pkts_le hf
  have p2 := bts_le hf
  have ca := fun es => buf_add ⟨cf, cp, cb, f :: l, hz, pl, dr, ev⟩ (f :: l).length (pkts (f :: l)) (bts (f :: l)) es f (hf f (List.mem_cons_self ..)) (-1) (.inr rfl) (by omega) (by omega) (by omega)
  have e1 : ((f :: l).length : Int) + -1 = l.length := by simp only [List.length_cons]; omega
  have e2 : (pkts (f :: l) : Int) + -1 * f.ps.length = pkts l := by rw [pkts]; omega
  have e3 : (bts (f :: l) : Int) + -1 * sumP f.ps = bts l := by rw [bts]; omega
  simp only [e1, e2, e3] at ca
  clear e1 e2 e3
  have ct := spl_time f
  have hn := (hf f (List.mem_cons_self ..)).tm
  refine spec_of Tryz.func29 rfl Tryz.ntmps29 Tryz.results29 ⟨by decide, by simp⟩ fun C hC => ?_
  refine spl_s (1000, 7) (90, 1) (f :: l) frT 83 ⟨by simp (decide := true) (disch := omega) only [go_sem, ↓reduceIte, ↓put_at], by decide, by decide⟩ fun zs hz => ?_
  obtain ⟨b0, zs', rfl, hzl⟩ : ∃ b0 zs', zs = (b0, f) :: zs' ∧ zs'.map (·.2) = l := by
    match zs, hz with
    | (b0, f0) :: zs', hz =>
      simp only [List.map_cons, List.cons.injEq] at hz
      exact ⟨b0, zs', by rw [hz.1], hz.2⟩
  simp only [List.map_cons]
  have hzn : zs'.length = l.length := by rw [← hzl, List.length_map]
  generalize hE : (zs'.map fun z => [V.sc (pw z.1)]) = es
  have hel : es.length = l.length := by rw [← hE, List.length_map, hzn]
  have cd := sl_del_fr ([V.sc (pw b0)] :: es) 0 1 (by omega) (by simp) (by simp only [List.length_cons] at hl ⊢; omega) (fun r hr => by
    rcases List.mem_cons.1 hr with rfl | hr
    · rfl
    · rw [← hE] at hr; exact fl_len (fun z => V.sc (pw z.1)) zs' r hr) (fun r hr y hy => by
    rcases List.mem_cons.1 hr with rfl | hr
    · simp at hy; subst hy; rfl
    · rw [← hE] at hr; exact fl_pw (fun z => z.1) zs' r hr y hy)
  simp only [List.take_zero, List.drop_succ_cons, List.drop_zero, List.nil_append] at cd
  refine opn_s hC (90, 1) 9 0 [9] [] (pw b0) ((pw b0, .box (frT f)) :: zs'.map fun z => (pw z.1, T.box (frT z.2))) ((pw b0, .av .any) :: zs'.map fun z => (pw z.1, T.box (frT z.2))) (frT f) rfl rfl ⟨rfl, rfl⟩ ⟨by simp (decide := true) (disch := omega) only [go_sem, ↓reduceIte, ↓put_at], ?_⟩
  (repeat' ((fail_if_success (refine stop_ret ?_)); (first | refine sp_ ?_ | exact ex0 | refine call_u Tryz.call65 (cd) [] ex1 ?_ | refine call_u Tryz.call26 ((ca es)) [(1000, 0), (9, 0)] ex1 ?_ | refine call_u Tryz.call30 (ct) [(9, 0)] ex1 ?_ | (refine ret_s [] ?_; simp (decide := true) (disch := omega) only [go_sem, ↓reduceIte, ↓put_at]))))
  refine ers_s (90, 1) 0 ((pw b0, .av .any) :: zs'.map fun z => (pw z.1, T.box (frT z.2))) (zs'.map fun z => (pw z.1, T.box (frT z.2))) rfl ⟨by simp (decide := true) (disch := omega) only [go_sem, ↓reduceIte, ↓put_at], ?_⟩
  refine joi_s (1000, 7) (90, 1) 83 (zs'.map fun z => (pw z.1, T.box (frT z.2))) es (l.map fun f => [T.box (frT f)]) (by rw [← hE, List.map_map]; rfl) (by rw [List.map_map, ← hzl, List.map_map]; rfl) ⟨by simp (decide := true) (disch := omega) only [go_sem, ↓reduceIte, ↓put_at], ?_⟩
  (repeat' ((first | refine sp_ ?_ | exact ex0 | (refine ret_s [(9, 0)] ?_; simp (decide := true) (disch := omega) only [go_sem, ↓reduceIte, ↓put_at]))))
/-! ### Where a frame is -/
def frV (f : Fr) : V := .ep [vu f.tm, vi f.n, vi f.t0, .any, vi (sumP f.ps)]
attribute [go_sem] frV
set_option maxRecDepth 100000 in
set_option maxHeartbeats 8000000 in
theorem spl_time_v (f : Fr) : Spec Tryz.prog 30 [.ca (.val (frV f))] [] (.ca (.val (vu f.tm))) [] := by
  refine spec_of Tryz.func30 rfl Tryz.ntmps30 Tryz.results30 ⟨by decide, by simp⟩ fun C hC => ?_
  (repeat' ((first | refine sp_ ?_ | exact ex0 | (refine ret_s [] ?_; simp (decide := true) (disch := omega) only [go_sem, ↓reduceIte, ↓put_at]))))
set_option maxRecDepth 100000 in
set_option maxHeartbeats 8000000 in
theorem buf_cmp (f : Fr) (hf : f.Ok) (t : Nat) (ht : t < 4294967296) : Spec Tryz.prog 58 [.ca (.val (frV f)), .ca (.val (vu t))] [] (.ca (.val (vi (cmpZ f.tm t)))) [] := by
  have c1 := spl_time_v f
  have c2 := cmp_u32 f.tm t
  have h1 := hf.tm
  refine spec_of Tryz.func58 rfl Tryz.ntmps58 Tryz.results58 ⟨by decide, by simp⟩ fun C hC => ?_
  (repeat' ((first | refine sp_ ?_ | exact ex0 | refine call_u Tryz.call30 (c1) [] ex1 ?_ | refine call_u Tryz.call59 (c2) [] ex1 ?_ | (refine ret_s [] ?_; simp (decide := true) (disch := omega) only [go_sem, ↓reduceIte, ↓put_at]))))
def cmpAt (l : List Fr) (t i : Nat) : Int := match l[i]? with | some f => cmpZ f.tm t | none => 0
theorem cmpAt_lt {l : List Fr} {t i : Nat} (h : i < l.length) : cmpAt l t i = cmpZ l[i].tm t := by unfold cmpAt; rw [List.getElem?_eq_getElem h]
theorem cmpZ_neg (a b : Int) : cmpZ a b < 0 ↔ a < b := by unfold cmpZ; split <;> (try split) <;> omega
theorem cmpZ_eq (a b : Int) : cmpZ a b = 0 ↔ a = b := by unfold cmpZ; split <;> (try split) <;> omega
theorem bs_at {l : List Fr} {t : Nat} (hs : l.Pairwise fun f g => f.tm < g.tm) : firstN (cmpAt l t) l.length = atF l t := by
  refine firstN_is _ _ _ (atF_le l t) (fun k hk => ?_) (fun k h1 h2 => ?_)
  · have hkl : k < l.length := Nat.lt_of_lt_of_le hk (atF_le l t)
    rw [cmpAt_lt hkl, cmpZ_neg]
    have := atF_lt k hkl hk
    omega
  · rw [cmpAt_lt h2]
    have := atF_ge hs k h2 h1
    have h3 := cmpZ_neg l[k].tm t
    omega
theorem bs_is (l : List Fr) (t : Nat) : (decide (atF l t < l.length) && decide (cmpAt l t (atF l t) = 0)) = isF l t := by
  unfold isF
  by_cases h : atF l t < l.length
  · rw [cmpAt_lt h, List.getElem?_eq_getElem h, decide_eq_true h, Bool.true_and]
    dsimp only
    by_cases e : l[atF l t].tm = t
    · rw [decide_eq_true e, decide_eq_true ((cmpZ_eq _ _).2 (by omega))]
    · rw [decide_eq_false e, decide_eq_false (fun q => e (by have := (cmpZ_eq _ _).1 q; omega))]
  · rw [decide_eq_false h, List.getElem?_eq_none (by omega)]
    rfl
set_option maxRecDepth 100000 in
set_option maxHeartbeats 8000000 in
theorem buf_bs (l : List Fr) (t : Nat) (ht : t < 4294967296) (hl : l.length ≤ 1000000) (hf : ∀ f ∈ l, f.Ok) (hs : l.Pairwise fun f g => f.tm < g.tm) :
    Spec Tryz.prog 57 [.ca (.val (.lst 1 (l.map fun f => [frV f]))), .ca (.val (vu t)), .fn 58 []] [] (.ca (.val (.tup [vi (atF l t), vb (isF l t)]))) [] := by
  have h := sl_bs_fr (l.map frV) t 58 Tryz.call58 (cmpAt l t) (by rw [List.length_map]; exact hl) (fun i hi => by
    rw [List.length_map] at hi
    rw [List.getElem_map, cmpAt_lt hi]
    exact buf_cmp l[i] (hf _ (List.getElem_mem hi)) t ht) (fun i j hij hj h0 => by
    rw [List.length_map] at hj
    rw [cmpAt_lt (by omega)] at h0
    rw [cmpAt_lt hj]
    have h1 := cmpZ_neg l[i].tm t
    have h2 := cmpZ_neg l[j].tm t
    rcases Nat.lt_or_ge i j with h | h
    · have := List.pairwise_iff_getElem.1 hs i j (by omega) hj h
      omega
    · obtain rfl : i = j := by omega
      omega)
  rw [List.length_map, bs_at hs, bs_is, List.map_map] at h
  exact h
end Go.Proofs.YtkclmofjlmeolaaGreatDoor

namespace Go.Proofs.YtkclmofjlmeolaaGreatDoor
open Go.RowKit
set_option linter.unusedVariables false
set_option linter.unusedSimpArgs false

/-- A buffer's cells; the frame at a place is lent. -/
def buL (b : Bu) (tf tp tb : Int) (i : Nat) : List CA := buG b tf tp tb (.hdl (.row 83 1 ((b.l.map fun f => [T.box (frT f)]).set i [.av .any])) i 1)
attribute [go_sem] buL
theorem zs_at {α : Type} {zs : List (Nat × α)} {l : List α} (h : zs.map (·.2) = l) {i : Nat} (hi : i < l.length) : ∃ b, zs[i]? = some (b, l[i]) := by
  subst h
  have hi' : i < zs.length := by simpa using hi
  exact ⟨zs[i].1, by rw [List.getElem?_eq_getElem hi']; simp⟩
theorem rowV3 (l : List Fr) : List.map (fun x => List.map (treeV 3) x) (List.map (fun f => [T.box (frT f)]) l) = List.map (fun f => [V.ep [vu f.tm, vi f.n, vi f.t0, V.any, vi (sumP f.ps)]]) l := by rw [List.map_map]; rfl
attribute [go_sem] rowV3
/-- A place of the bag, and of the row. -/
theorem zs_set {zs : List (Nat × Fr)} {i b : Nat} {f : Fr} (h : zs[i]? = some (b, f)) :
    (zs.map fun z => (pw z.1, T.box (frT z.2)))[i]? = some (pw b, T.box (frT f)) ∧ (zs.map fun z => [V.sc (pw z.1)]).getD i [] = [V.sc (pw b)] ∧
    ((zs.map fun z => (pw z.1, T.box (frT z.2))).set i (pw b, T.av .any))[i]? = some (pw b, T.av .any) ∧
    (zs.map fun z => [V.sc (pw z.1)]) = (((zs.map fun z => (pw z.1, T.box (frT z.2))).set i (pw b, T.av .any)).map fun p => [V.sc p.1]) ∧
    ((((zs.map fun z => (pw z.1, T.box (frT z.2))).set i (pw b, T.av .any)).map fun p => [p.2]) = ((zs.map (·.2)).map fun f => [T.box (frT f)]).set i [T.av .any]) := by
  obtain ⟨hi, he⟩ := List.getElem?_eq_some_iff.1 h
  refine ⟨by rw [List.getElem?_map, h]; rfl, by rw [List.getD_eq_getElem?_getD, List.getElem?_map, h]; rfl, by simp [hi], ?_, ?_⟩
  · rw [List.map_set, List.map_map, set_self]
    · rfl
    · rw [List.getElem?_map, h]; rfl
  · rw [List.map_set, List.map_map, List.map_map]
    rfl
set_option maxRecDepth 100000 in
set_option maxHeartbeats 2000000 in
theorem buf_frame_is (b : Bu) (t : Nat) (c now : Int) (h : isF b.l t = true) (f : Fr) (hfa : b.l[atF b.l t]? = some f) (ht : t < 4294967296) (hl : b.l.length ≤ 2000) (hf : ∀ f ∈ b.l, f.Ok) (hs : b.l.Pairwise fun f g => f.tm < g.tm) :
    Spec Tryz.prog 25 [.ptr 0 0, .ca (.val (vu t)), .ca (.val (vi c)), .ca (.val (vi now))] [buO b] (.ptr 1 0) [buL b b.l.length (pkts b.l) (bts b.l) (atF b.l t), frO f] := by
  obtain ⟨cf, cp, cb, l, hz, pl, dr, ev⟩ := b
  dsimp only at h hfa hl hf hs ⊢
  have cs := buf_bs l t ht (by omega) hf hs
  rw [h] at cs
  generalize hI : atF l t = i at *
  obtain ⟨hi, hfi⟩ := List.getElem?_eq_some_iff.1 hfa
  refine spec_of Tryz.func25 rfl Tryz.ntmps25 Tryz.results25 ⟨by decide, by simp⟩ fun C hC => ?_
  (repeat' ((fail_if_success (first | refine stop_at 6 ?_ | refine stop_l 6 ?_)); (first | refine sp_ ?_ | exact ex0 | refine pcall_u Tryz.call57 (cs) ex1 ?_ | (refine ret_s [] ?_; simp (decide := true) (disch := omega) only [go_sem, ↓reduceIte, ↓put_at]))))
  refine spl_s (1000, 7) (90, 1) l frT 83 ⟨by simp (decide := true) (disch := omega) only [go_sem, ↓reduceIte, ↓put_at], by decide, by decide⟩ fun zs hzl => ?_
  obtain ⟨b0, hb0⟩ := zs_at hzl hi
  rw [hfi] at hb0
  obtain ⟨j1, j2, j3, j4, j5⟩ := zs_set hb0
  have hlz : zs.length = l.length := by rw [← hzl, List.length_map]
  refine opn_s hC (90, 1) 48 i [49, 37] [] (pw b0) (zs.map fun z => (pw z.1, T.box (frT z.2))) ((zs.map fun z => (pw z.1, T.box (frT z.2))).set i (pw b0, .av .any)) (frT f) j1 rfl ⟨rfl, rfl⟩ ⟨by simp (decide := true) (disch := omega) only [go_sem, ↓reduceIte, ↓put_at], ?_⟩
  (repeat' ((first | refine sp_ ?_ | exact ex0 | (refine ret_s [] ?_; simp (decide := true) (disch := omega) only [go_sem, ↓reduceIte, ↓put_at]))))
  refine ⟨⟨by omega, by rw [(List.getElem?_eq_some_iff.1 hb0).2]⟩, ?_⟩
  refine joL_s (1000, 7) (90, 1) (48, 0) i 37 (pw b0) (.av .any) 83 ((zs.map fun z => (pw z.1, T.box (frT z.2))).set i (pw b0, .av .any)) (zs.map fun z => [V.sc (pw z.1)]) ((l.map fun f => [T.box (frT f)]).set i [.av .any]) j3 j4 (by rw [j5, hzl]) ⟨by simp (decide := true) (disch := omega) only [go_sem, ↓reduceIte, ↓put_at], ?_⟩
  (repeat' ((first | refine sp_ ?_ | exact ex0 | (refine ret_s [(48, 0)] ?_; simp (decide := true) (disch := omega) only [go_sem, ↓reduceIte, ↓put_at]))))
theorem ins_mid {α : Type} (x : α) : ∀ (l : List α) (i : Nat), i ≤ l.length → l.insertIdx i x = l.take i ++ x :: l.drop i
  | l, 0, _ => by simp
  | [], i + 1, h => by simp at h
  | y :: l, i + 1, h => by simp [ins_mid x l i (by simpa using h)]
theorem mid_map {α β : Type} (g : α → β) (l : List α) (i : Nat) (x : α) : (l.take i ++ x :: l.drop i).map g = (l.map g).take i ++ g x :: (l.map g).drop i := by simp
theorem pkts_mid (l : List Fr) (i : Nat) (x : Fr) : pkts (l.take i ++ x :: l.drop i) = pkts l + x.ps.length := by
  have : pkts l = pkts (l.take i) + pkts (l.drop i) := by rw [← pkts_app, List.take_append_drop]
  rw [pkts_app, pkts, this]; omega
theorem bts_mid (l : List Fr) (i : Nat) (x : Fr) : bts (l.take i ++ x :: l.drop i) = bts l + sumP x.ps := by
  have : bts l = bts (l.take i) + bts (l.drop i) := by rw [← bts_app, List.take_append_drop]
  rw [bts_app, bts, this]; omega
set_option maxRecDepth 100000 in
set_option maxHeartbeats 4000000 in
theorem buf_frame_new (b : Bu) (t : Nat) (c now : Int) (h : isF b.l t = false) (ht : t < 4294967296) (hl : b.l.length ≤ 2000) (hf : ∀ f ∈ b.l, f.Ok) (hs : b.l.Pairwise fun f g => f.tm < g.tm) (f : Fr) (hfe : f = newF t c now) (hfo : f.Ok) (l' : List Fr) (hl' : l' = b.l.take (atF b.l t) ++ f :: b.l.drop (atF b.l t)) :
    Spec Tryz.prog 25 [.ptr 0 0, .ca (.val (vu t)), .ca (.val (vi c)), .ca (.val (vi now))] [buO b] (.ptr 1 0) [buL { b with l := l' } l'.length (pkts l') (bts l') (atF b.l t), frO f] := by
  obtain ⟨cf, cp, cb, l, hz, pl, dr, ev⟩ := b
  dsimp only at h hl hf hs hl' ⊢
  have cs := buf_bs l t ht (by omega) hf hs
  have cn := spl_new t c now
  have hps : f.ps = [] := by rw [hfe]; rfl
  rw [← hfe] at cn
  rw [h] at cs
  have hi := atF_le l t
  generalize hI : atF l t = i at *
  have p1 := pkts_le hf
  have p2 := bts_le hf
  have ca := fun es => buf_add ⟨cf, cp, cb, l', hz, pl, dr, ev⟩ l.length (pkts l) (bts l) es f hfo 1 (.inl rfl) (by omega) (by omega) (by omega)
  rw [hps] at ca
  have e1 : (l.length : Int) + 1 = l'.length := by rw [hl', mid_len]; omega
  have e2 : (pkts l : Int) + 1 * (([] : List (Nat × List UInt8)).length : Nat) = pkts l' := by rw [hl', pkts_mid, hps]; simp
  have e3 : (bts l : Int) + 1 * (sumP [] : Nat) = bts l' := by rw [hl', bts_mid, hps]; simp [sumP]
  simp only [e1, e2, e3] at ca
  clear e1 e2 e3
  refine spec_of Tryz.func25 rfl Tryz.ntmps25 Tryz.results25 ⟨by decide, by simp⟩ fun C hC => ?_
  (repeat' ((fail_if_success (first | refine stop_at 4 ?_ | refine stop_l 4 ?_)); (first | refine sp_ ?_ | exact ex0 | refine pcall_u Tryz.call57 (cs) ex1 ?_ | refine call_u Tryz.call60 (cn) [] ex1 ?_ | (refine ret_s [] ?_; simp (decide := true) (disch := omega) only [go_sem, ↓reduceIte, ↓put_at]))))
  refine spl_s (1000, 7) (90, 1) l frT 83 ⟨by simp (decide := true) (disch := omega) only [go_sem, ↓reduceIte, ↓put_at], by decide, by decide⟩ fun zs hzl => ?_
  have hlz : zs.length = l.length := by rw [← hzl, List.length_map]
  refine ins_s hC (90, 1) (26, 0) i [11] (zs.map fun z => (pw z.1, T.box (frT z.2))) (frT f) (by rw [List.length_map]; omega) rfl ⟨by simp (decide := true) (disch := omega) only [go_sem, ↓reduceIte, ↓put_at], by simp (decide := true) (disch := omega) only [go_sem, ↓reduceIte, ↓put_at], by simp (decide := true) (disch := omega) only [go_sem, ↓reduceIte, ↓put_at], by simp (decide := true) (disch := omega) only [go_sem, ↓reduceIte, ↓put_at], by simp (decide := true) (disch := omega) only [go_sem, ↓reduceIte, ↓put_at]⟩ fun b0 => ?_
  obtain ⟨zs2, hz2⟩ : ∃ zs2, zs2 = zs.take i ++ (b0, f) :: zs.drop i := ⟨_, rfl⟩
  have hins : (zs.map fun z => (pw z.1, T.box (frT z.2))).insertIdx i (pw b0, T.box (frT f)) = zs2.map fun z => (pw z.1, T.box (frT z.2)) := by
    rw [ins_mid _ _ _ (by rw [List.length_map]; omega), hz2, mid_map]
  rw [hins]
  have hb0 : zs2[i]? = some (b0, f) := by rw [hz2]; exact mid_at _ _ _ (by omega)
  have hzl2 : zs2.map (·.2) = l' := by rw [hz2, mid_map, hzl, hl']
  have hlz2 : zs2.length = l'.length := by rw [← hzl2, List.length_map]
  have hll : l'.length = l.length + 1 := by rw [hl', mid_len]
  obtain ⟨j1, j2, j3, j4, j5⟩ := zs_set hb0
  have ci := sl_ins_fr (zs.map fun z => [V.sc (pw z.1)]) [V.sc (pw b0)] i (by rw [List.length_map]; omega) (by rw [List.length_map]; omega) (fl_len (fun z => V.sc (pw z.1)) zs) (fl_pw (fun z => z.1) zs) rfl (fun y hy => by simp at hy; subst hy; rfl)
  have hins2 : (zs.map fun z => [V.sc (pw z.1)]).take i ++ [V.sc (pw b0)] :: (zs.map fun z => [V.sc (pw z.1)]).drop i = zs2.map fun z => [V.sc (pw z.1)] := by rw [hz2, mid_map]
  rw [hins2] at ci
  simp (decide := true) (disch := omega) only [go_sem, ↓reduceIte, ↓put_at]
  (repeat' ((fail_if_success (first | refine stop_at 5 ?_ | refine stop_l 5 ?_)); (first | refine sp_ ?_ | exact ex0 | refine call_u Tryz.call61 (ci) [] ex1 ?_ | (refine ret_s [] ?_; simp (decide := true) (disch := omega) only [go_sem, ↓reduceIte, ↓put_at]))))
  refine opn_s hC (90, 1) 48 i [49, 37] [11] (pw b0) (zs2.map fun z => (pw z.1, T.box (frT z.2))) ((zs2.map fun z => (pw z.1, T.box (frT z.2))).set i (pw b0, .av .any)) (frT f) j1 rfl ⟨rfl, rfl⟩ ⟨by simp (decide := true) (disch := omega) only [go_sem, ↓reduceIte, ↓put_at], ?_⟩
  (repeat' ((first | refine sp_ ?_ | exact ex0 | refine call_u Tryz.call26 ((ca (zs2.map fun z => [V.sc (pw z.1)]))) [(1000, 0), (48, 0)] ex1 ?_ | (refine ret_s [] ?_; simp (decide := true) (disch := omega) only [go_sem, ↓reduceIte, ↓put_at]))))
  refine ⟨⟨by omega, by rw [(List.getElem?_eq_some_iff.1 hb0).2]⟩, ?_⟩
  refine joL_s (1000, 7) (90, 1) (48, 0) i 37 (pw b0) (.av .any) 83 ((zs2.map fun z => (pw z.1, T.box (frT z.2))).set i (pw b0, .av .any)) (zs2.map fun z => [V.sc (pw z.1)]) ((l'.map fun f => [T.box (frT f)]).set i [.av .any]) j3 j4 (by rw [j5, hzl2]) ⟨by simp (decide := true) (disch := omega) only [go_sem, ↓reduceIte, ↓put_at], ?_⟩
  (repeat' ((first | refine sp_ ?_ | exact ex0 | (refine ret_s [(48, 0)] ?_; simp (decide := true) (disch := omega) only [go_sem, ↓reduceIte, ↓put_at]))))
end Go.Proofs.YtkclmofjlmeolaaGreatDoor

