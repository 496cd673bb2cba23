
/- Package buffer: the frame of a time, a part; walked. -/
import Derived.Test.YtekpaepkoeelfaaBuf2
namespace Go.Proofs.Ytekpaepkoeelfaa
open Go.RowKit
set_option linter.unusedVariables false
set_option linter.unusedSimpArgs false

/-- A buffer's cells; the frame at a place is lent. -/
def buL (b : Bu) (tf tp tb : Int) (i : Nat) : List CA := buG b tf tp tb (.hdl (.row 66 1 ((b.l.map fun f => [T.box (frT f)]).set i [.av .any])) i 1)
attribute [go_sem] buL
theorem isF_at {l : List Fr} {t : Nat} (h : isF l t = true) : ∃ (hi : atF l t < l.length), l[atF l t].tm = t := by
  unfold isF at h
  cases hg : l[atF l t]? with
  | none => rw [hg] at h; cases h
  | some f =>
    rw [hg] at h
    obtain ⟨h1, h2⟩ := List.getElem?_eq_some_iff.1 hg
    exact ⟨h1, by rw [h2]; exact of_decide_eq_true h⟩
theorem zs_at {α : Type} {zs : List (Nat × α)} {l : List α} (h : zs.map (·.2) = l) {i : Nat} (hi : i < l.length) : ∃ b, zs[i]? = some (b, l[i]) := by
  subst h
  have hi' : i < zs.length := by simpa using hi
  exact ⟨zs[i].1, by rw [List.getElem?_eq_getElem hi']; simp⟩
theorem rowV3 (l : List Fr) : List.map (fun x => List.map (treeV 3) x) (List.map (fun f => [T.box (frT f)]) l) = List.map (fun f => [V.ep [vu f.tm, vi f.n, vi f.t0, V.any, vi (sumP f.ps)]]) l := by rw [List.map_map]; rfl
attribute [go_sem] rowV3
/-- A place of the bag, and of the row. -/
theorem zs_set {zs : List (Nat × Fr)} {i b : Nat} {f : Fr} (h : zs[i]? = some (b, f)) :
    (zs.map fun z => (pw z.1, T.box (frT z.2)))[i]? = some (pw b, T.box (frT f)) ∧ (zs.map fun z => [V.sc (pw z.1)]).getD i [] = [V.sc (pw b)] ∧
    ((zs.map fun z => (pw z.1, T.box (frT z.2))).set i (pw b, T.av .any))[i]? = some (pw b, T.av .any) ∧
    (zs.map fun z => [V.sc (pw z.1)]) = (((zs.map fun z => (pw z.1, T.box (frT z.2))).set i (pw b, T.av .any)).map fun p => [V.sc p.1]) ∧
    ((((zs.map fun z => (pw z.1, T.box (frT z.2))).set i (pw b, T.av .any)).map fun p => [p.2]) = ((zs.map (·.2)).map fun f => [T.box (frT f)]).set i [T.av .any]) := by
  obtain ⟨hi, he⟩ := List.getElem?_eq_some_iff.1 h
  refine ⟨by rw [List.getElem?_map, h]; rfl, by rw [List.getD_eq_getElem?_getD, List.getElem?_map, h]; rfl, by simp [hi], ?_, ?_⟩
  · rw [List.map_set, List.map_map, set_self]
    · rfl
    · rw [List.getElem?_map, h]; rfl
  · rw [List.map_set, List.map_map, List.map_map]
    rfl
set_option maxRecDepth 100000 in
set_option maxHeartbeats 2000000 in
theorem buf_frame_is (b : Bu) (t : Nat) (c now : Int) (h : isF b.l t = true) (f : Fr) (hfa : b.l[atF b.l t]? = some f) (ht : t < 4294967296) (hl : b.l.length ≤ 2000) (hf : ∀ f ∈ b.l, f.Ok) (hs : b.l.Pairwise fun f g => f.tm < g.tm) :
    Spec Try.prog 23 [.ptr 0 0, .ca (.val (vu t)), .ca (.val (vi c)), .ca (.val (vi now))] [buO b] (.ptr 1 0) [buL b b.l.length (pkts b.l) (bts b.l) (atF b.l t), frO f] := by
  obtain ⟨cf, cp, cb, l, hz, pl, dr, ev⟩ := b
  dsimp only at h hfa hl hf hs ⊢
  have cs := buf_bs l t ht (by omega) hf hs
  rw [h] at cs
  generalize hI : atF l t = i at *
  obtain ⟨hi, hfi⟩ := List.getElem?_eq_some_iff.1 hfa
  refine spec_of Try.func23 rfl Try.ntmps23 Try.results23 ⟨by decide, by simp⟩ fun C hC => ?_
  (repeat' ((fail_if_success (first | refine stop_at 6 ?_ | refine stop_l 6 ?_)); (first | refine sp_ ?_ | exact ex0 | refine pcall_u Try.call39 (cs) ex1 ?_ | (refine ret_s [] ?_; simp (decide := true) (disch := omega) only [go_sem, ↓reduceIte, ↓put_at]))))
  refine spl_s (1000, 7) (90, 1) l frT 66 ⟨by simp (decide := true) (disch := omega) only [go_sem, ↓reduceIte, ↓put_at], by decide, by decide⟩ fun zs hzl => ?_
  obtain ⟨b0, hb0⟩ := zs_at hzl hi
  rw [hfi] at hb0
  obtain ⟨j1, j2, j3, j4, j5⟩ := zs_set hb0
  have hlz : zs.length = l.length := by rw [← hzl, List.length_map]
  refine opn_s hC (90, 1) 48 i [49, 37] [] (pw b0) (zs.map fun z => (pw z.1, T.box (frT z.2))) ((zs.map fun z => (pw z.1, T.box (frT z.2))).set i (pw b0, .av .any)) (frT f) j1 rfl ⟨rfl, rfl⟩ ⟨by simp (decide := true) (disch := omega) only [go_sem, ↓reduceIte, ↓put_at], ?_⟩
  (repeat' ((first | refine sp_ ?_ | exact ex0 | (refine ret_s [] ?_; simp (decide := true) (disch := omega) only [go_sem, ↓reduceIte, ↓put_at]))))
  refine ⟨⟨by omega, by rw [(List.getElem?_eq_some_iff.1 hb0).2]⟩, ?_⟩
  refine joL_s (1000, 7) (90, 1) (48, 0) i 37 (pw b0) (.av .any) 66 ((zs.map fun z => (pw z.1, T.box (frT z.2))).set i (pw b0, .av .any)) (zs.map fun z => [V.sc (pw z.1)]) ((l.map fun f => [T.box (frT f)]).set i [.av .any]) j3 j4 (by rw [j5, hzl]) ⟨by simp (decide := true) (disch := omega) only [go_sem, ↓reduceIte, ↓put_at], ?_⟩
  (repeat' ((first | refine sp_ ?_ | exact ex0 | (refine ret_s [(48, 0)] ?_; simp (decide := true) (disch := omega) only [go_sem, ↓reduceIte, ↓put_at]))))
theorem ins_mid {α : Type} (x : α) : ∀ (l : List α) (i : Nat), i ≤ l.length → l.insertIdx i x = l.take i ++ x :: l.drop i
  | l, 0, _ => by simp
  | [], i + 1, h => by simp at h
  | y :: l, i + 1, h => by simp [ins_mid x l i (by simpa using h)]
theorem mid_map {α β : Type} (g : α → β) (l : List α) (i : Nat) (x : α) : (l.take i ++ x :: l.drop i).map g = (l.map g).take i ++ g x :: (l.map g).drop i := by simp
theorem pkts_mid (l : List Fr) (i : Nat) (x : Fr) : pkts (l.take i ++ x :: l.drop i) = pkts l + x.ps.length := by
  have : pkts l = pkts (l.take i) + pkts (l.drop i) := by rw [← pkts_app, List.take_append_drop]
  rw [pkts_app, pkts, this]; omega
theorem bts_mid (l : List Fr) (i : Nat) (x : Fr) : bts (l.take i ++ x :: l.drop i) = bts l + sumP x.ps := by
  have : bts l = bts (l.take i) + bts (l.drop i) := by rw [← bts_app, List.take_append_drop]
  rw [bts_app, bts, this]; omega
set_option maxRecDepth 100000 in
set_option maxHeartbeats 4000000 in
theorem buf_frame_new (b : Bu) (t : Nat) (c now : Int) (h : isF b.l t = false) (ht : t < 4294967296) (hl : b.l.length ≤ 2000) (hf : ∀ f ∈ b.l, f.Ok) (hs : b.l.Pairwise fun f g => f.tm < g.tm) (f : Fr) (hfe : f = newF t c now) (hfo : f.Ok) (l' : List Fr) (hl' : l' = b.l.take (atF b.l t) ++ f :: b.l.drop (atF b.l t)) :
    Spec Try.prog 23 [.ptr 0 0, .ca (.val (vu t)), .ca (.val (vi c)), .ca (.val (vi now))] [buO b] (.ptr 1 0) [buL { b with l := l' } l'.length (pkts l') (bts l') (atF b.l t), frO f] := by
  obtain ⟨cf, cp, cb, l, hz, pl, dr, ev⟩ := b
  dsimp only at h hl hf hs hl' ⊢
  have cs := buf_bs l t ht (by omega) hf hs
  have cn := spl_new t c now
  have hps : f.ps = [] := by rw [hfe]; rfl
  rw [← hfe] at cn
  rw [h] at cs
  have hi := atF_le l t
  generalize hI : atF l t = i at *
  have p1 := pkts_le hf
  have p2 := bts_le hf
  have ca := fun es => buf_add ⟨cf, cp, cb, l', hz, pl, dr, ev⟩ l.length (pkts l) (bts l) es f hfo 1 (.inl rfl) (by omega) (by omega) (by omega)
  rw [hps] at ca
  have e1 : (l.length : Int) + 1 = l'.length := by rw [hl', mid_len]; omega
  have e2 : (pkts l : Int) + 1 * (([] : List (Nat × List UInt8)).length : Nat) = pkts l' := by rw [hl', pkts_mid, hps]; simp
  have e3 : (bts l : Int) + 1 * (sumP [] : Nat) = bts l' := by rw [hl', bts_mid, hps]; simp [sumP]
  simp only [e1, e2, e3] at ca
  clear e1 e2 e3
  refine spec_of Try.func23 rfl Try.ntmps23 Try.results23 ⟨by decide, by simp⟩ fun C hC => ?_
  (repeat' ((fail_if_success (first | refine stop_at 4 ?_ | refine stop_l 4 ?_)); (first | refine sp_ ?_ | exact ex0 | refine pcall_u Try.call39 (cs) ex1 ?_ | refine call_u Try.call42 (cn) [] ex1 ?_ | (refine ret_s [] ?_; simp (decide := true) (disch := omega) only [go_sem, ↓reduceIte, ↓put_at]))))
  refine spl_s (1000, 7) (90, 1) l frT 66 ⟨by simp (decide := true) (disch := omega) only [go_sem, ↓reduceIte, ↓put_at], by decide, by decide⟩ fun zs hzl => ?_
  have hlz : zs.length = l.length := by rw [← hzl, List.length_map]
  refine ins_s hC (90, 1) (26, 0) i [11] (zs.map fun z => (pw z.1, T.box (frT z.2))) (frT f) (by rw [List.length_map]; omega) rfl ⟨by simp (decide := true) (disch := omega) only [go_sem, ↓reduceIte, ↓put_at], by simp (decide := true) (disch := omega) only [go_sem, ↓reduceIte, ↓put_at], by simp (decide := true) (disch := omega) only [go_sem, ↓reduceIte, ↓put_at], by simp (decide := true) (disch := omega) only [go_sem, ↓reduceIte, ↓put_at], by simp (decide := true) (disch := omega) only [go_sem, ↓reduceIte, ↓put_at]⟩ fun b0 => ?_
  obtain ⟨zs2, hz2⟩ : ∃ zs2, zs2 = zs.take i ++ (b0, f) :: zs.drop i := ⟨_, rfl⟩
  have hins : (zs.map fun z => (pw z.1, T.box (frT z.2))).insertIdx i (pw b0, T.box (frT f)) = zs2.map fun z => (pw z.1, T.box (frT z.2)) := by
    rw [ins_mid _ _ _ (by rw [List.length_map]; omega), hz2, mid_map]
  rw [hins]
  have hb0 : zs2[i]? = some (b0, f) := by rw [hz2]; exact mid_at _ _ _ (by omega)
  have hzl2 : zs2.map (·.2) = l' := by rw [hz2, mid_map, hzl, hl']
  have hlz2 : zs2.length = l'.length := by rw [← hzl2, List.length_map]
  have hll : l'.length = l.length + 1 := by rw [hl', mid_len]
  obtain ⟨j1, j2, j3, j4, j5⟩ := zs_set hb0
  have ci := sl_ins_fr (zs.map fun z => [V.sc (pw z.1)]) [V.sc (pw b0)] i (by rw [List.length_map]; omega) (by rw [List.length_map]; omega) (fl_len (fun z => V.sc (pw z.1)) zs) (fl_pw (fun z => z.1) zs) rfl (fun y hy => by simp at hy; subst hy; rfl)
  have hins2 : (zs.map fun z => [V.sc (pw z.1)]).take i ++ [V.sc (pw b0)] :: (zs.map fun z => [V.sc (pw z.1)]).drop i = zs2.map fun z => [V.sc (pw z.1)] := by rw [hz2, mid_map]
  rw [hins2] at ci
  simp (decide := true) (disch := omega) only [go_sem, ↓reduceIte, ↓put_at]
  (repeat' ((fail_if_success (first | refine stop_at 5 ?_ | refine stop_l 5 ?_)); (first | refine sp_ ?_ | exact ex0 | refine call_u Try.call43 (ci) [] ex1 ?_ | (refine ret_s [] ?_; simp (decide := true) (disch := omega) only [go_sem, ↓reduceIte, ↓put_at]))))
  refine opn_s hC (90, 1) 48 i [49, 37] [11] (pw b0) (zs2.map fun z => (pw z.1, T.box (frT z.2))) ((zs2.map fun z => (pw z.1, T.box (frT z.2))).set i (pw b0, .av .any)) (frT f) j1 rfl ⟨rfl, rfl⟩ ⟨by simp (decide := true) (disch := omega) only [go_sem, ↓reduceIte, ↓put_at], ?_⟩
  (repeat' ((first | refine sp_ ?_ | exact ex0 | refine call_u Try.call24 ((ca (zs2.map fun z => [V.sc (pw z.1)]))) [(1000, 0), (48, 0)] ex1 ?_ | (refine ret_s [] ?_; simp (decide := true) (disch := omega) only [go_sem, ↓reduceIte, ↓put_at]))))
  refine ⟨⟨by omega, by rw [(List.getElem?_eq_some_iff.1 hb0).2]⟩, ?_⟩
  refine joL_s (1000, 7) (90, 1) (48, 0) i 37 (pw b0) (.av .any) 66 ((zs2.map fun z => (pw z.1, T.box (frT z.2))).set i (pw b0, .av .any)) (zs2.map fun z => [V.sc (pw z.1)]) ((l'.map fun f => [T.box (frT f)]).set i [.av .any]) j3 j4 (by rw [j5, hzl2]) ⟨by simp (decide := true) (disch := omega) only [go_sem, ↓reduceIte, ↓put_at], ?_⟩
  (repeat' ((first | refine sp_ ?_ | exact ex0 | (refine ret_s [(48, 0)] ?_; simp (decide := true) (disch := omega) only [go_sem, ↓reduceIte, ↓put_at]))))
end Go.Proofs.Ytekpaepkoeelfaa
