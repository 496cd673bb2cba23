
/- A call whose result is one of several. -/
import Derived.Test.YtekpaepkoeelfaaRU
namespace Go.Proofs.Ytekpaepkoeelfaa
open Go.RowKit
set_option linter.unusedVariables false
set_option linter.unusedSimpArgs false

/-- Function K, given these arguments, and objects with these contents, returns one of these, and leaves the objects so; further objects are new. -/
def SpecE {α : Type} (P : Program) (K : FuncId) (args : List Arg) (objs : List (List CA)) (ok : α → Prop) (res : α → Arg) (objs' : α → List (List CA)) : Prop :=
  ∀ m w vals bs F G, Holds m w vals args objs bs F G → Calls P K vals.toArray w fun e w' => ∃ x, ok x ∧ ∃ (v : Value) (m' : Mem) (bs' F' G' : List Nat), e = .returned v ∧ Holds m' w' [v] [res x] (objs' x) bs' F' G' ∧ m.le m' ∧
    Chg (fun b => b ∈ F ++ G) w w' ∧ (∀ (i b : Nat), bs[i]? = some b → bs'[i]? = some b) ∧ (∀ (b i : Nat), b < w.heap.size → b ∉ F ++ G → m' b i = m b i) ∧ ∀ b ∈ F' ++ G', b ∈ F ++ G ∨ w.heap.size ≤ b
section
variable {P : Program} {ops : Array Oper} {C : Ctx} {σ : St}
theorem alt_call {α : Type} {d : Tmp} {K : FuncId} (hK : ∀ args w, (callFunc K args).run P w = .ok (.enter K args) w) {xs : List Operand} {tys : Array TypeId} {args : List Arg} {objs : List (List CA)} {ok : α → Prop} {objs' : α → List (List CA)} {res : α → Arg} (hspec : SpecE P K args objs ok res objs')
    (ids : List Id) {ts1 ts2 : List Ho} (h1 : MArgs σ ids (xs.map (ev σ)) args ts1) (h2 : MObjs σ ids ids objs ts2) (hn : (ts1 ++ ts2).Nodup) (hi : ∀ x, NamesOk d ids (objs' x)) (hlen : ∀ x, (objs' x).length = objs.length ∨ (objs' x).length = objs.length + 1)
    (x0 : α) {LL : List Pl} (hL : ∀ x, callL d xs ids (ts1 ++ ts2) objs (objs' x) = LL) (ty : TypeId) (pos : String) (af : Array Edge) :
    OpAlt P ops C ⟨some d, .call { callee := .value (.func K), args := xs.toArray, argTypes := tys }, ty, pos, af, none⟩ (rds σ LL) (fun W => ∃ x, ok x ∧ W = callW σ d ids (ts1 ++ ts2) (objs' x) (res x)) := by
  intro E σ' a w Kt Q hd hr hg hK'
  have hrL := rds_all hr
  have hr := hrL
  rw [← hL x0] at hr
  have hd0 := hd d rfl
  obtain ⟨hr1, hrest⟩ := mem_l hr
  obtain ⟨hr2, hrest⟩ := mem_l hrest
  obtain ⟨hr3, hr4⟩ := mem_l hrest
  have o1 : objs.length = ids.length := by
    have : ∀ {all ids : List Id} {objs : List (List CA)} {ts : List Ho}, MObjs σ all ids objs ts → objs.length = ids.length := by
      intro all ids objs ts h
      induction h <;> simp_all
    exact this h2
  have hids : ∀ o ∈ ids, σ' (.g o) = σ (.g o) := fun o ho => hr3 _ (objsL_mem (by omega) ho)
  have ht2 : ∀ l ∈ toksL ts1, σ' l = σ l := fun l hl => hr2 l (by rw [toksL_append]; exact List.mem_append_left _ hl)
  have ht3 : ∀ l ∈ toksL ts2, σ' l = σ l := fun l hl => hr2 l (by rw [toksL_append]; exact List.mem_append_right _ hl)
  have h2' := h2.congr ht3 hids hr3
  have h1' := h1.congr ht2 hids
  rw [← evs_congr hr1] at h1'
  have hrun : (execOp a.eval ⟨some d, .call { callee := .value (.func K), args := xs.toArray, argTypes := tys }, ty, pos, af, none⟩).run P w = .ok (.enter K (xs.map a.eval).toArray) w := by simp [execOp, resolve, Act.eval, Deferred.ofValue, invoke, hK]
  clear hr hrest hr1 hr2 hr3 hr4 h1 h2 ht2 ht3 hids
  obtain ⟨_, F, G, hH, hOw⟩ := holds_of hg h1' h2' (xs.map a.eval) (by simp) (fun j x v q1 q2 => by
    have hj : j < xs.length := by have := (List.getElem?_eq_some_iff.1 q1).1; simpa using this
    rw [List.getElem?_map, List.getElem?_eq_getElem hj] at q1 q2
    cases q1; cases q2; exact ev_ok hg _) hn
  obtain ⟨bs, hbs⟩ : ∃ bs, bs = ids.map E.loc := ⟨_, rfl⟩
  rw [← hbs] at hH
  have hbs_at : ∀ (i : Nat) (o : Id), ids[i]? = some o → bs[i]? = some (E.loc o) := fun i o h => by rw [hbs, List.getElem?_map, h]; rfl
  have hcall := hspec E.m w (xs.map a.eval) bs F G hH
  rw [if_pos (by simp [Region.wanted])]
  show Oper.upon _ _ _ _ _ _
  rw [hrun]
  show Calls _ _ _ _ _
  refine hcall.mono ?_
  rintro e w' ⟨x, hox, v, m', bs', F', G', rfl, hH', hmle, hchg, hbs', hmk, hnew⟩
  have hlen := hlen x
  obtain ⟨hi1, hi2, hi3, hi4⟩ := hi x
  have hK2 : ∀ a' w' E', Gm C E' (puts σ' (callW σ' d ids (ts1 ++ ts2) (objs' x) (res x))) a' w' → Kt a' w' := fun a' w' E' g => hK' _ a' w' E' ⟨x, hox, rfl⟩ (by
    rw [callW_congr (xs := xs) (objs := objs) (by omega) (fun l hl => hrL l (by rw [hL x] at hl; exact hl))] at g
    exact g)
  show Kt (a.put (some d) v) w'
  generalize objs' x = objsx at *
  generalize res x = resx at *
  obtain ⟨d1, d2, d3, d3', d3'', d4, d5, d5', d6⟩ := dropW_at (σ := σ') (ts1 ++ ts2)
  obtain ⟨σ1, hσ1⟩ : ∃ s, s = puts σ' (dropW σ' (ts1 ++ ts2)) := ⟨_, rfl⟩
  rw [← hσ1] at d1 d2 d3 d3' d3'' d4 d5 d5' d6
  have dI : ∀ o k g s, σ1 (.o o) = .itr k g s → σ' (.o o) = .itr k g s := fun o k g s h => dropW_itr (ts1 ++ ts2) o k g s (by rw [← hσ1]; exact h)
  obtain ⟨g1, mo1, l1⟩ := hg.drop σ1 d1 d2 d3 (fun o n h => (d4 o n h).1) (fun k e sz T h => (d5 k e sz T h).1) d6 (fun k x h => (d5' k x h).1) (fun k i y h => by rw [← d3'']; exact h) d3' (fun o k g s h => dI o k g s h)
  have hD : ∀ b ∈ F ++ G, C.D b ∨ C.w0.heap.size ≤ b := fun b hb => by
    obtain ⟨t, _, hh⟩ := hOw b hb
    exact (hg.ho_dd hh).2
  have hfar : ∀ b, LiveB E σ1 b → b ∉ F ++ G := fun b ⟨t, ht⟩ hb => by
    obtain ⟨t', ht', hh⟩ := hOw b hb
    have := hg.ho_inj (l1 t b ht) hh
    subst this
    cases t with
    | o i => obtain ⟨n, q1, _⟩ := ht; exact (d4 i n q1).2 ht'
    | k i => obtain ⟨e, s, T, q1, _⟩ := ht; exact (d5 i e s T q1).2 ht'
    | r i => obtain ⟨x, q1, _⟩ := ht; exact (d5' i x q1).2 ht'
  have g2 := g1.turn (fun b => b ∈ F ++ G) w' m' hchg hmle hH'.ms hD hfar (fun b mb n bs l h1 hb => by
    obtain ⟨t, _, hh⟩ := hOw b hb
    exact hg.ho_noIt hh _ _ _ _ h1) hmk
  obtain ⟨E2, hE2⟩ : ∃ E2 : Env, E2 = { E with m := m' } := ⟨_, rfl⟩
  rw [← hE2] at g2
  have e2m : E2.m = m' := by rw [hE2]
  have e2l : ∀ o, E2.loc o = E.loc o := fun o => by rw [hE2]
  have e2L : ∀ b, LiveB E2 σ1 b → LiveB E σ1 b := fun b ⟨t, h⟩ => ⟨t, by rw [hE2] at h; cases t <;> exact h⟩
  have hltw : ∀ b, LiveB E σ1 b → b < w.heap.size := fun b ⟨t, ht⟩ => (g1.ho_dd ht).1
  have hnotL : ∀ b ∈ F' ++ G', ¬ LiveB E2 σ1 b := fun b hb hL => by
    have hL := e2L b hL
    rcases hnew b hb with r | r
    · exact hfar b hL r
    · have := hltw b hL; omega
  have hD' : ∀ b ∈ F' ++ G', C.D b ∨ C.w0.heap.size ≤ b := fun b hb => by
    rcases hnew b hb with r | r
    · exact hD b r
    · have := hg.fr.size; exact .inr (by omega)
  have hbl' : bs'.length = objsx.length := hH'.ob.len
  have hloc2 : ∀ (ob : Nat) (o' : Id) (b : Nat), ids[ob]? = some o' → bs'[ob]? = some b → E2.loc o' = b := fun ob o' b q1 q2 => by
    have := hbs' ob _ (hbs_at ob o' q1)
    rw [q2] at this
    cases this
    exact e2l o'
  obtain ⟨G1, G2, s1, s2, s3, s4⟩ := hH'.ob.split ids.length
  -- a new object
  obtain ⟨fr, hfr⟩ : ∃ l, l = objsx.drop ids.length := ⟨_, rfl⟩
  have hfresh : ∃ E3 σ2, σ2 = puts σ1 (freshW σ1 ids d fr) ∧ Gm C E3 σ2 a w' ∧ Mo E2 σ1 E3 σ2 ∧ E3.m = m' ∧ (∀ o' ∈ ids, E3.loc o' = E2.loc o' ∧ gg σ2 o' = gg σ1 o') ∧ (∀ b, LiveB E3 σ2 b → LiveB E2 σ1 b ∨ b ∈ G2) ∧
      (∀ o' ∈ freshIds d fr, ∀ b, bs'[ids.length]? = some b → E3.loc o' = b ∧ ∀ off, RdA E3 σ2 (.ptr o' (gg σ2 o') off) (.pointer (some ⟨b, off, none⟩))) := by
    rcases hlen with hl | hl
    · have hdrop : fr = [] := by rw [hfr]; exact List.drop_eq_nil_of_le (by omega)
      refine ⟨E2, σ1, by rw [hdrop]; rfl, g2, Mo.same (fun _ => rfl) (fun _ => rfl) (fun _ => rfl) (fun _ => rfl), e2m, fun _ _ => ⟨rfl, rfl⟩, fun b h => .inl h, fun o' h => by rw [hdrop] at h; cases h⟩
    · have hlt : ids.length < objsx.length := by omega
      have hdrop : fr = objsx[ids.length] :: objsx.drop (ids.length + 1) := by rw [hfr]; exact List.drop_eq_getElem_cons hlt
      have hbdrop : bs'.drop ids.length = bs'[ids.length]'(by omega) :: bs'.drop (ids.length + 1) := List.drop_eq_getElem_cons (by omega)
      rw [← hfr, hdrop, hbdrop] at s2
      have hbat : bs'[ids.length]? = some (bs'[ids.length]'(by omega)) := by simp [hbl', hlt]
      generalize bs'[ids.length]'(by omega) = b0 at s2 hbat
      generalize objsx[ids.length] = cs at s2 hdrop
      cases s2 with
      | @cons _ _ vs ty F0 _ _ F1 p1 p2 p3 p4 p5 p6 =>
        have hG2 : ∀ b ∈ b0 :: F0, b ∈ F' ++ G' := fun b hb => List.mem_append_right _ (s4 b (.inr (List.mem_append_left _ hb)))
        have hk0 : ∀ k ∈ kidsOf (d, 0) 0 cs, k ∉ ids ∧ k ≠ (d, 0) := fun k hk => ⟨hi3 k (by rw [← hfr, hdrop]; exact hk), fun e => kidsOf_ne _ _ _ k hk (by rw [e])⟩
        obtain ⟨E3, f1, f2, f3, f4, f5, f6, f7, f8⟩ := objGain_ok g2 ids bs' hloc2 (d, 0) (gg σ1 (d, 0) + 1) b0 (.inr ⟨by omega, C.np d hd0, rfl⟩) ty cs vs F0 hk0 p1 (fun k => by rw [e2m]; exact p2 k) (by rw [e2m]; exact p3) p4
          (fun b hb => ⟨hD' b (hG2 b hb), hnotL b (hG2 b hb)⟩)
        refine ⟨E3, _, by rw [hdrop]; rfl, f1, f2, by rw [f3, e2m], fun o' ho' => f4 o' (fun h => (hk0 o' h).1 ho') (fun e => hi2 (d, 0) (by rw [← hfr, hdrop]; simp [freshIds]) (e ▸ ho')), fun b hL => ?_, fun o' ho' b hb => ?_⟩
        · rcases f7 b hL with r | r
          · exact .inl r
          · exact .inr (List.mem_append_left _ r)
        · rw [hdrop] at ho'
          simp [freshIds] at ho'
          subst ho'
          rw [hbat] at hb
          cases hb
          exact ⟨f5, fun off => by rw [f6]; exact f8 off⟩
  obtain ⟨E3, σ2, hσ2, g3, mo3, em3, hsame3, eL3, hnewo⟩ := hfresh
  obtain ⟨all, hall⟩ : ∃ l, l = ids ++ freshIds d fr := ⟨_, rfl⟩
  have hfrl : (freshIds d fr).length ≤ 1 := by cases fr <;> simp [freshIds]
  have hloc3 : ∀ (ob : Nat) (o' : Id) (b : Nat), all[ob]? = some o' → bs'[ob]? = some b → E3.loc o' = b := fun ob o' b q1 q2 => by
    rw [hall] at q1
    rcases Nat.lt_or_ge ob ids.length with hl | hl
    · rw [List.getElem?_append_left hl] at q1
      rw [(hsame3 o' (List.mem_of_getElem? q1)).1]; exact hloc2 ob o' b q1 q2
    · rw [List.getElem?_append_right hl] at q1
      have hob : ob = ids.length := by have := (List.getElem?_eq_some_iff.1 q1).1; omega
      subst hob
      exact (hnewo o' (List.mem_of_getElem? q1) b q2).1
  obtain ⟨E4, g4, mo4, em4, hsame4, eL4⟩ := objsW_ok all bs' ids (objsx.take ids.length) (bs'.take ids.length) G1 E3 σ2 g3 (by rw [em3]; exact s1) (by rw [List.length_take]; omega) hi1 (fun o h => by rw [hall]; exact List.mem_append_left _ h) hloc3
    (fun i o b q1 q2 => by
      rw [List.getElem?_take] at q2
      split at q2
      · rw [(hsame3 o (List.mem_of_getElem? q1)).1]; exact hloc2 i o b q1 q2
      · cases q2)
    (fun k hk => by rw [kidsAll_take] at hk; rw [hall, hfr]; exact hi4 k hk)
    (fun b hb => ⟨hD' b (List.mem_append_right _ (s4 b (.inl hb))), fun hL => by
      rcases eL3 b hL with r | r
      · exact hnotL b (List.mem_append_right _ (s4 b (.inl hb))) r
      · exact s3 b hb r⟩)
  rw [objsW_take] at g4 mo4 hsame4 eL4
  obtain ⟨σ3, hσ3⟩ : ∃ s, s = puts σ2 (objsW all σ2 ids objsx) := ⟨_, rfl⟩
  rw [← hσ3] at g4 mo4 hsame4 eL4
  have hF' : ∀ b ∈ F', ¬ LiveB E4 σ3 b := fun b hb hL => by
    have hG : b ∈ G' → False := fun h => hH'.di b hb h
    rcases eL4 b hL with r | r
    · rcases eL3 b r with r | r
      · exact hnotL b (List.mem_append_left _ hb) r
      · exact hG (s4 b (.inr r))
    · exact hG (s4 b (.inl r))
  -- the result
  have hres := hH'.ar
  cases hres with
  | @cons _ _ F0 _ _ F1 q1 q2 q3 =>
    cases q2
    simp only [List.append_nil] at hF' hD' hnew hnotL
    have hptr : ∀ i off b, bs'[i]? = some b → RdP E4 σ3 (resPtr σ3 d ids i off) (.pointer (some ⟨b, off, none⟩)) := fun i off b q4 => by
      by_cases hil : i < ids.length
      · have q5 : ids[i]? = some ids[i] := by simp [hil]
        simp only [resPtr, q5]
        have hm : ids[i] ∈ all := by rw [hall]; exact List.mem_append_left _ (List.getElem_mem hil)
        refine ⟨Nat.le_refl _, fun _ => ?_⟩
        rw [(hsame4 _ hm).1, hloc3 i ids[i] b (by rw [hall, List.getElem?_append_left hil]; exact q5) q4]
      · have hlt := (List.getElem?_eq_some_iff.1 q4).1
        have hie : i = ids.length := by omega
        subst hie
        have hnone : ids[ids.length]? = none := List.getElem?_eq_none (Nat.le_refl _)
        simp only [resPtr, hnone]
        have hfm : (d, 0) ∈ freshIds d fr := by
          have : fr ≠ [] := by rw [hfr]; intro h; have := congrArg List.length h; simp at this; omega
          cases hc : fr with
          | nil => exact absurd hc this
          | cons => simp [freshIds]
        have h5 := (hnewo _ hfm b q4).2 off
        have h6 := (hsame4 (d, 0) (by rw [hall]; exact List.mem_append_right _ hfm)).2
        rw [h6]
        exact h5.mo mo4
    have hrow : ∃ E5 σ4, σ4 = puts σ3 (resRow σ3 d resx) ∧ Gm C E5 σ4 a w' ∧ Mo E4 σ3 E5 σ4 ∧ RdA E5 σ4 (resAV σ3 σ3 d ids resx) v := by
      have triv : resRow σ3 d resx = [] → RdA E4 σ3 (resAV σ3 σ3 d ids resx) v → ∃ E5 σ4, σ4 = puts σ3 (resRow σ3 d resx) ∧ Gm C E5 σ4 a w' ∧ Mo E4 σ3 E5 σ4 ∧ RdA E5 σ4 (resAV σ3 σ3 d ids resx) v := fun h1 h2 =>
        ⟨E4, σ3, by rw [h1]; rfl, g4, Mo.same (fun _ => rfl) (fun _ => rfl) (fun _ => rfl) (fun _ => rfl), h2⟩
      cases resx with
      | ca c =>
        cases c with
        | val y => exact triv rfl (by show Rd E4.m y v; rw [em4, em3]; exact q1.1)
        | own e sz es =>
          obtain ⟨⟨p1, ys, p2, p3⟩, rfl⟩ := q1
          obtain ⟨E5, f1, f2, f3, f4, f5, f6⟩ := g4.gainRow (d, 0) (gq σ3 (d, 0) + 1) (by omega) e sz es.length v ys p2 (fun b hb => ⟨fun i => by rw [em4, em3]; exact p3 b hb i, hD' b (List.mem_append_left _ (by simpa using hb)), hF' b (by simpa using hb)⟩)
          exact ⟨E5, _, rfl, f1, f2, f6 es rfl (by rw [em4, em3]; exact p1)⟩
        | hd x =>
          obtain ⟨p1, p2⟩ := q1
          obtain ⟨E5, f1, f2, f3, f4, f5, f6⟩ := g4.gainTree (d, 1) x v F0 p2 (by rw [em4, em3]; exact p1) (fun b hb => ⟨hD' b (List.mem_append_left _ hb), hF' b hb⟩) (by simp)
          exact ⟨E5, _, rfl, f1, f2, f6.toA⟩
        | hdl x i ob => exact triv rfl (Rd.any _)
      | ptr i off =>
        obtain ⟨⟨b, q4, rfl⟩, rfl⟩ := q1
        exact triv rfl (hptr i off b q4).toA
      | fn K cs =>
        obtain ⟨⟨ys, rfl, q4, q5⟩, rfl⟩ := q1
        refine triv rfl ⟨ys, rfl, by simpa using q4, fun i h1 h2 => ?_⟩
        have hic : i < cs.length := by simpa using h1
        have := q5 i cs[i] ys[i] (by simp [hic]) (by simp [h2])
        rw [List.getElem_map]
        generalize cs[i] = c at this ⊢
        generalize ys[i] = y at this ⊢
        cases c with
        | val x => show Rd E4.m x y; rw [em4, em3]; exact this
        | ptr i off =>
          obtain ⟨b, q6, rfl⟩ := this
          exact hptr i off b q6
    obtain ⟨E5, σ4, hσ4, g5, mo5, hAV⟩ := hrow
    have hfin : puts σ' (callW σ' d ids (ts1 ++ ts2) objsx resx) = put σ4 (.s d) (.av (resAV σ3 σ3 d ids resx)) := by
      have e1 : puts σ' (callM σ' d ids (ts1 ++ ts2) objsx) = σ3 := by
        simp only [callM, puts_append]
        rw [← hσ1, ← hfr, ← hall, ← hσ2, ← hσ3]
      unfold callW
      simp only [puts_append]
      rw [e1, ← hσ4]
      rfl
    refine hK2 _ _ E5 ?_
    rw [hfin]
    exact g5.slot d _ v hd0 hAV
end
section
variable {P : Program} {ops : Array Oper} {C : Ctx} {σ : St} {K : St → List FP → Prop} {acc : List FP} {rest : List Oper}
/-- A call whose result is one of several: what follows is shown for each. -/
theorem callE_u {α : Type} {d : Tmp} {F : FuncId} (hK : ∀ args w, (callFunc F args).run P w = .ok (.enter F args) w) {xs : List Operand} {tys : Array TypeId} {args : List Arg} {objs : List (List CA)} {ok : α → Prop} {objs' : α → List (List CA)} {res : α → Arg} {ty : TypeId} {pos : String} {af : Array Edge}
    (hspec : SpecE P F args objs ok res objs') (ids : List Id) (x0 : α)
    (h : mArgs σ ids (xs.map (ev σ)) args ∧ mObjs σ ids ids objs ∧ (tokArgs (xs.map (ev σ)) args ++ tokObjs σ ids objs).Nodup)
    (k : ∀ x, ok x → exec P ops C true K rest (puts σ (callW σ d ids (tokArgs (xs.map (ev σ)) args ++ tokObjs σ ids objs) (objs' x) (res x))) ((callL d xs ids (tokArgs (xs.map (ev σ)) args ++ tokObjs σ ids objs) objs (objs' x0), locs (callW σ d ids (tokArgs (xs.map (ev σ)) args ++ tokObjs σ ids objs) (objs' x) (res x))) :: acc))
    (hL : ∀ x, callL d xs ids (tokArgs (xs.map (ev σ)) args ++ tokObjs σ ids objs) objs (objs' x) = callL d xs ids (tokArgs (xs.map (ev σ)) args ++ tokObjs σ ids objs) objs (objs' x0) := by intro x; rfl) (hn : ∀ x, namesB d ids (objs' x) = true := by intro x; kernel_rfl) (hl : ∀ x, lenB objs.length (objs' x).length = true := by intro x; kernel_rfl) :
    Run P ops C true K (⟨some d, .call { callee := .value (.func F), args := xs.toArray, argTypes := tys }, ty, pos, af, none⟩ :: rest) σ acc :=
  .alt rfl (alt_call hK hspec ids (mArgs_ok h.1) (mObjs_ok h.2.1) h.2.2 (fun x => namesB_ok (hn x)) (fun x => lenB_ok (hl x)) x0 hL ty pos af) (fun W hW => by
    obtain ⟨x, hx, rfl⟩ := hW
    exact exec_run (k x hx))
end
section
variable {P : Program} {ops : Array Oper} {C : Ctx} {E : Env} {σ : St} {a : Act} {w : World}
def retQE {α : Type} (P : Program) (rs : List ResultVar) (n : Nat) (ok : α → Prop) (res : α → Arg) (objs' : α → List (List CA)) : Exit → St → Prop
  | .ret, σ => ∃ y, ok y ∧ RetOk P σ rs n (res y) (objs' y)
  | .normal, σ => ∃ y, ok y ∧ RetOk P σ rs n (res y) (objs' y)
  | _, _ => False
theorem spec_introE {α : Type} {K : FuncId} {fn : Func} {c : Code} (hf : P.funcs[K]? = some fn) (hb : fn.body = some c) {args : List Arg} {objs : List (List CA)} {ok : α → Prop} {res : α → Arg} {objs' : α → List (List CA)} (hn : fn.ntmps ≤ 1000 ∧ args.length ≤ fn.ntmps)
    (h : ∀ C : Ctx, C.nt = fn.ntmps → AW P C c (init args objs) (retQE P fn.results.toList objs.length ok res objs')) : SpecE P K args objs ok res objs' := by
  intro m w vals bs F G hH
  have hvl := hH.ar.len
  have hbl := hH.ob.len
  obtain ⟨C, hC⟩ : ∃ C : Ctx, C = { nt := fn.ntmps, w0 := w, D := fun b => b ∈ F ++ G, pins := fun o => if 1000 ≤ o.1 ∧ o.2 = 0 then bs[o.1 - 1000]? else none, m0 := m, np := fun d hd => by rw [if_neg]; simp; omega, nq := fun k hk => by rw [if_neg]; intro h; exact hk h.2 } := ⟨_, rfl⟩
  have c1 : C.nt = fn.ntmps := by rw [hC]
  have c2 : C.w0 = w := by rw [hC]
  have c3 : ∀ b, C.D b ↔ b ∈ F ++ G := fun b => by rw [hC]
  have c4 : ∀ o, C.pins o = if 1000 ≤ o.1 ∧ o.2 = 0 then bs[o.1 - 1000]? else none := fun o => by rw [hC]
  have c5 : C.m0 = m := by rw [hC]
  clear hC
  obtain ⟨E, hE⟩ : ∃ E : Env, E = { m := m, loc := fun o => if 1000 ≤ o.1 ∧ o.2 = 0 then bs.getD (o.1 - 1000) 0 else 0, rv := fun _ => undef, rx := fun _ => [], bv := fun _ => undef, bf := fun _ => [] } := ⟨_, rfl⟩
  have e1 : E.m = m := by rw [hE]
  have e2 : ∀ (i b : Nat), bs[i]? = some b → E.loc (1000 + i, 0) = b := fun i b hb => by rw [hE]; simp [hb]
  have e3 : ∀ o, E.loc o = if 1000 ≤ o.1 ∧ o.2 = 0 then bs.getD (o.1 - 1000) 0 else 0 := fun o => by rw [hE]
  clear hE
  have nob : ∀ (b : Nat), ¬ LiveB E base b := fun b ⟨t, ht⟩ => by
    cases t with
    | o i => obtain ⟨n, h1, _⟩ := ht; cases h1
    | k i => obtain ⟨e, s, T, h1, _⟩ := ht; cases h1
    | r i => obtain ⟨y, h1, _⟩ := ht; cases h1
  have hG0 : Gm C E base { tmps := vals.toArray ++ Array.replicate (fn.ntmps - vals.toArray.size) undef, defers := [] } w := by
    refine ⟨by simp [c1]; omega, rfl, by rw [e1]; exact hH.ms, by rw [c2]; exact Chg.refl _ _, fun t x hx => (by cases hx), fun o i x n h1 _ _ => (by cases h1), fun o n h1 => (by cases h1), fun k e s T h1 => (by cases h1), fun o o' n n' h1 _ _ => (by cases h1), fun k k' e s T e' s' T' b h1 _ _ _ => (by cases h1), fun o n k e s T h1 _ _ => (by cases h1), fun o b h1 => ?_, by rw [c5, e1]; exact Mem.le_refl _, fun b i _ _ => by rw [c5, e1],
      ⟨fun k x h1 => (by cases h1), fun k x b h1 _ => (by cases h1), fun k xs h1 => (by cases h1), fun k k' x x' b h1 _ _ _ => (by cases h1), fun o n k x h1 _ _ => (by cases h1), fun k' e s T k x b h1 _ _ _ => (by cases h1), fun k x i y h1 _ => (by cases h1), fun o k g s h1 => (by cases h1), fun o o' k g s k' g' s' h1 _ _ => (by cases h1)⟩⟩
    rw [c4] at h1
    rw [e3]
    split at h1
    · rename_i hpq; rw [if_pos hpq]; simp [h1]
    · cases h1
  have hD : ∀ b ∈ F ++ G, C.D b ∨ C.w0.heap.size ≤ b := fun b hb => .inl ((c3 b).2 hb)
  have hpl : ∀ (i : Nat) (o : Id) (b : Nat), (pids 0 objs.length)[i]? = some o → bs[i]? = some b → E.loc o = b := fun i o b h1 h2 => by
    rw [pids_at] at h1
    split at h1
    · cases h1; rw [Nat.zero_add]; exact e2 i b h2
    · cases h1
  obtain ⟨E1, g1, _, g3, g4, g5⟩ := objsW_ok (C := C) (pids 0 objs.length) bs (pids 0 objs.length) objs bs G E base hG0 (by rw [e1]; exact hH.ob) (pids_length _ _) (pids_nodup _) (fun o h => h) hpl hpl
    (fun k hk hk' => by
      have hne : ∀ (ids : List Id) (objs : List (List CA)), ∀ k ∈ kidsAll ids objs, k.2 ≠ 0 := by
        intro ids
        induction ids with
        | nil => intro objs k h; cases h
        | cons o ids ih =>
          intro objs k h
          cases objs with
          | nil => cases h
          | cons cs objs =>
            rcases List.mem_append.1 h with h | h
            · exact kidsOf_ne _ _ _ _ h
            · exact ih _ _ h
      obtain ⟨i, _, rfl⟩ := pids_mem hk'
      exact hne _ _ _ hk rfl)
    (fun b hb => ⟨hD b (List.mem_append_right _ hb), nob b⟩)
  obtain ⟨E2, g6⟩ := args_ok (C := C) (a := { tmps := vals.toArray ++ Array.replicate (fn.ntmps - vals.toArray.size) undef, defers := [] }) bs args vals F 0 E1 _ g1 (by rw [g3, e1]; exact hH.ar)
    (fun j v hj => by
      have hjl := (List.getElem?_eq_some_iff.1 hj).1
      refine ⟨by rw [c1]; omega, ?_⟩
      rw [Nat.zero_add]
      obtain ⟨_, rfl⟩ := List.getElem?_eq_some_iff.1 hj
      simp [Array.getD_eq_getD_getElem?, Array.getElem?_append, hjl]) (by omega)
    (fun i b hi => by
      have hil : i < objs.length := by have := (List.getElem?_eq_some_iff.1 hi).1; omega
      rw [(g4 (1000 + i, 0) (List.mem_of_getElem? (i := i) (by rw [pids_at, if_pos hil, Nat.zero_add]))).1]; exact e2 i b hi)
    (fun b hb => ⟨hD b (List.mem_append_left _ hb), fun hL => by
      rcases g5 b hL with h1 | h1
      · exact nob b h1
      · exact hH.di b hb h1⟩)
  have hG : Gm C E2 (init args objs) { tmps := vals.toArray ++ Array.replicate (fn.ntmps - vals.toArray.size) undef, defers := [] } w := by
    unfold init initW; rw [puts_append]; exact g6
  clear g6 g5 g4 g3 g1
  have hwp := h C c1 E2 _ w hG
  refine calls_of_wp hf hb (Code.wp_mono (fun e a' w' hq => ?_) hwp)
  obtain ⟨E', σ', hq, hG'⟩ := hq
  have main : (∃ y, ok y ∧ RetOk P σ' fn.results.toList objs.length (res y) (objs' y)) → a'.defers = [] ∧ ∃ v, (results fn a'.tmps).run P w' = .ok v w' ∧ ∃ y, ok y ∧ ∃ (v' : Value) (m' : Mem) (bs' F' G' : List Nat), Ending.returned v = .returned v' ∧ Holds m' w' [v'] [res y] (objs' y) bs' F' G' ∧ m.le m' ∧
      Chg (fun b => b ∈ F ++ G) w w' ∧ (∀ (i b : Nat), bs[i]? = some b → bs'[i]? = some b) ∧ (∀ (b i : Nat), b < w.heap.size → b ∉ F ++ G → m' b i = m b i) ∧ ∀ b ∈ F' ++ G', b ∈ F ++ G ∨ w.heap.size ≤ b := by
    rintro ⟨y0, hy0, x, fresh, ts1, ts2, hr, hma, hmo, hnd⟩
    obtain ⟨v, hv, hrv'⟩ := resL_run hG' hr
    obtain ⟨_, F', G', hH', hOw⟩ := holds_of hG' hma hmo [v] rfl (fun j y u q1 q2 => by
      cases j with
      | zero => simp at q1 q2; subst q1; subst q2; exact hrv'
      | succ j => simp at q1) hnd
    refine ⟨hG'.df, v, hv, y0, hy0, v, E'.m, _, F', G', rfl, hH', by have := hG'.ml; rwa [c5] at this, ?_, fun i b hb => ?_, fun b i hb hn => ?_, fun b hb => ?_⟩
    · have := hG'.fr
      rw [c2] at this
      exact this.mono fun i _ hi => (c3 i).1 hi
    · have hil : i < objs.length := by have := (List.getElem?_eq_some_iff.1 hb).1; omega
      rw [List.getElem?_map, List.getElem?_append_left (by rw [pids_length]; exact hil), pids_at, if_pos hil]
      simp only [Option.map_some, Nat.zero_add, Option.some.injEq]
      exact hG'.pi (1000 + i, 0) b (by rw [c4]; simp [hb])
    · have := hG'.mx b i (by rw [c2]; exact hb) (by rw [c3]; exact hn)
      rw [this, c5]
    · obtain ⟨t, _, ht⟩ := hOw b hb
      have := (hG'.ho_dd ht).2
      rwa [c3, c2] at this
  cases e with
  | ret => exact main hq
  | normal => exact main hq
  | exit i => exact hq.elim
  | goto l => exact hq.elim
  | panic ch => exact hq.elim
  | outgrown => exact hq.elim
theorem spec_ofE {α : Type} {K : FuncId} {fn : Func} {c : Code} {nt : Nat} {rs : List ResultVar} (hf : P.funcs[K]? = some fn) (hb : fn.body = some c) (hnt : fn.ntmps = nt) (hr : fn.results = rs.toArray) {args : List Arg} {objs : List (List CA)} {ok : α → Prop} {res : α → Arg} {objs' : α → List (List CA)} (hn : nt ≤ 1000 ∧ args.length ≤ nt)
    (h : ∀ C : Ctx, C.nt = nt → AW P C c (init args objs) (retQE P rs objs.length ok res objs')) : SpecE P K args objs ok res objs' := by
  subst hnt
  refine spec_introE hf hb hn fun C hC => ?_
  rw [hr]
  exact h C hC
theorem retQE_r {α : Type} {rs : List ResultVar} {n : Nat} {ok : α → Prop} {res : α → Arg} {objs : α → List (List CA)} : retQE P rs n ok res objs .ret σ = ∃ y, ok y ∧ RetOk P σ rs n (res y) (objs y) := rfl
theorem retQE_n {α : Type} {rs : List ResultVar} {n : Nat} {ok : α → Prop} {res : α → Arg} {objs : α → List (List CA)} : retQE P rs n ok res objs .normal σ = ∃ y, ok y ∧ RetOk P σ rs n (res y) (objs y) := rfl
attribute [go_sem] retQE_r retQE_n
end
end Go.Proofs.Ytekpaepkoeelfaa
