
/- The step of a call is sound. -/
import Derived.Test.YtojcjbaimdjhoaaGreatDoorRA
namespace Go.Proofs.YtojcjbaimdjhoaaGreatDoor
open Go.RowKit
set_option linter.unusedVariables false
set_option linter.unusedSimpArgs false

section
variable {P : Program} {ops : Array Oper} {C : Ctx} {E : Env} {σ : St} {a : Act} {w : World}
theorem evs_congr {σ' : St} : ∀ {xs : List Operand}, (∀ l ∈ opndsL xs, σ' l = σ l) → xs.map (ev σ') = xs.map (ev σ)
  | [], _ => rfl
  | x :: xs, h => by
    simp only [List.map_cons]
    rw [ev_congr fun l hl => h l (by simp [opndsL, hl]), evs_congr fun l hl => h l (by simp [opndsL, hl])]
theorem dropW_mem {ts : List Ho} {l : Pl} {x : X} (h : (l, x) ∈ dropW σ ts) : ∃ t ∈ ts, (l, x) ∈ hoDrop σ t := by
  obtain ⟨t, h1, h2⟩ := List.mem_flatMap.1 h
  exact ⟨t, h1, h2⟩
theorem dropW_at (ts : List Ho) : (∀ t, puts σ (dropW σ ts) (.s t) = σ (.s t)) ∧ (∀ o i, puts σ (dropW σ ts) (.c o i) = σ (.c o i)) ∧ (∀ o, puts σ (dropW σ ts) (.g o) = σ (.g o)) ∧ (∀ o, puts σ (dropW σ ts) (.h o) = σ (.h o)) ∧ (∀ o, puts σ (dropW σ ts) (.l o) = σ (.l o)) ∧
    (∀ o n, puts σ (dropW σ ts) (.o o) = .num n → σ (.o o) = .num n ∧ .o o ∉ ts) ∧ (∀ k e sz T, puts σ (dropW σ ts) (.k k) = .row e sz T → σ (.k k) = .row e sz T ∧ .k k ∉ ts) ∧ (∀ k x, puts σ (dropW σ ts) (.r k) = .tree x → σ (.r k) = .tree x ∧ .r k ∉ ts) ∧
    (∀ k, puts σ (dropW σ ts) (.q k) = σ (.q k) ∨ gq σ k < gq (puts σ (dropW σ ts)) k) := by
  have hout : ∀ l, (∀ t ∈ ts, ∀ x, (l, x) ∉ hoDrop σ t) → puts σ (dropW σ ts) l = σ l := fun l h => puts_out _ _ _ fun hl => by
    obtain ⟨p, hp, rfl⟩ := List.mem_map.1 hl
    obtain ⟨t, h1, h2⟩ := dropW_mem hp
    exact h t h1 _ h2
  have hin : ∀ l t y, t ∈ ts → (l, y) ∈ hoDrop σ t → ∃ t' x, t' ∈ ts ∧ (l, x) ∈ hoDrop σ t' ∧ puts σ (dropW σ ts) l = x := fun l t y h1 h2 => by
    have hl : l ∈ locs (dropW σ ts) := List.mem_map.2 ⟨(l, y), List.mem_flatMap.2 ⟨t, h1, h2⟩, rfl⟩
    obtain ⟨x, h3, h4⟩ := puts_in _ σ _ hl
    obtain ⟨t', h5, h6⟩ := dropW_mem h3
    exact ⟨t', x, h5, h6, h4⟩
  refine ⟨fun t => hout _ fun t _ x h => ?_, fun o i => hout _ fun t _ x h => ?_, fun o => hout _ fun t _ x h => ?_, fun o => hout _ fun t _ x h => ?_, fun o => hout _ fun t _ x h => ?_, fun o n h => ?_, fun k e sz T h => ?_, fun k x h => ?_, fun k => ?_⟩
  · cases t <;> simp [hoDrop] at h
  · cases t <;> simp [hoDrop] at h
  · cases t <;> simp [hoDrop] at h
  · cases t <;> simp [hoDrop] at h
  · cases t <;> simp [hoDrop] at h
  · have hno : .o o ∉ ts := fun ht => by
      obtain ⟨t', x, h1, h2, h3⟩ := hin (.o o) (.o o) .non ht (by simp [hoDrop])
      rw [h] at h3
      subst h3
      cases t' <;> simp [hoDrop] at h2
    refine ⟨?_, hno⟩
    rw [← h]
    refine (hout _ fun t ht x hx => ?_).symm
    cases t <;> simp [hoDrop] at hx
    rw [hx.1] at hno
    exact hno ht
  · have hno : .k k ∉ ts := fun ht => by
      obtain ⟨t', x, h1, h2, h3⟩ := hin (.k k) (.k k) .non ht (by simp [hoDrop])
      rw [h] at h3
      subst h3
      cases t' <;> simp [hoDrop] at h2
    refine ⟨?_, hno⟩
    rw [← h]
    refine (hout _ fun t ht x hx => ?_).symm
    cases t <;> simp [hoDrop] at hx
    rw [hx.1] at hno
    exact hno ht
  · have hno : .r k ∉ ts := fun ht => by
      obtain ⟨t', y, h1, h2, h3⟩ := hin (.r k) (.r k) .non ht (by simp [hoDrop])
      rw [h] at h3
      subst h3
      cases t' <;> simp [hoDrop] at h2
    refine ⟨?_, hno⟩
    rw [← h]
    refine (hout _ fun t ht x hx => ?_).symm
    cases t <;> simp [hoDrop] at hx
    rw [hx.1] at hno
    exact hno ht
  · by_cases ht : Ho.k k ∈ ts
    · obtain ⟨t', x, h1, h2, h3⟩ := hin (.q k) (.k k) _ ht (by simp [hoDrop]; rfl)
      right
      cases t' <;> simp [hoDrop] at h2
      obtain ⟨rfl, h2⟩ := h2
      rw [gq_num (h3.trans h2)]
      omega
    · refine .inl (hout _ fun t ht' x hx => ?_)
      cases t <;> simp [hoDrop] at hx
      rw [hx.1] at ht
      exact ht ht'
theorem dropW_itr (ts : List Ho) (o k : Id) (g : Nat) (s : List Nat) (h : puts σ (dropW σ ts) (.o o) = .itr k g s) : σ (.o o) = .itr k g s := by
  by_cases hl : Pl.o o ∈ locs (dropW σ ts)
  · obtain ⟨x, h3, h4⟩ := puts_in _ σ _ hl
    obtain ⟨t, _, h5⟩ := dropW_mem h3
    rw [h] at h4
    subst h4
    cases t <;> simp [hoDrop] at h5
  · rw [puts_out _ _ _ hl] at h; exact h
theorem ObjsOk.split {m : Mem} {bs : List Nat} : ∀ (n : Nat) {bs' : List Nat} {objs : List (List CA)} {G : List Nat}, ObjsOk m w bs bs' objs G → ∃ G1 G2, ObjsOk m w bs (bs'.take n) (objs.take n) G1 ∧ ObjsOk m w bs (bs'.drop n) (objs.drop n) G2 ∧ (∀ b ∈ G1, b ∉ G2) ∧ (∀ b, b ∈ G1 ∨ b ∈ G2 → b ∈ G)
  | 0, bs', objs, G, h => ⟨[], G, by simpa using ObjsOk.nil, by simpa using h, (fun b h => by cases h), (fun b h => by simpa using h)⟩
  | n + 1, _, _, _, .nil => ⟨[], [], by simpa using ObjsOk.nil, by simpa using ObjsOk.nil, (fun b h => by cases h), (fun b h => by simp at h)⟩
  | n + 1, _, _, _, .cons hb hm h hn hs hd => by
    obtain ⟨G1, G2, h1, h2, h3, h4⟩ := ObjsOk.split n hs
    refine ⟨_, G2, .cons hb hm h hn h1 (fun i hi hi' => hd i hi (h4 i (.inl hi'))), h2, fun b hb1 hb2 => ?_, fun b hb => ?_⟩
    · rcases List.mem_append.1 hb1 with h5 | h5
      · exact hd b h5 (h4 b (.inr hb2))
      · exact h3 b h5 hb2
    · rcases hb with hb | hb
      · rcases List.mem_append.1 hb with h5 | h5
        · exact List.mem_append_left _ h5
        · exact List.mem_append_right _ (h4 b (.inl h5))
      · exact List.mem_append_right _ (h4 b (.inr hb))

theorem holds_of (hg : Gm C E σ a w) {ids : List Id} {xs : List AV} {args : List Arg} {objs : List (List CA)} {ts1 ts2 : List Ho} (h1 : MArgs σ ids xs args ts1) (h2 : MObjs σ ids ids objs ts2) (vals : List Value) (hvl : vals.length = xs.length)
    (hvr : ∀ (j : Nat) (x : AV) (v : Value), xs[j]? = some x → vals[j]? = some v → RdA E σ x v) (hn : (ts1 ++ ts2).Nodup) :
    objs.length = ids.length ∧ ∃ F G, Holds E.m w vals args objs (ids.map E.loc) F G ∧ ∀ b ∈ F ++ G, ∃ t ∈ ts1 ++ ts2, HoB E σ t b := by
  obtain ⟨hn1, hn2, hn3⟩ := List.nodup_append.1 hn
  obtain ⟨o1, G, o2, o3⟩ := mobjs_ok hg h2 hn2
  obtain ⟨F, a1, a2⟩ := margs_ok hg h1 vals (allA_of hvl hvr) hn1
  refine ⟨o1, F, G, ⟨hg.ms, a1, o2, fun b hF hG => ?_⟩, fun b hb => ?_⟩
  · obtain ⟨t, ht, hh⟩ := a2 b hF
    obtain ⟨t', ht', hh'⟩ := o3 b hG
    have := hg.ho_inj hh hh'
    subst this
    exact hn3 _ ht _ ht' rfl
  · rcases List.mem_append.1 hb with hb | hb
    · obtain ⟨t, ht, hh⟩ := a2 b hb; exact ⟨t, List.mem_append_left _ ht, hh⟩
    · obtain ⟨t, ht, hh⟩ := o3 b hb; exact ⟨t, List.mem_append_right _ ht, hh⟩

/-- No name is met twice behind a call. -/
def NamesOk (d : Tmp) (ids : List Id) (objs' : List (List CA)) : Prop :=
  ids.Nodup ∧ (∀ k ∈ freshIds d (objs'.drop ids.length), k ∉ ids) ∧ (∀ k ∈ freshKids d (objs'.drop ids.length), k ∉ ids) ∧ ∀ k ∈ kidsAll ids objs', k ∉ ids ++ freshIds d (objs'.drop ids.length)
theorem kidsAll_take : ∀ (ids : List Id) (objs : List (List CA)), kidsAll ids (objs.take ids.length) = kidsAll ids objs
  | [], objs => by simp [kidsAll]
  | o :: ids, [] => by simp [kidsAll]
  | o :: ids, cs :: objs => by simp [kidsAll, kidsAll_take ids objs]
theorem objsW_take (all : List Id) : ∀ (ids : List Id) (objs : List (List CA)) (s : St), objsW all s ids (objs.take ids.length) = objsW all s ids objs
  | [], objs, s => by simp [objsW]
  | o :: ids, [], s => by simp [objsW]
  | o :: ids, cs :: objs, s => by simp [objsW, objsW_take all ids objs]
theorem kidsOf_ne (o : Id) : ∀ (cs : List CA) (j : Nat) (k : Id), k ∈ kidsOf o j cs → k.2 ≠ 0
  | [], _, _, h => by cases h
  | c :: cs, j, k, h => by
    simp only [kidsOf] at h
    split at h
    · rcases List.mem_cons.1 h with rfl | h
      · exact kid_ne o j
      · exact kidsOf_ne o cs _ k h
    · exact kidsOf_ne o cs _ k h

theorem ok_call' {d : Tmp} {callee : Callee} {xs : List Operand} {tys : Array TypeId} {args : List Arg} {objs objs' : List (List CA)} {res : Arg} {K : FuncId} {extra : List Value} {L0 : List Pl} (hspec : Spec P K args objs res objs')
    (ids : List Id) {zs : List AV} {ts1 ts2 : List Ho} (h1 : MArgs σ ids (xs.map (ev σ) ++ zs) args ts1) (hz : ∀ (E : Env) (σ' : St) (a : Act) (w : World), (∀ l ∈ L0, σ' l = σ l) → Gm C E σ' a w → ∃ us : List Value, us.length = zs.length ∧ (∀ (j : Nat) (x : AV) (v : Value), zs[j]? = some x → us[j]? = some v → RdA E σ' x v) ∧
      ∀ ty pos af, (execOp a.eval ⟨some d, .call { callee := callee, args := xs.toArray, argTypes := tys }, ty, pos, af, none⟩).run P w = .ok (.enter K ((xs.map a.eval) ++ us).toArray) w)
    (h2 : MObjs σ ids ids objs ts2) (hn : (ts1 ++ ts2).Nodup) (hi : NamesOk d ids objs') (hlen : objs'.length = objs.length ∨ objs'.length = objs.length + 1)
    (ty : TypeId) (pos : String) (af : Array Edge) :
    OpOk P ops C ⟨some d, .call { callee := callee, args := xs.toArray, argTypes := tys }, ty, pos, af, none⟩ (rds σ (L0 ++ callL d xs ids (ts1 ++ ts2) objs objs')) (callW σ d ids (ts1 ++ ts2) objs' res) := by
  intro E σ' a w Kt Q hd hr hg hK'
  have hr := rds_all hr
  have hd0 := hd d rfl
  obtain ⟨hr0, hr⟩ := mem_l hr
  obtain ⟨hi1, hi2, hi3, hi4⟩ := hi
  -- the state as it is
  obtain ⟨hr1, hrest⟩ := mem_l hr
  obtain ⟨hr2, hrest⟩ := mem_l hrest
  obtain ⟨hr3, hr4⟩ := mem_l hrest
  have o1 : objs.length = ids.length := by
    clear hr hr1 hr2 hr3 hr4 hrest h1 hz
    have : ∀ {all ids : List Id} {objs : List (List CA)} {ts : List Ho}, MObjs σ all ids objs ts → objs.length = ids.length := by
      intro all ids objs ts h
      induction h <;> simp_all
    exact this h2
  have hids : ∀ o ∈ ids, σ' (.g o) = σ (.g o) := fun o ho => hr3 _ (objsL_mem (by omega) ho)
  have ht2 : ∀ l ∈ toksL ts1, σ' l = σ l := fun l hl => hr2 l (by rw [toksL_append]; exact List.mem_append_left _ hl)
  have ht3 : ∀ l ∈ toksL ts2, σ' l = σ l := fun l hl => hr2 l (by rw [toksL_append]; exact List.mem_append_right _ hl)
  have h2' := h2.congr ht3 hids hr3
  have h1' := h1.congr ht2 hids
  rw [← evs_congr hr1] at h1'
  rw [← callW_congr (by omega) hr] at hK'
  obtain ⟨us, hu1, hu2, hrun⟩ := hz E σ' a w hr0 hg
  clear hr hrest hr1 hr2 hr3 hr4 h1 h2 ht2 ht3 hids hz
  obtain ⟨_, F, G, hH, hOw⟩ := holds_of hg h1' h2' (xs.map a.eval ++ us) (by simp [hu1]) (fun j x v q1 q2 => by
    rcases Nat.lt_or_ge j xs.length with hj | hj
    · rw [List.getElem?_append_left (by simpa using hj), List.getElem?_map, List.getElem?_eq_getElem hj] at q1 q2
      cases q1; cases q2; exact ev_ok hg _
    · rw [List.getElem?_append_right (by simpa using hj)] at q1 q2
      simp only [List.length_map] at q1 q2
      exact hu2 _ x v q1 q2) hn
  obtain ⟨bs, hbs⟩ : ∃ bs, bs = ids.map E.loc := ⟨_, rfl⟩
  rw [← hbs] at hH
  have hbs_at : ∀ (i : Nat) (o : Id), ids[i]? = some o → bs[i]? = some (E.loc o) := fun i o h => by rw [hbs, List.getElem?_map, h]; rfl
  -- the call
  have hcall := hspec E.m w (xs.map a.eval ++ us) bs F G hH
  rw [if_pos (by simp [Region.wanted])]
  show Oper.upon _ _ _ _ _ _
  rw [hrun]
  show Calls _ _ _ _ _
  refine hcall.mono ?_
  rintro e w' ⟨v, m', bs', F', G', rfl, hH', hmle, hchg, hbs', hmk, hnew⟩
  show Kt (a.put (some d) v) w'
  obtain ⟨d1, d2, d3, d3', d3'', d4, d5, d5', d6⟩ := dropW_at (σ := σ') (ts1 ++ ts2)
  obtain ⟨σ1, hσ1⟩ : ∃ s, s = puts σ' (dropW σ' (ts1 ++ ts2)) := ⟨_, rfl⟩
  rw [← hσ1] at d1 d2 d3 d3' d3'' d4 d5 d5' d6
  have dI : ∀ o k g s, σ1 (.o o) = .itr k g s → σ' (.o o) = .itr k g s := fun o k g s h => dropW_itr (ts1 ++ ts2) o k g s (by rw [← hσ1]; exact h)
  obtain ⟨g1, mo1, l1⟩ := hg.drop σ1 d1 d2 d3 (fun o n h => (d4 o n h).1) (fun k e sz T h => (d5 k e sz T h).1) d6 (fun k x h => (d5' k x h).1) (fun k i y h => by rw [← d3'']; exact h) d3' (fun o k g s h => dI o k g s h)
  have hD : ∀ b ∈ F ++ G, C.D b ∨ C.w0.heap.size ≤ b := fun b hb => by
    obtain ⟨t, _, hh⟩ := hOw b hb
    exact (hg.ho_dd hh).2
  have hfar : ∀ b, LiveB E σ1 b → b ∉ F ++ G := fun b ⟨t, ht⟩ hb => by
    obtain ⟨t', ht', hh⟩ := hOw b hb
    have := hg.ho_inj (l1 t b ht) hh
    subst this
    cases t with
    | o i => obtain ⟨n, q1, _⟩ := ht; exact (d4 i n q1).2 ht'
    | k i => obtain ⟨e, s, T, q1, _⟩ := ht; exact (d5 i e s T q1).2 ht'
    | r i => obtain ⟨x, q1, _⟩ := ht; exact (d5' i x q1).2 ht'
  have g2 := g1.turn (fun b => b ∈ F ++ G) w' m' hchg hmle hH'.ms hD hfar (fun b mb n bs l h1 hb => by
    obtain ⟨t, _, hh⟩ := hOw b hb
    exact hg.ho_noIt hh _ _ _ _ h1) hmk
  obtain ⟨E2, hE2⟩ : ∃ E2 : Env, E2 = { E with m := m' } := ⟨_, rfl⟩
  rw [← hE2] at g2
  have e2m : E2.m = m' := by rw [hE2]
  have e2l : ∀ o, E2.loc o = E.loc o := fun o => by rw [hE2]
  have e2L : ∀ b, LiveB E2 σ1 b → LiveB E σ1 b := fun b ⟨t, h⟩ => ⟨t, by rw [hE2] at h; cases t <;> exact h⟩
  have hltw : ∀ b, LiveB E σ1 b → b < w.heap.size := fun b ⟨t, ht⟩ => (g1.ho_dd ht).1
  have hnotL : ∀ b ∈ F' ++ G', ¬ LiveB E2 σ1 b := fun b hb hL => by
    have hL := e2L b hL
    rcases hnew b hb with r | r
    · exact hfar b hL r
    · have := hltw b hL; omega
  have hD' : ∀ b ∈ F' ++ G', C.D b ∨ C.w0.heap.size ≤ b := fun b hb => by
    rcases hnew b hb with r | r
    · exact hD b r
    · have := hg.fr.size; exact .inr (by omega)
  have hbl' : bs'.length = objs'.length := hH'.ob.len
  have hloc2 : ∀ (ob : Nat) (o' : Id) (b : Nat), ids[ob]? = some o' → bs'[ob]? = some b → E2.loc o' = b := fun ob o' b q1 q2 => by
    have := hbs' ob _ (hbs_at ob o' q1)
    rw [q2] at this
    cases this
    exact e2l o'
  obtain ⟨G1, G2, s1, s2, s3, s4⟩ := hH'.ob.split ids.length
  -- a new object
  obtain ⟨fr, hfr⟩ : ∃ l, l = objs'.drop ids.length := ⟨_, rfl⟩
  have hfresh : ∃ E3 σ2, σ2 = puts σ1 (freshW σ1 ids d fr) ∧ Gm C E3 σ2 a w' ∧ Mo E2 σ1 E3 σ2 ∧ E3.m = m' ∧ (∀ o' ∈ ids, E3.loc o' = E2.loc o' ∧ gg σ2 o' = gg σ1 o') ∧ (∀ b, LiveB E3 σ2 b → LiveB E2 σ1 b ∨ b ∈ G2) ∧
      (∀ o' ∈ freshIds d fr, ∀ b, bs'[ids.length]? = some b → E3.loc o' = b ∧ ∀ off, RdA E3 σ2 (.ptr o' (gg σ2 o') off) (.pointer (some ⟨b, off, none⟩))) := by
    rcases hlen with hl | hl
    · have hdrop : fr = [] := by rw [hfr]; exact List.drop_eq_nil_of_le (by omega)
      refine ⟨E2, σ1, by rw [hdrop]; rfl, g2, Mo.same (fun _ => rfl) (fun _ => rfl) (fun _ => rfl) (fun _ => rfl), e2m, fun _ _ => ⟨rfl, rfl⟩, fun b h => .inl h, fun o' h => by rw [hdrop] at h; cases h⟩
    · have hlt : ids.length < objs'.length := by omega
      have hdrop : fr = objs'[ids.length] :: objs'.drop (ids.length + 1) := by rw [hfr]; exact List.drop_eq_getElem_cons hlt
      have hbdrop : bs'.drop ids.length = bs'[ids.length]'(by omega) :: bs'.drop (ids.length + 1) := List.drop_eq_getElem_cons (by omega)
      rw [← hfr, hdrop, hbdrop] at s2
      have hbat : bs'[ids.length]? = some (bs'[ids.length]'(by omega)) := by simp [hbl', hlt]
      generalize bs'[ids.length]'(by omega) = b0 at s2 hbat
      generalize objs'[ids.length] = cs at s2 hdrop
      cases s2 with
      | @cons _ _ vs ty F0 _ _ F1 p1 p2 p3 p4 p5 p6 =>
        have hG2 : ∀ b ∈ b0 :: F0, b ∈ F' ++ G' := fun b hb => List.mem_append_right _ (s4 b (.inr (List.mem_append_left _ hb)))
        have hk0 : ∀ k ∈ kidsOf (d, 0) 0 cs, k ∉ ids ∧ k ≠ (d, 0) := fun k hk => ⟨hi3 k (by rw [← hfr, hdrop]; exact hk), fun e => kidsOf_ne _ _ _ k hk (by rw [e])⟩
        obtain ⟨E3, f1, f2, f3, f4, f5, f6, f7, f8⟩ := objGain_ok g2 ids bs' hloc2 (d, 0) (gg σ1 (d, 0) + 1) b0 (.inr ⟨by omega, C.np d hd0, rfl⟩) ty cs vs F0 hk0 p1 (fun k => by rw [e2m]; exact p2 k) (by rw [e2m]; exact p3) p4
          (fun b hb => ⟨hD' b (hG2 b hb), hnotL b (hG2 b hb)⟩)
        refine ⟨E3, _, by rw [hdrop]; rfl, f1, f2, by rw [f3, e2m], fun o' ho' => f4 o' (fun h => (hk0 o' h).1 ho') (fun e => hi2 (d, 0) (by rw [← hfr, hdrop]; simp [freshIds]) (e ▸ ho')), fun b hL => ?_, fun o' ho' b hb => ?_⟩
        · rcases f7 b hL with r | r
          · exact .inl r
          · exact .inr (List.mem_append_left _ r)
        · rw [hdrop] at ho'
          simp [freshIds] at ho'
          subst ho'
          rw [hbat] at hb
          cases hb
          exact ⟨f5, fun off => by rw [f6]; exact f8 off⟩
  obtain ⟨E3, σ2, hσ2, g3, mo3, em3, hsame3, eL3, hnewo⟩ := hfresh
  obtain ⟨all, hall⟩ : ∃ l, l = ids ++ freshIds d fr := ⟨_, rfl⟩
  have hfrl : (freshIds d fr).length ≤ 1 := by cases fr <;> simp [freshIds]
  have hloc3 : ∀ (ob : Nat) (o' : Id) (b : Nat), all[ob]? = some o' → bs'[ob]? = some b → E3.loc o' = b := fun ob o' b q1 q2 => by
    rw [hall] at q1
    rcases Nat.lt_or_ge ob ids.length with hl | hl
    · rw [List.getElem?_append_left hl] at q1
      rw [(hsame3 o' (List.mem_of_getElem? q1)).1]; exact hloc2 ob o' b q1 q2
    · rw [List.getElem?_append_right hl] at q1
      have hob : ob = ids.length := by have := (List.getElem?_eq_some_iff.1 q1).1; omega
      subst hob
      exact (hnewo o' (List.mem_of_getElem? q1) b q2).1
  obtain ⟨E4, g4, mo4, em4, hsame4, eL4⟩ := objsW_ok all bs' ids (objs'.take ids.length) (bs'.take ids.length) G1 E3 σ2 g3 (by rw [em3]; exact s1) (by rw [List.length_take]; omega) hi1 (fun o h => by rw [hall]; exact List.mem_append_left _ h) hloc3
    (fun i o b q1 q2 => by
      rw [List.getElem?_take] at q2
      split at q2
      · rw [(hsame3 o (List.mem_of_getElem? q1)).1]; exact hloc2 i o b q1 q2
      · cases q2)
    (fun k hk => by rw [kidsAll_take] at hk; rw [hall, hfr]; exact hi4 k hk)
    (fun b hb => ⟨hD' b (List.mem_append_right _ (s4 b (.inl hb))), fun hL => by
      rcases eL3 b hL with r | r
      · exact hnotL b (List.mem_append_right _ (s4 b (.inl hb))) r
      · exact s3 b hb r⟩)
  rw [objsW_take] at g4 mo4 hsame4 eL4
  obtain ⟨σ3, hσ3⟩ : ∃ s, s = puts σ2 (objsW all σ2 ids objs') := ⟨_, rfl⟩
  rw [← hσ3] at g4 mo4 hsame4 eL4
  have hF' : ∀ b ∈ F', ¬ LiveB E4 σ3 b := fun b hb hL => by
    have hG : b ∈ G' → False := fun h => hH'.di b hb h
    rcases eL4 b hL with r | r
    · rcases eL3 b r with r | r
      · exact hnotL b (List.mem_append_left _ hb) r
      · exact hG (s4 b (.inr r))
    · exact hG (s4 b (.inl r))
  -- the result
  have hres := hH'.ar
  cases hres with
  | @cons _ _ F0 _ _ F1 q1 q2 q3 =>
    cases q2
    simp only [List.append_nil] at hF' hD' hnew hnotL
    have hptr : ∀ i off b, bs'[i]? = some b → RdP E4 σ3 (resPtr σ3 d ids i off) (.pointer (some ⟨b, off, none⟩)) := fun i off b q4 => by
      by_cases hil : i < ids.length
      · have q5 : ids[i]? = some ids[i] := by simp [hil]
        simp only [resPtr, q5]
        have hm : ids[i] ∈ all := by rw [hall]; exact List.mem_append_left _ (List.getElem_mem hil)
        refine ⟨Nat.le_refl _, fun _ => ?_⟩
        rw [(hsame4 _ hm).1, hloc3 i ids[i] b (by rw [hall, List.getElem?_append_left hil]; exact q5) q4]
      · have hlt := (List.getElem?_eq_some_iff.1 q4).1
        have hie : i = ids.length := by omega
        subst hie
        have hnone : ids[ids.length]? = none := List.getElem?_eq_none (Nat.le_refl _)
        simp only [resPtr, hnone]
        have hfm : (d, 0) ∈ freshIds d fr := by
          have : fr ≠ [] := by rw [hfr]; intro h; have := congrArg List.length h; simp at this; omega
          cases hc : fr with
          | nil => exact absurd hc this
          | cons => simp [freshIds]
        have h5 := (hnewo _ hfm b q4).2 off
        have h6 := (hsame4 (d, 0) (by rw [hall]; exact List.mem_append_right _ hfm)).2
        rw [h6]
        exact h5.mo mo4
    have hrow : ∃ E5 σ4, σ4 = puts σ3 (resRow σ3 d res) ∧ Gm C E5 σ4 a w' ∧ Mo E4 σ3 E5 σ4 ∧ RdA E5 σ4 (resAV σ3 σ3 d ids res) v := by
      have triv : resRow σ3 d res = [] → RdA E4 σ3 (resAV σ3 σ3 d ids res) v → ∃ E5 σ4, σ4 = puts σ3 (resRow σ3 d res) ∧ Gm C E5 σ4 a w' ∧ Mo E4 σ3 E5 σ4 ∧ RdA E5 σ4 (resAV σ3 σ3 d ids res) v := fun h1 h2 =>
        ⟨E4, σ3, by rw [h1]; rfl, g4, Mo.same (fun _ => rfl) (fun _ => rfl) (fun _ => rfl) (fun _ => rfl), h2⟩
      cases res with
      | ca c =>
        cases c with
        | val y => exact triv rfl (by show Rd E4.m y v; rw [em4, em3]; exact q1.1)
        | own e sz es =>
          obtain ⟨⟨p1, ys, p2, p3⟩, rfl⟩ := q1
          obtain ⟨E5, f1, f2, f3, f4, f5, f6⟩ := g4.gainRow (d, 0) (gq σ3 (d, 0) + 1) (by omega) e sz es.length v ys p2 (fun b hb => ⟨fun i => by rw [em4, em3]; exact p3 b hb i, hD' b (List.mem_append_left _ (by simpa using hb)), hF' b (by simpa using hb)⟩)
          exact ⟨E5, _, rfl, f1, f2, f6 es rfl (by rw [em4, em3]; exact p1)⟩
        | hd x =>
          obtain ⟨p1, p2⟩ := q1
          obtain ⟨E5, f1, f2, f3, f4, f5, f6⟩ := g4.gainTree (d, 1) x v F0 p2 (by rw [em4, em3]; exact p1) (fun b hb => ⟨hD' b (List.mem_append_left _ hb), hF' b hb⟩) (by simp)
          exact ⟨E5, _, rfl, f1, f2, f6.toA⟩
        | hdl x i ob => exact triv rfl (Rd.any _)
      | ptr i off =>
        obtain ⟨⟨b, q4, rfl⟩, rfl⟩ := q1
        exact triv rfl (hptr i off b q4).toA
      | fn K cs =>
        obtain ⟨⟨ys, rfl, q4, q5⟩, rfl⟩ := q1
        refine triv rfl ⟨ys, rfl, by simpa using q4, fun i h1 h2 => ?_⟩
        have hic : i < cs.length := by simpa using h1
        have := q5 i cs[i] ys[i] (by simp [hic]) (by simp [h2])
        rw [List.getElem_map]
        generalize cs[i] = c at this ⊢
        generalize ys[i] = y at this ⊢
        cases c with
        | val x => show Rd E4.m x y; rw [em4, em3]; exact this
        | ptr i off =>
          obtain ⟨b, q6, rfl⟩ := this
          exact hptr i off b q6
    obtain ⟨E5, σ4, hσ4, g5, mo5, hAV⟩ := hrow
    have hfin : puts σ' (callW σ' d ids (ts1 ++ ts2) objs' res) = put σ4 (.s d) (.av (resAV σ3 σ3 d ids res)) := by
      have e1 : puts σ' (callM σ' d ids (ts1 ++ ts2) objs') = σ3 := by
        simp only [callM, puts_append]
        rw [← hσ1, ← hfr, ← hall, ← hσ2, ← hσ3]
      unfold callW
      simp only [puts_append]
      rw [e1, ← hσ4]
      rfl
    refine hK' _ _ E5 ?_
    rw [hfin]
    exact g5.slot d _ v hd0 hAV
theorem ok_call {d : Tmp} {K : FuncId} (hK : ∀ args w, (callFunc K args).run P w = .ok (.enter K args) w) {xs : List Operand} {tys : Array TypeId} {args : List Arg} {objs objs' : List (List CA)} {res : Arg} (hspec : Spec P K args objs res objs')
    (ids : List Id) {ts1 ts2 : List Ho} (h1 : MArgs σ ids (xs.map (ev σ)) args ts1) (h2 : MObjs σ ids ids objs ts2) (hn : (ts1 ++ ts2).Nodup) (hi : NamesOk d ids objs') (hlen : objs'.length = objs.length ∨ objs'.length = objs.length + 1)
    (ty : TypeId) (pos : String) (af : Array Edge) :
    OpOk P ops C ⟨some d, .call { callee := .value (.func K), args := xs.toArray, argTypes := tys }, ty, pos, af, none⟩ (rds σ (callL d xs ids (ts1 ++ ts2) objs objs')) (callW σ d ids (ts1 ++ ts2) objs' res) :=
  ok_call' (L0 := []) (zs := []) (extra := []) hspec ids (by simpa using h1) (fun E σ' a w _ _ => ⟨[], rfl, fun j x v h => by simp at h, fun ty pos af => by simp [execOp, resolve, Act.eval, Deferred.ofValue, invoke, hK]⟩) h2 hn hi hlen ty pos af
/-- A call of a function's value, with what it holds. -/
theorem ok_fcall {d : Tmp} {K : FuncId} (hK : ∀ args w, (callFunc K args).run P w = .ok (.enter K args) w) {f : Operand} {zs : List AV} (hf : ev σ f = .fn K zs ∨ (ev σ f = .val (.sc (.func (.func K) #[] #[])) ∧ zs = [])) {xs : List Operand} {tys : Array TypeId} {args : List Arg} {objs objs' : List (List CA)} {res : Arg} (hspec : Spec P K args objs res objs')
    (ids : List Id) {ts1 ts2 : List Ho} (h1 : MArgs σ ids (xs.map (ev σ) ++ zs) args ts1) (h2 : MObjs σ ids ids objs ts2) (hn : (ts1 ++ ts2).Nodup) (hi : NamesOk d ids objs') (hlen : objs'.length = objs.length ∨ objs'.length = objs.length + 1)
    (ty : TypeId) (pos : String) (af : Array Edge) :
    OpOk P ops C ⟨some d, .call { callee := .value f, args := xs.toArray, argTypes := tys }, ty, pos, af, none⟩ (rds σ (rdl f ++ callL d xs ids (ts1 ++ ts2) objs objs')) (callW σ d ids (ts1 ++ ts2) objs' res) :=
  ok_call' (L0 := rdl f) (extra := []) hspec ids h1 (fun E σ' a w hr hg => by
      have hv := ev_ok hg f
      rw [ev_congr hr] at hv
      rcases hf with hf | ⟨hf, rfl⟩
      · rw [hf] at hv
        obtain ⟨ys, h3, h4, h5⟩ := hv
        refine ⟨ys, h4, fun j x v q1 q2 => ?_, fun ty pos af => by simp [execOp, resolve, h3, Deferred.ofValue, invoke, hK]⟩
        obtain ⟨q3, rfl⟩ := List.getElem?_eq_some_iff.1 q1
        obtain ⟨q4, rfl⟩ := List.getElem?_eq_some_iff.1 q2
        exact (h5 j q3 q4).toA
      · rw [hf] at hv
        have hv := Rd.sc_eq hv
        exact ⟨[], rfl, fun j x v h => by simp at h, fun ty pos af => by simp [execOp, resolve, hv, Deferred.ofValue, invoke, hK]⟩) h2 hn hi hlen ty pos af
end
end Go.Proofs.YtojcjbaimdjhoaaGreatDoor
