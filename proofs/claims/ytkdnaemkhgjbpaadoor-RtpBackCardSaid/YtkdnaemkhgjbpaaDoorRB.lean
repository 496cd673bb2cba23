
/- The step of a call is sound. -/
import Derived.Test.YtkdnaemkhgjbpaaDoorRA
namespace Go.Proofs.YtkdnaemkhgjbpaaDoor
open Go.RowKit
set_option linter.unusedVariables false
set_option linter.unusedSimpArgs false

section
variable {P : Program} {ops : Array Oper} {C : Ctx} {E : Env} {σ : St} {a : Act} {w : World}
theorem nodup_inj {α : Type} : ∀ {l : List α} {i j : Nat} {x : α}, l.Nodup → l[i]? = some x → l[j]? = some x → i = j
  | y :: l, 0, 0, x, _, _, _ => rfl
  | y :: l, 0, j + 1, x, h, h1, h2 => by simp at h1 h2; subst h1; exact absurd (List.mem_of_getElem? h2) (List.nodup_cons.1 h).1
  | y :: l, i + 1, 0, x, h, h1, h2 => by simp at h1 h2; subst h2; exact absurd (List.mem_of_getElem? h1) (List.nodup_cons.1 h).1
  | y :: l, i + 1, j + 1, x, h, h1, h2 => congrArg (· + 1) (nodup_inj (l := l) (x := x) (List.nodup_cons.1 h).2 (by simpa using h1) (by simpa using h2))
theorem evs_congr {σ' : St} : ∀ {xs : List Operand}, (∀ l ∈ opndsL xs, σ' l = σ l) → xs.map (ev σ') = xs.map (ev σ)
  | [], _ => rfl
  | x :: xs, h => by
    simp only [List.map_cons]
    rw [ev_congr fun l hl => h l (by simp [opndsL, hl]), evs_congr fun l hl => h l (by simp [opndsL, hl])]
theorem dropW_at {ts ids : List Id} : (∀ t, puts σ (dropW σ ts ids) (.s t) = σ (.s t)) ∧ (∀ o i, puts σ (dropW σ ts ids) (.c o i) = σ (.c o i)) ∧ (∀ o, puts σ (dropW σ ts ids) (.g o) = σ (.g o)) ∧
    (∀ o n, puts σ (dropW σ ts ids) (.o o) = .num n → σ (.o o) = .num n ∧ o ∉ ids) ∧ (∀ k e sz T, puts σ (dropW σ ts ids) (.k k) = .row e sz T → σ (.k k) = .row e sz T ∧ k ∉ ts) ∧
    (∀ k, puts σ (dropW σ ts ids) (.q k) = σ (.q k) ∨ gq σ k < gq (puts σ (dropW σ ts ids)) k) := by
  have hmem : ∀ l x, (l, x) ∈ dropW σ ts ids → (∃ k ∈ ts, (l = .q k ∧ x = .num (gq σ k + 1)) ∨ (l = .k k ∧ x = .non)) ∨ ∃ o ∈ ids, l = .o o ∧ x = .non := by
    intro l x h
    unfold dropW at h
    rcases List.mem_append.1 h with h | h
    · obtain ⟨k, hk, h⟩ := List.mem_flatMap.1 h
      simp at h
      exact .inl ⟨k, hk, h⟩
    · obtain ⟨o, ho, h⟩ := List.mem_map.1 h
      simp at h
      exact .inr ⟨o, ho, h.1.symm, h.2.symm⟩
  have hout : ∀ l, (∀ k, l ≠ .q k) → (∀ k, l ≠ .k k) → (∀ o, l ≠ .o o) → puts σ (dropW σ ts ids) l = σ l := fun l h1 h2 h3 => puts_out _ _ _ fun h => by
    obtain ⟨p, hp, rfl⟩ := List.mem_map.1 h
    rcases hmem p.1 p.2 hp with ⟨k, _, ⟨h, _⟩ | ⟨h, _⟩⟩ | ⟨o, _, h, _⟩
    · exact h1 k h
    · exact h2 k h
    · exact h3 o h
  have hin : ∀ l, l ∈ locs (dropW σ ts ids) ∨ puts σ (dropW σ ts ids) l = σ l := fun l => by
    by_cases h : l ∈ locs (dropW σ ts ids)
    · exact .inl h
    · exact .inr (puts_out _ _ _ h)
  refine ⟨fun t => hout _ (by simp) (by simp) (by simp), fun o i => hout _ (by simp) (by simp) (by simp), fun o => hout _ (by simp) (by simp) (by simp), fun o n h => ?_, fun k e sz T h => ?_, fun k => ?_⟩
  · by_cases ho : o ∈ ids
    · have hl : Pl.o o ∈ locs (dropW σ ts ids) := by
        unfold dropW; rw [locs_append, List.mem_append]; right
        exact List.mem_map.2 ⟨(.o o, .non), List.mem_map.2 ⟨o, ho, rfl⟩, rfl⟩
      obtain ⟨x, h1, h2⟩ := puts_in _ σ _ hl
      rw [h] at h2
      subst h2
      rcases hmem _ _ h1 with ⟨k, _, ⟨h, _⟩ | ⟨h, _⟩⟩ | ⟨o', _, _, h⟩ <;> cases h
    · refine ⟨?_, ho⟩
      rw [← h]
      symm
      refine puts_out _ _ _ fun hl => ?_
      obtain ⟨p, hp, he⟩ := List.mem_map.1 hl
      rcases hmem p.1 p.2 hp with ⟨k, _, ⟨h, _⟩ | ⟨h, _⟩⟩ | ⟨o', ho', h, _⟩
      · rw [h] at he; cases he
      · rw [h] at he; cases he
      · rw [h] at he; cases he; exact ho ho'
  · by_cases hk : k ∈ ts
    · have hl : Pl.k k ∈ locs (dropW σ ts ids) := by
        unfold dropW; rw [locs_append, List.mem_append]; left
        exact List.mem_map.2 ⟨(.k k, .non), List.mem_flatMap.2 ⟨k, hk, by simp⟩, rfl⟩
      obtain ⟨x, h1, h2⟩ := puts_in _ σ _ hl
      rw [h] at h2
      subst h2
      rcases hmem _ _ h1 with ⟨k', _, ⟨h, _⟩ | ⟨_, h⟩⟩ | ⟨o', _, h, _⟩ <;> cases h
    · refine ⟨?_, hk⟩
      rw [← h]
      symm
      refine puts_out _ _ _ fun hl => ?_
      obtain ⟨p, hp, he⟩ := List.mem_map.1 hl
      rcases hmem p.1 p.2 hp with ⟨k', hk', ⟨h, _⟩ | ⟨h, _⟩⟩ | ⟨o', ho', h, _⟩
      · rw [h] at he; cases he
      · rw [h] at he; cases he; exact hk hk'
      · rw [h] at he; cases he
  · rcases hin (.q k) with h | h
    · obtain ⟨x, h1, h2⟩ := puts_in _ σ _ h
      rcases hmem _ _ h1 with ⟨k', _, ⟨h3, h4⟩ | ⟨h3, _⟩⟩ | ⟨o', _, h3, _⟩
      · cases h3
        right
        rw [gq_num (h2.trans h4)]
        omega
      · cases h3
      · cases h3
    · exact .inl h
theorem freshW_cons (cs : List CA) (l : List (List CA)) (d : Tmp) : freshW σ d (cs :: l) = objGain σ (d, 0) (gg σ (d, 0) + 1) cs := rfl

theorem holds_of (hg : Gm C E σ a w) {ids : List Id} {xs : List AV} {args : List Arg} {objs : List (List CA)} {ts1 ts2 : List Id} (h1 : MArgs σ ids xs args ts1) (h2 : MObjs σ ids objs ts2) (vals : List Value) (hvl : vals.length = xs.length)
    (hvr : ∀ (j : Nat) (x : AV) (v : Value), xs[j]? = some x → vals[j]? = some v → RdA E σ x v) (hn : (ts1 ++ ts2).Nodup) (hi : ids.Nodup) :
    ∃ cvs, Holds E.m w vals args objs (ids.map E.loc) cvs ∧ ∀ x b, Ow vals args objs (ids.map E.loc) cvs x b → (∃ o n, o ∈ ids ∧ σ (.o o) = .num n ∧ E.loc o = b) ∨ HasRow E σ (ts1 ++ ts2) b := by
  obtain ⟨hn1, hn2, hn3⟩ := List.nodup_append.1 hn
  obtain ⟨cvs, o1, o2, o3, o4, o5⟩ := mobjs_ok hg h2 hn2
  obtain ⟨a1, a2, a3, a4, a5⟩ := margs_ok hg h1 vals hvl hvr hn1
  -- what is handed over
  obtain ⟨bs, hbs⟩ : ∃ bs, bs = ids.map E.loc := ⟨_, rfl⟩
  have hbs_at : ∀ (i : Nat) (b : Nat), bs[i]? = some b ↔ ∃ o, ids[i]? = some o ∧ E.loc o = b := fun i b => by
    rw [hbs, List.getElem?_map]
    cases ids[i]? <;> simp
  have hrowne : ∀ b, HasRow E σ (ts1 ++ ts2) b → ∀ o n, σ (.o o) = .num n → E.loc o ≠ b := fun b ⟨k, _, e, sz, T, hk, hb⟩ o n ho he => hg.or o n k e sz T ho hk (by rw [hb, he])
  have hobn : ∀ (i : Nat) (o : Id), ids[i]? = some o → ∃ n, σ (.o o) = .num n := fun i o q => by
    have hil := (List.getElem?_eq_some_iff.1 q).1
    obtain ⟨q1, _⟩ := o3 i o (objs[i]'(by omega)) (cvs[i]'(by omega)) q (by simp [o1, hil]) (by simp [o2, hil])
    exact ⟨_, q1⟩
  have hw1 : ∀ b, HasRow E σ ts1 b → HasRow E σ (ts1 ++ ts2) b := fun b ⟨k, hk, r⟩ => ⟨k, List.mem_append_left _ hk, r⟩
  have hw2 : ∀ b, HasRow E σ ts2 b → HasRow E σ (ts1 ++ ts2) b := fun b ⟨k, hk, r⟩ => ⟨k, List.mem_append_right _ hk, r⟩
  have hOw : ∀ x b, Ow vals args objs bs cvs x b → (∃ o n, o ∈ ids ∧ σ (.o o) = .num n ∧ E.loc o = b) ∨ HasRow E σ (ts1 ++ ts2) b := fun x b h => by
    cases x with
    | ob i =>
      obtain ⟨o, q1, q2⟩ := (hbs_at i b).1 h
      obtain ⟨n, q3⟩ := hobn i o q1
      exact .inl ⟨o, n, List.mem_of_getElem? q1, q3, q2⟩
    | ce i j =>
      obtain ⟨cs, vs, c, v, q1, q2, q3, q4, q5⟩ := h
      exact .inr (hw2 _ (o4 i cs vs j c v b q1 q2 q3 q4 q5))
    | ar j =>
      obtain ⟨c, v, q1, q2, q3⟩ := h
      exact .inr (hw1 _ (a4 j c v b q1 q2 q3))
  have hcross : ∀ b, HasRow E σ ts1 b → HasRow E σ ts2 b → False := fun b ⟨k, hk, e, sz, T, q1, q2⟩ ⟨k', hk', e', sz', T', q1', q2'⟩ => by
    have := hg.rr k k' e sz T e' sz' T' b q1 q1' q2 q2'
    subst this
    exact hn3 _ hk _ hk' rfl
  have hH : Holds E.m w vals args objs bs cvs := by
    refine ⟨hg.ms, by omega, by rw [hbs]; simp [o1], by omega, a2, fun j i off v q1 q2 => ?_, fun i b cs vs q1 q2 q3 => ?_, fun x y b q1 q2 => ?_⟩
    · obtain ⟨o, q3, q4⟩ := a3 j i off v q1 q2
      exact ⟨E.loc o, (hbs_at i _).2 ⟨o, q3, rfl⟩, q4⟩
    · obtain ⟨o, q4, q5⟩ := (hbs_at i b).1 q1
      obtain ⟨p1, p2, p3, p4⟩ := o3 i o cs vs q4 q2 q3
      subst q5
      exact ⟨p2, p3, (hg.ob o _ p1).2.1, p4⟩
    · have hobrow : ∀ i, bs[i]? = some b → HasRow E σ (ts1 ++ ts2) b → False := fun i p1 p2 => by
        obtain ⟨o, q3, q4⟩ := (hbs_at i b).1 p1
        obtain ⟨n, q5⟩ := hobn i o q3
        exact hrowne b p2 o n q5 q4
      cases x with
      | ob i =>
        cases y with
        | ob i' =>
          obtain ⟨o, q3, q4⟩ := (hbs_at i b).1 q1
          obtain ⟨o', q3', q4'⟩ := (hbs_at i' b).1 q2
          obtain ⟨n, q5⟩ := hobn i o q3
          obtain ⟨n', q5'⟩ := hobn i' o' q3'
          have := hg.oo o o' n n' q5 q5' (by rw [q4, q4'])
          subst this
          rw [nodup_inj hi q3 q3']
        | ce i' j' => obtain ⟨cs, vs, c, v, r1, r2, r3, r4, r5⟩ := q2; exact (hobrow i q1 (hw2 _ (o4 i' cs vs j' c v b r1 r2 r3 r4 r5))).elim
        | ar j' => obtain ⟨c, v, r1, r2, r3⟩ := q2; exact (hobrow i q1 (hw1 _ (a4 j' c v b r1 r2 r3))).elim
      | ce i j =>
        obtain ⟨cs, vs, c, v, r1, r2, r3, r4, r5⟩ := q1
        cases y with
        | ob i' => exact (hobrow i' q2 (hw2 _ (o4 i cs vs j c v b r1 r2 r3 r4 r5))).elim
        | ce i' j' =>
          obtain ⟨cs', vs', c', v', s1, s2, s3, s4, s5⟩ := q2
          obtain ⟨rfl, rfl⟩ := o5 i i' cs cs' vs vs' j j' c c' v v' b r1 r2 r3 r4 r5 s1 s2 s3 s4 s5
          rfl
        | ar j' =>
          obtain ⟨c', v', s1, s2, s3⟩ := q2
          exact (hcross b (a4 j' c' v' b s1 s2 s3) (o4 i cs vs j c v b r1 r2 r3 r4 r5)).elim
      | ar j =>
        obtain ⟨c, v, r1, r2, r3⟩ := q1
        cases y with
        | ob i' => exact (hobrow i' q2 (hw1 _ (a4 j c v b r1 r2 r3))).elim
        | ce i' j' =>
          obtain ⟨cs', vs', c', v', s1, s2, s3, s4, s5⟩ := q2
          exact (hcross b (a4 j c v b r1 r2 r3) (o4 i' cs' vs' j' c' v' b s1 s2 s3 s4 s5)).elim
        | ar j' =>
          obtain ⟨c', v', s1, s2, s3⟩ := q2
          rw [a5 j j' c c' v v' b r1 r2 r3 s1 s2 s3]
  rw [← hbs]
  exact ⟨cvs, hH, hOw⟩

theorem ok_call {d : Tmp} {K : FuncId} (hK : ∀ args w, (callFunc K args).run P w = .ok (.enter K args) w) {xs : List Operand} {tys : Array TypeId} {args : List Arg} {objs objs' : List (List CA)} {res : Arg} (hspec : Spec P K args objs res objs')
    (ids : List Id) {ts1 ts2 : List Id} (h1 : MArgs σ ids (xs.map (ev σ)) args ts1) (h2 : MObjs σ ids objs ts2) (hn : (ts1 ++ ts2).Nodup) (hi : ids.Nodup) (hlen : objs'.length = objs.length ∨ objs'.length = objs.length + 1)
    (ty : TypeId) (pos : String) (af : Array Edge) :
    OpOk P ops C ⟨some d, .call { callee := .value (.func K), args := xs.toArray, argTypes := tys }, ty, pos, af, none⟩ (rds σ (callL d xs ids (ts1 ++ ts2) objs objs')) (callW σ d ids (ts1 ++ ts2) objs' res) := by
  intro E σ' a w Kt Q hd hr hg hK'
  have hr := rds_all hr
  have hd0 := hd d rfl
  -- the state as it is
  obtain ⟨hr1, hrest⟩ := mem_l hr
  obtain ⟨hr2, hrest⟩ := mem_l hrest
  obtain ⟨hr3, hr4⟩ := mem_l hrest
  have ht1 : ∀ k ∈ ts1 ++ ts2, σ' (.q k) = σ (.q k) ∧ σ' (.k k) = σ (.k k) := fun k hk => ⟨hr2 _ (toksL_mem hk).1, hr2 _ (toksL_mem hk).2⟩
  have h2' := h2.congr (fun k hk => ht1 k (List.mem_append_right _ hk)) hr3
  have o1 : objs.length = ids.length := (mobjs_ok hg h2' (List.nodup_append.1 hn).2.1).choose_spec.1
  have h1' := h1.congr (fun k hk => ht1 k (List.mem_append_left _ hk)) fun o ho => hr3 _ (objsL_mem (by omega) ho)
  rw [← evs_congr hr1] at h1'
  have hle : ids.length ≤ objs'.length := by omega
  rw [← callW_congr hle hr] at hK'
  clear hr hrest hr1 hr2 hr3 hr4 ht1 h1 h2
  obtain ⟨cvs, hH, hOw⟩ := holds_of hg h1' h2' (xs.map a.eval) (by simp) (fun j x v q1 q2 => by
    rw [List.getElem?_map] at q1 q2
    cases hx : xs[j]? with
    | none => rw [hx] at q1; cases q1
    | some y => rw [hx] at q1 q2; cases q1; cases q2; exact ev_ok hg y) hn hi
  obtain ⟨bs, hbs⟩ : ∃ bs, bs = ids.map E.loc := ⟨_, rfl⟩
  rw [← hbs] at hH hOw
  have hbs_at : ∀ (i : Nat) (b : Nat), bs[i]? = some b ↔ ∃ o, ids[i]? = some o ∧ E.loc o = b := fun i b => by
    rw [hbs, List.getElem?_map]
    cases ids[i]? <;> simp
  -- the call
  have hcall := hspec E.m w (xs.map a.eval) bs cvs hH
  rw [if_pos (by simp [Region.wanted])]
  have hrun : (execOp a.eval ⟨some d, .call { callee := .value (.func K), args := xs.toArray, argTypes := tys }, ty, pos, af, none⟩).run P w = .ok (.enter K (xs.map a.eval).toArray) w := by
    simp [execOp, resolve, Act.eval, Deferred.ofValue, invoke, hK]
  show Oper.upon _ _ _ _ _ _
  rw [hrun]
  show Calls _ _ _ _ _
  refine hcall.mono ?_
  rintro e w' ⟨v, m', bs', cvs', rfl, hH', hmle, hchg, hbs', hmk, hnew⟩
  show Kt (a.put (some d) v) w'
  obtain ⟨d1, d2, d3, d4, d5, d6⟩ := dropW_at (σ := σ') (ts := ts1 ++ ts2) (ids := ids)
  obtain ⟨σ1, hσ1⟩ : ∃ s, s = puts σ' (dropW σ' (ts1 ++ ts2) ids) := ⟨_, rfl⟩
  rw [← hσ1] at d1 d2 d3 d4 d5 d6
  obtain ⟨g1, l1⟩ := hg.drop σ1 d1 d2 d3 (fun o n h => (d4 o n h).1) (fun k e sz T h => (d5 k e sz T h).1) d6
  have hD : ∀ b, (∃ x, Ow (xs.map a.eval) args objs bs cvs x b) → C.D b ∨ C.w0.heap.size ≤ b := fun b ⟨x, hx⟩ => by
    rcases hOw x b hx with ⟨o, n, _, q1, q2⟩ | ⟨k, _, e, sz, T, q1, q2⟩
    · subst q2; exact (hg.ob o n q1).2.2
    · exact ((hg.ro k e sz T q1).2 b q2).2
  have hfar : ∀ b, LiveB E σ1 b → ¬ ∃ x, Ow (xs.map a.eval) args objs bs cvs x b := fun b hL ⟨x, hx⟩ => by
    rcases hL with ⟨o, n, q1, q2⟩ | ⟨k, e, sz, T, q1, q2⟩
    · obtain ⟨q3, q4⟩ := d4 o n q1
      rcases hOw x b hx with ⟨o', n', r1, r2, r3⟩ | ⟨k, _, e, sz, T, r1, r2⟩
      · have := hg.oo o o' n n' q3 r2 (by rw [q2, r3]); subst this; exact q4 r1
      · exact hg.or o n k e sz T q3 r1 (by rw [r2, q2])
    · obtain ⟨q3, q4⟩ := d5 k e sz T q1
      rcases hOw x b hx with ⟨o', n', r1, r2, r3⟩ | ⟨k', hk', e', sz', T', r1, r2⟩
      · exact hg.or o' n' k e sz T r2 q3 (by rw [q2, r3])
      · have := hg.rr k k' e sz T e' sz' T' b q3 r1 q2 r2; subst this; exact q4 hk'
  have g2 := g1.turn (fun b => ∃ x, Ow (xs.map a.eval) args objs bs cvs x b) w' m' hchg hmle hH'.ms hD hfar hmk
  obtain ⟨E2, hE2⟩ : ∃ E2 : Env, E2 = { E with m := m' } := ⟨_, rfl⟩
  rw [← hE2] at g2
  have e2m : E2.m = m' := by rw [hE2]
  have e2l : ∀ o, E2.loc o = E.loc o := fun o => by rw [hE2]
  have e2L : ∀ b, LiveB E2 σ1 b → LiveB E σ1 b := fun b h => by rw [hE2] at h; exact h
  have hltw : ∀ b, LiveB E σ1 b → b < w.heap.size := fun b hL => by
    rcases hL with ⟨o, n, q1, q2⟩ | ⟨k, e, sz, T, q1, q2⟩
    · obtain ⟨⟨cs, ty, q3, _⟩, _⟩ := g1.ob o n q1
      subst q2; exact (Array.getElem?_eq_some_iff.1 q3).1
    · exact ((g1.ro k e sz T q1).1.lt b q2).2
  have hnotL : ∀ x b, Ow [v] [res] objs' bs' cvs' x b → ¬ LiveB E2 σ1 b := fun x b hx hL => by
    have hL := e2L b hL
    rcases hnew x b hx with r | r
    · exact hfar b hL r
    · have := hltw b hL; omega
  have hD' : ∀ x b, Ow [v] [res] objs' bs' cvs' x b → C.D b ∨ C.w0.heap.size ≤ b := fun x b hx => by
    rcases hnew x b hx with r | r
    · exact hD b r
    · have := hg.fr.size; exact .inr (by omega)
  have hbl' : bs'.length = objs'.length := hH'.ol
  have hcl' : cvs'.length = objs'.length := hH'.cl
  have htake : ∀ (i : Nat), i < ids.length → ∃ o, ids[i]? = some o ∧ bs'[i]? = some (E.loc o) := fun i hi => ⟨ids[i], by simp [hi], hbs' i _ ((hbs_at i _).2 ⟨ids[i], by simp [hi], rfl⟩)⟩
  have hOb : ∀ (i b : Nat), ObB (objs'.take ids.length) (bs'.take ids.length) (cvs'.take ids.length) i b → i < ids.length ∧ ((Ow [v] [res] objs' bs' cvs' (.ob i) b) ∨ ∃ j, Ow [v] [res] objs' bs' cvs' (.ce i j) b) := fun i b h => by
    rcases h with h | ⟨j, cs, vs, c, u, q1, q2, q3⟩
    · rw [List.getElem?_take] at h
      split at h
      · exact ⟨by assumption, .inl h⟩
      · cases h
    · rw [List.getElem?_take] at q1 q2
      split at q1
      · rename_i hl; rw [if_pos hl] at q2; exact ⟨hl, .inr ⟨j, cs, vs, c, u, q1, q2, q3⟩⟩
      · cases q1
  have hObdi : ∀ i i' b, ObB (objs'.take ids.length) (bs'.take ids.length) (cvs'.take ids.length) i b → ObB (objs'.take ids.length) (bs'.take ids.length) (cvs'.take ids.length) i' b → i = i' := fun i i' b p p' => by
    obtain ⟨_, p⟩ := hOb i b p
    obtain ⟨_, p'⟩ := hOb i' b p'
    rcases p with p | ⟨j, p⟩ <;> rcases p' with p' | ⟨j', p'⟩
    · have := hH'.di _ _ b p p'; cases this; rfl
    · have := hH'.di _ _ b p p'; cases this
    · have := hH'.di _ _ b p p'; cases this
    · have := hH'.di _ _ b p p'; cases this; rfl
  obtain ⟨E3, g3, mo3, em3, el3, eg3, eL3, ep3⟩ := objsW_ok ids (objs'.take ids.length) (bs'.take ids.length) (cvs'.take ids.length) E2 σ1 g2 (by rw [List.length_take]; omega) (by rw [List.length_take]; omega) (by rw [List.length_take]; omega) hi
    (fun i o b cs vs q1 q2 q3 q4 => by
      have hil := (List.getElem?_eq_some_iff.1 q1).1
      rw [List.getElem?_take, if_pos hil] at q2 q3 q4
      obtain ⟨o', r1, r2⟩ := htake i hil
      rw [q1] at r1; cases r1
      rw [q2] at r2; cases r2
      obtain ⟨p1, p2, p3, p4⟩ := hH'.ob i _ cs vs q2 q3 q4
      refine ⟨e2l o, p1, p2, fun k => by rw [e2m]; exact p3 k, fun j c u s1 s2 => by rw [e2m]; exact p4 j c u s1 s2, fun j c u b' s1 s2 s3 he => ?_, fun j j' c c' u u' b' s1 s2 s3 s4 s5 s6 => ?_⟩
      · subst he
        have := hH'.di (.ob i) (.ce i j) _ q2 ⟨cs, vs, c, u, q3, q4, s1, s2, s3⟩
        cases this
      · have := hH'.di (.ce i j) (.ce i j') b' ⟨cs, vs, c, u, q3, q4, s1, s2, s3⟩ ⟨cs, vs, c', u', q3, q4, s4, s5, s6⟩
        cases this; rfl)
    (fun i b p => by
      obtain ⟨_, p⟩ := hOb i b p
      rcases p with p | ⟨j, p⟩
      · exact ⟨hD' _ b p, hnotL _ b p⟩
      · exact ⟨hD' _ b p, hnotL _ b p⟩) hObdi
  have eW : objsW σ1 ids (objs'.take ids.length) = objsW σ1 ids objs' := by
    have : ∀ (ids : List Id) (objs : List (List CA)) (s : St), objsW s ids (objs.take ids.length) = objsW s ids objs := by
      intro ids
      induction ids with
      | nil => intro objs s; simp [objsW]
      | cons o ids ih =>
        intro objs s
        cases objs with
        | nil => simp [objsW]
        | cons cs objs => simp [objsW, ih]
    exact this _ _ _
  rw [eW] at g3 mo3 eg3 eL3 ep3
  obtain ⟨σ2, hσ2⟩ : ∃ s, s = puts σ1 (objsW σ1 ids objs') := ⟨_, rfl⟩
  rw [← hσ2] at g3 mo3 eg3 eL3 ep3
  have em3' : E3.m = m' := by rw [em3, e2m]
  have hne3 : ∀ x b, Ow [v] [res] objs' bs' cvs' x b → (∀ i, i < ids.length → x ≠ .ob i ∧ ∀ j, x ≠ .ce i j) → ¬ LiveB E3 σ2 b := fun x b hx hno hL => by
    rcases eL3 b hL with r | ⟨i, r⟩
    · exact hnotL x b hx r
    · obtain ⟨hil, r⟩ := hOb i b r
      rcases r with r | ⟨j, r⟩
      · exact (hno i hil).1 (hH'.di _ _ b hx r)
      · exact (hno i hil).2 j (hH'.di _ _ b hx r)
  -- a new object
  have hfresh : ∃ E4 σ3, σ3 = puts σ2 (freshW σ2 d (objs'.drop ids.length)) ∧ Gm C E4 σ3 a w' ∧ Mo E3 σ2 E4 σ3 ∧ E4.m = m' ∧ (∀ b, LiveB E4 σ3 b → LiveB E3 σ2 b ∨ (∃ x, (x = .ob ids.length ∨ ∃ j, x = .ce ids.length j) ∧ Ow [v] [res] objs' bs' cvs' x b)) ∧
      ∀ b off, bs'[ids.length]? = some b → RdA E4 σ3 (.ptr (d, 0) (gg σ2 (d, 0) + 1) off) (.pointer (some ⟨b, off, none⟩)) := by
    rcases hlen with hl | hl
    · have hdrop : objs'.drop ids.length = [] := List.drop_eq_nil_of_le (by omega)
      refine ⟨E3, σ2, by rw [hdrop]; rfl, g3, Mo.same (fun _ => rfl) (fun _ => rfl) (fun _ => rfl), em3', fun b h => .inl h, fun b off h => ?_⟩
      rw [List.getElem?_eq_none (by omega)] at h; cases h
    · have hlt : ids.length < objs'.length := by omega
      have hdrop : objs'.drop ids.length = objs'[ids.length] :: objs'.drop (ids.length + 1) := List.drop_eq_getElem_cons hlt
      have q1 : bs'[ids.length]? = some (bs'[ids.length]'(by omega)) := by simp [hbl', hlt]
      have q2 : objs'[ids.length]? = some objs'[ids.length] := by simp [hlt]
      have q3 : cvs'[ids.length]? = some (cvs'[ids.length]'(by omega)) := by simp [hcl', hlt]
      generalize bs'[ids.length]'(by omega) = b0 at q1
      generalize objs'[ids.length] = cs at q2 hdrop
      generalize cvs'[ids.length]'(by omega) = vs at q3
      obtain ⟨p1, ⟨ty', p2⟩, p3, p4⟩ := hH'.ob ids.length b0 cs vs q1 q2 q3
      have hob : Ow [v] [res] objs' bs' cvs' (.ob ids.length) b0 := q1
      have hce : ∀ (j : Nat) (c : CA) (u : Value) (b' : Nat), cs[j]? = some c → vs[j]? = some u → ownB c u = some b' → Ow [v] [res] objs' bs' cvs' (.ce ids.length j) b' := fun j c u b' s1 s2 s3 => ⟨cs, vs, c, u, q2, q3, s1, s2, s3⟩
      obtain ⟨E4, f1, f2, f3, f4, f5, f6⟩ := objGain_ok g3 (d, 0) (gg σ2 (d, 0) + 1) b0 (.inr ⟨by omega, C.np d hd0⟩) ty' cs vs p1 p2 (fun k => by rw [em3']; exact p3 k) (hD' _ b0 hob)
        (hne3 _ b0 hob fun i hil => ⟨fun he => by cases he; omega, fun j he => by cases he⟩) (fun j c u s1 s2 => by rw [em3']; exact p4 j c u s1 s2)
        (fun j c u b' s1 s2 s3 => ⟨hD' _ b' (hce j c u b' s1 s2 s3), hne3 _ b' (hce j c u b' s1 s2 s3) fun i hil => ⟨fun he => (by cases he), fun j' he => by cases he; omega⟩, fun he => by
          subst he
          have := hH'.di _ _ _ hob (hce j c u _ s1 s2 s3); cases this⟩)
        (fun j j' c c' u u' b' s1 s2 s3 s4 s5 s6 => by have := hH'.di _ _ b' (hce j c u b' s1 s2 s3) (hce j' c' u' b' s4 s5 s6); cases this; rfl)
      rw [← freshW_cons cs (objs'.drop (ids.length + 1)) d, ← hdrop] at f1 f2 f5 f6
      refine ⟨E4, _, rfl, f1, f2, by rw [f3, em3'], fun b hL => ?_, fun b off hb => ?_⟩
      · rcases f5 b hL with r | r | ⟨j, c, u, r1, r2, r3⟩
        · exact .inl r
        · subst r; exact .inr ⟨_, .inl rfl, hob⟩
        · exact .inr ⟨_, .inr ⟨j, rfl⟩, hce j c u b r1 r2 r3⟩
      · rw [q1] at hb; cases hb; exact f6 off
  obtain ⟨E4, σ3, hσ3, g4, mo4, em4, eL4, ep4⟩ := hfresh
  -- the result's row
  have hrow : ∃ E5 σ4, σ4 = puts σ3 (resRow σ3 d res) ∧ Gm C E5 σ4 a w' ∧ Mo E4 σ3 E5 σ4 ∧ E5.m = m' ∧ ∀ e sz es, res = .ca (.own e sz es) → RdA E5 σ4 (.own (d, 0) (gq σ3 (d, 0) + 1) e sz es) v := by
    by_cases hres : ∃ e sz es, res = .ca (.own e sz es)
    · obtain ⟨e, sz, es, rfl⟩ := hres
      obtain ⟨p1, ys, p2, p3⟩ := hH'.ca 0 (.own e sz es) v rfl rfl
      have har : ∀ b, v.ownBlock = some b → Ow [v] [.ca (.own e sz es)] objs' bs' cvs' (.ar 0) b := fun b hb => ⟨_, v, rfl, rfl, hb⟩
      obtain ⟨E5, f1, f2, f3, f4, f5, f6⟩ := g4.gainRow (d, 0) (gq σ3 (d, 0) + 1) (by omega) e sz es.length v ys p2 (fun b hb => by
        refine ⟨fun i => by rw [em4]; exact p3 b hb i, hD' _ b (har b hb), fun hL => ?_⟩
        rcases eL4 b hL with r | ⟨x, hx, r⟩
        · exact hne3 _ b (har b hb) (fun i _ => ⟨fun he => (by cases he), fun j he => by cases he⟩) r
        · have := hH'.di _ _ b (har b hb) r
          rcases hx with hx | ⟨j, hx⟩ <;> rw [hx] at this <;> cases this)
      exact ⟨E5, _, rfl, f1, f2, by rw [f3, em4], fun e' sz' es' he => by cases he; exact f6 es rfl (by rw [em4]; exact p1)⟩
    · have hr : resRow σ3 d res = [] := by
        unfold resRow
        split
        · rename_i e sz es; exact absurd ⟨e, sz, es, rfl⟩ hres
        · rfl
      exact ⟨E4, σ3, by rw [hr]; rfl, g4, Mo.same (fun _ => rfl) (fun _ => rfl) (fun _ => rfl), em4, fun e sz es he => absurd ⟨e, sz, es, he⟩ hres⟩
  obtain ⟨E5, σ4, hσ4, g5, mo5, em5, er5⟩ := hrow
  have hAV : RdA E5 σ4 (resAV σ2 σ3 d ids res) v := by
    cases res with
    | ca c =>
      cases c with
      | val y => show Rd E5.m y v; rw [em5]; exact hH'.ca 0 (.val y) v rfl rfl
      | own e sz es => exact er5 e sz es rfl
    | ptr i off =>
      obtain ⟨b, q1, rfl⟩ := hH'.pt 0 i off v rfl rfl
      by_cases hil : i < ids.length
      · obtain ⟨o, q2, q3⟩ := htake i hil
        rw [q1] at q3; cases q3
        simp only [resAV, q2]
        have := ep3 i o _ q2 (by rw [List.getElem?_take, if_pos hil]; exact q1) off
        rw [eg3 o]
        exact (this.mo mo4).mo mo5
      · have hlt := (List.getElem?_eq_some_iff.1 q1).1
        have hie : i = ids.length := by omega
        subst hie
        have hnone : ids[ids.length]? = none := List.getElem?_eq_none (Nat.le_refl _)
        simp only [resAV, hnone]
        exact (ep4 b off q1).mo mo5
  have hfin : puts σ' (callW σ' d ids (ts1 ++ ts2) objs' res) = put σ4 (.s d) (.av (resAV σ2 σ3 d ids res)) := by
    unfold callW
    rw [← hσ1, ← hσ2, ← hσ3]
    simp only [puts_append]
    rw [← hσ1, ← hσ2, ← hσ3, ← hσ4]
    rfl
  refine hK' _ _ E5 ?_
  rw [hfin]
  exact g5.slot d _ v hd0 hAV
end
end Go.Proofs.YtkdnaemkhgjbpaaDoor
