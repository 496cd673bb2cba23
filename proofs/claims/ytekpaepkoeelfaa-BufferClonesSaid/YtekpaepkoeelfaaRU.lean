
/- Maps whose values are slices that are owned: taken out, put in, given back, let go; keys that are structs. -/
import Derived.Test.YtekpaepkoeelfaaRN
namespace Go.Proofs.Ytekpaepkoeelfaa
open Go.RowKit
set_option linter.unusedVariables false
set_option linter.unusedSimpArgs false

def regW (σ : St) (k : Id) (x : T) : List (Pl × X) := [(.g k, .num (gg σ k + 1)), (.o k, .non), (.l k, .non), (.r k, .tree x)]
section
variable {P : Program} {ops : Array Oper} {C : Ctx} {E : Env} {σ : St} {a : Act} {w : World}
/-- What is owned whole is taken, under its name. -/
theorem Gm.gainKeep (h : Gm C E σ a w) (k : Id) (x : T) (v : Value) (F : List Nat) (hx : ∀ y, x ≠ .av y) (hh : Hg E.m w [x] [v] F) (hb : ∀ b ∈ F, (C.D b ∨ C.w0.heap.size ≤ b) ∧ ¬ LiveB E σ b) (hk : k.2 ≠ 0) (hkv : v = E.bv k) :
    ∃ E', Gm C E' (puts σ (regW σ k x)) a w ∧ Mo E σ E' (puts σ (regW σ k x)) ∧ E'.m = E.m ∧ (∀ o, o ≠ k → E'.loc o = E.loc o) ∧ (∀ b, LiveB E' (puts σ (regW σ k x)) b → LiveB E σ b ∨ b ∈ F) ∧ E'.bv = E.bv := by
  obtain ⟨σ', hσ'⟩ : ∃ s, s = puts σ (regW σ k x) := ⟨_, rfl⟩
  have qh : ∀ k', σ' (.h k') = σ (.h k') := by intro k'; rw [hσ']; simp [regW, puts, put]
  have qg : ∀ k', σ' (.g k') = if k' = k then .num (gg σ k + 1) else σ (.g k') := by
    intro k'; rw [hσ']; by_cases e : k' = k
    · subst e; simp [regW, puts, put]
    · simp [regW, puts, put, e]
  have qo : ∀ k', σ' (.o k') = if k' = k then .non else σ (.o k') := by
    intro k'; rw [hσ']; by_cases e : k' = k
    · subst e; simp [regW, puts, put]
    · simp [regW, puts, put, e]
  have ql : ∀ k', σ' (.l k') = if k' = k then .non else σ (.l k') := by
    intro k'; rw [hσ']; by_cases e : k' = k
    · subst e; simp [regW, puts, put]
    · simp [regW, puts, put, e]
  have qr : ∀ k', σ' (.r k') = if k' = k then .tree x else σ (.r k') := by
    intro k'; rw [hσ']; by_cases e : k' = k
    · subst e; simp [regW, puts, put]
    · simp [regW, puts, put, e]
  have qk : ∀ k', σ' (.k k') = σ (.k k') := by intro k'; rw [hσ']; simp [regW, puts, put]
  have qq : ∀ k', σ' (.q k') = σ (.q k') := by intro k'; rw [hσ']; simp [regW, puts, put]
  have qs : ∀ k', σ' (.s k') = σ (.s k') := by intro k'; rw [hσ']; simp [regW, puts, put]
  have qc : ∀ k' i, σ' (.c k' i) = σ (.c k' i) := by intro k' i; rw [hσ']; simp [regW, puts, put]
  rw [← hσ']
  clear hσ'
  obtain ⟨b0, hb0⟩ : ∃ b0, ∀ ys, x = .box ys → v = .pointer (some ⟨b0, 0, none⟩) ∧ b0 ∈ F := by
    cases hh with
    | av => exact absurd rfl (hx _)
    | box => exact ⟨_, fun ys h => ⟨rfl, by simp⟩⟩
    | row => exact ⟨0, fun ys h => by cases h⟩
    | rw => exact ⟨0, fun ys h => by cases h⟩
    | mp => exact ⟨0, fun ys h => by cases h⟩
    | pm => exact ⟨0, fun ys h => by cases h⟩
    | bag => exact ⟨0, fun ys h => by cases h⟩
  obtain ⟨E', hE'⟩ : ∃ E' : Env, E' = { E with loc := fun o' => if o' = k then b0 else E.loc o', bv := fun o' => if o' = k then v else E.bv o', bf := fun o' => if o' = k then F else E.bf o' } := ⟨_, rfl⟩
  have hm : E'.m = E.m := by rw [hE']
  have hloc : ∀ o', o' ≠ k → E'.loc o' = E.loc o' := by intro o' e; rw [hE']; simp [e]
  have hlock : E'.loc k = b0 := by rw [hE']; simp
  have hrv : E'.rv = E.rv := by rw [hE']
  have hrx : E'.rx = E.rx := by rw [hE']
  have hbv : ∀ o', E'.bv o' = if o' = k then v else E.bv o' := by intro o'; rw [hE']
  have hbf : ∀ o', E'.bf o' = if o' = k then F else E.bf o' := by intro o'; rw [hE']
  clear hE'
  have hmo : Mo E σ E' σ' := by
    refine ⟨by rw [hm]; exact Mem.le_refl _, fun o' => ?_, fun k' => ⟨Nat.le_of_eq (gq_of (qq k')).symm, fun _ e sz T h2 => ⟨T, by rw [← qk]; exact h2, Nat.le_refl _, fun _ => by rw [hrv]⟩⟩, fun k' => ?_⟩
    · by_cases e : o' = k
      · subst e
        have : gg σ' o' = gg σ o' + 1 := gg_num (by rw [qg, if_pos rfl])
        exact ⟨by omega, fun e => absurd e (by omega)⟩
      · have : gg σ' o' = gg σ o' := gg_of (by rw [qg, if_neg e])
        exact ⟨by omega, fun _ => hloc _ e⟩
    · exact ⟨Nat.le_of_eq (gh_of (qh k')).symm, fun _ => by rw [hbv]; split <;> simp_all⟩
  have hnum : ∀ o n, σ' (.o o) = .num n → o ≠ k ∧ σ (.o o) = .num n := fun o n h1 => by
    rw [qo] at h1
    by_cases e : o = k
    · rw [if_pos e] at h1; cases h1
    · rw [if_neg e] at h1; exact ⟨e, h1⟩
  have hnl : ∀ t b, HoB E σ t b → b ∉ F := fun t b h1 h2 => (hb b h2).2 ⟨t, h1⟩
  refine ⟨E', ⟨h.sz, h.df, by rw [hm]; exact h.ms, h.fr, fun t y h1 => (h.sl t y (by rw [← qs]; exact h1)).mo hmo, fun o i y n h1 h2 h3 => ?_, fun o n h1 => ?_, fun k' e s T h1 => ?_, fun o1 o2 n n' h1 h2 h3 => ?_, fun k1 k2 e s T e' s' T' b h1 h2 h3 h4 => ?_, fun o n k' e s T h1 h2 => ?_, fun o b h1 => ?_, by rw [hm]; exact h.ml, by rw [hm]; exact h.mx, ?_⟩, hmo, hm, hloc, fun b hL => ?_, ?_⟩
  · obtain ⟨e, h2⟩ := hnum o n h2
    rw [qc] at h1
    obtain ⟨u, hu, hr⟩ := h.ce o i y n h1 h2 h3
    exact ⟨u, by rw [hloc _ e]; exact hu, hr.mo hmo⟩
  · obtain ⟨e, h1⟩ := hnum o n h1
    rw [hloc _ e, hm]
    exact h.ob o n h1
  · rw [qk] at h1
    rw [hrv, hrx, hm]
    exact h.ro k' e s T h1
  · obtain ⟨e1, h1⟩ := hnum o1 n h1
    obtain ⟨e2, h2⟩ := hnum o2 n' h2
    rw [hloc _ e1, hloc _ e2] at h3
    exact h.oo o1 o2 n n' h1 h2 h3
  · rw [qk] at h1 h2
    rw [hrv] at h3 h4
    exact h.rr k1 k2 e s T e' s' T' b h1 h2 h3 h4
  · obtain ⟨e1, h1⟩ := hnum o n h1
    rw [qk] at h2
    rw [hrv, hloc _ e1]
    exact h.or o n k' e s T h1 h2
  · by_cases e : o = k
    · subst e; rw [C.nq o hk] at h1; cases h1
    · rw [hloc _ e]; exact h.pi o b h1
  · refine ⟨fun k' y h1 => ?_, fun k' y b h1 h2 => ?_, fun k' ys h1 => ?_, fun k1 k2 x1 x2 b h1 h2 h3 h4 => ?_, fun o n k' y h1 h2 h3 => ?_, fun k1 e s T k' y b h1 h2 h3 h4 => ?_, fun k' y i z h1 h2 => ?_, fun o k' g s h1 => ?_, fun o o' k1 g s k2 g' s' h1 h2 h3 => ?_⟩
    · rw [hm, hbv, hbf]
      rw [qr] at h1
      by_cases e : k' = k
      · rw [if_pos e] at h1; cases h1; rw [if_pos e, if_pos e]; exact ⟨hh, hx⟩
      · rw [if_neg e] at h1 ⊢; rw [if_neg e]; exact h.tr.hg k' y h1
    · rw [hbf] at h2
      rw [qr] at h1
      by_cases e : k' = k
      · rw [if_pos e] at h2; exact (hb b h2).1
      · rw [if_neg e] at h1 h2; exact h.tr.dd k' y b h1 h2
    · rw [qr] at h1
      rw [hbv]
      by_cases e : k' = k
      · rw [if_pos e] at h1 ⊢
        cases h1
        rw [e, hlock]
        exact ⟨(hb0 ys rfl).1, hk⟩
      · rw [if_neg e] at h1 ⊢
        rw [hloc _ e]
        exact h.tr.bx k' ys h1
    · rw [hbf] at h3 h4
      rw [qr] at h1 h2
      by_cases e1 : k1 = k
      · by_cases e2 : k2 = k
        · rw [e1, e2]
        · rw [if_pos e1] at h3
          rw [if_neg e2] at h2 h4
          exact absurd h3 (hnl (.r k2) b ⟨x2, h2, h4⟩)
      · rw [if_neg e1] at h1 h3
        by_cases e2 : k2 = k
        · rw [if_pos e2] at h4
          exact absurd h4 (hnl (.r k1) b ⟨x1, h1, h3⟩)
        · rw [if_neg e2] at h2 h4
          exact h.tr.tt k1 k2 x1 x2 b h1 h2 h3 h4
    · obtain ⟨e1, h1⟩ := hnum o n h1
      rw [hloc _ e1, hbf] at h3
      rw [qr] at h2
      by_cases e : k' = k
      · rw [if_pos e] at h3; exact hnl (.o o) _ ⟨n, h1, rfl⟩ h3
      · rw [if_neg e] at h2 h3; exact h.tr.ot o n k' y h1 h2 h3
    · rw [qk] at h1
      rw [qr] at h2
      rw [hbf] at h3
      rw [hrv] at h4
      by_cases e1 : k' = k
      · rw [if_pos e1] at h3; exact hnl (.k k1) b ⟨e, s, T, h1, h4⟩ h3
      · rw [if_neg e1] at h2 h3; exact h.tr.tk k1 e s T k' y b h1 h2 h3 h4
    · rw [qr] at h1
      rw [ql] at h2
      by_cases e : k' = k
      · rw [if_pos e] at h2; cases h2
      · rw [if_neg e] at h1 h2
        rw [hbv, if_neg e]
        obtain ⟨u, hu, hr⟩ := h.tr.le k' y i z h1 h2
        exact ⟨u, hu, hr.mo hmo⟩
    · rw [qo] at h1
      by_cases e1 : o = k
      · rw [if_pos e1] at h1; cases h1
      · rw [if_neg e1] at h1
        obtain ⟨mb, n, bs, l, h3, h4, h5, h6⟩ := h.tr.it o k' g s h1
        have hgl := (hmo.g k').1
        refine ⟨mb, n, bs, l, by rw [hloc _ e1]; exact h3, by rw [hloc _ e1]; exact h4, by omega, fun he y hy => ?_⟩
        by_cases e : k' = k
        · subst e
          have : gg σ' k' = gg σ k' + 1 := gg_num (by rw [qg, if_pos rfl])
          omega
        · rw [qr, if_neg e] at hy
          have := h6 (by omega) y hy
          unfold ItRel at this ⊢
          rw [hbv, if_neg e]; exact this
    · rw [qo] at h1 h2
      by_cases e1 : o = k
      · rw [if_pos e1] at h1; cases h1
      · by_cases e2 : o' = k
        · rw [if_pos e2] at h2; cases h2
        · rw [if_neg e1] at h1
          rw [if_neg e2] at h2
          rw [hloc _ e1, hloc _ e2] at h3
          exact h.tr.ii o o' k1 g s k2 g' s' h1 h2 h3
  · obtain ⟨t, ht⟩ := hL
    cases t with
    | o i =>
      obtain ⟨n, h1, h2⟩ := ht
      obtain ⟨e, h1⟩ := hnum i n h1
      rw [hloc _ e] at h2
      exact .inl ⟨.o i, n, h1, h2⟩
    | k i =>
      obtain ⟨e, s, T, h1, h2⟩ := ht
      rw [qk] at h1
      rw [hrv] at h2
      exact .inl ⟨.k i, e, s, T, h1, h2⟩
    | r i =>
      obtain ⟨y, h1, h2⟩ := ht
      rw [qr] at h1
      rw [hbf] at h2
      by_cases e : i = k
      · rw [if_pos e] at h2; exact .inr h2
      · rw [if_neg e] at h1 h2; exact .inl ⟨.r i, y, h1, h2⟩
  · funext q; rw [hbv]; split <;> simp_all

end
section
variable {m : Mem} {w : World}
theorem Hg.take_rw {xs : List T} {vs : List Value} {F : List Nat} (h : Hg m w xs vs F) : ∀ {j : Nat} {e : TypeId} {sz : Nat} {es : List (List V)}, xs[j]? = some (.rw e sz es) →
    ∃ v F1 F2, vs[j]? = some v ∧ Hg m w [.rw e sz es] [v] F1 ∧ Hg m w (xs.set j (.av .any)) vs F2 ∧ (∀ b ∈ F1, b ∈ F) ∧ (∀ b ∈ F2, b ∈ F) ∧ ∀ b ∈ F1, b ∉ F2 := by
  induction h with
  | nil => intro j e sz es hj; simp at hj
  | av h0 hs ih =>
    intro j e sz es hj
    cases j with
    | zero => simp at hj
    | succ j =>
      obtain ⟨v, F1, F2, h1, h2, h3, h4, h5, h6⟩ := ih (by simpa using hj)
      exact ⟨v, F1, F2, by simpa using h1, h2, .av h0 h3, h4, h5, h6⟩
  | @box ys xs b us ty F0 vs F' a1 a2 a3 hs a5 a6 a7 _ ih =>
    intro j e sz es hj
    cases j with
    | zero => simp at hj
    | succ j =>
      obtain ⟨v, F1, F2, h1, h2, h3, h4, h5, h6⟩ := ih (by simpa using hj)
      refine ⟨v, F1, _, by simpa using h1, h2, .box a1 a2 a3 h3 a5 (fun h => a6 (h5 _ h)) (fun i hi hF => a7 i hi (h5 _ hF)), fun b h => by simp [h4 b h], fun b h => ?_, fun b hb h => ?_⟩
      · rcases List.mem_cons.1 h with rfl | h
        · simp
        · rcases List.mem_append.1 h with h | h
          · simp [h]
          · simp [h5 b h]
      · rcases List.mem_cons.1 h with rfl | h
        · exact a6 (h4 _ hb)
        · rcases List.mem_append.1 h with h | h
          · exact a7 _ h (h4 _ hb)
          · exact h6 _ hb h
  | row a1 a2 a3 a4 hs a6 _ ih =>
    intro j e sz es hj
    cases j with
    | zero => simp at hj
    | succ j =>
      obtain ⟨v, F1, F2, h1, h2, h3, h4, h5, h6⟩ := ih (by simpa using hj)
      refine ⟨v, F1, _, by simpa using h1, h2, .row a1 a2 (fun b hb => ⟨(a3 b hb).1, (a3 b hb).2.1, fun h => (a3 b hb).2.2 (h5 _ h)⟩) a4 h3 (fun i hi hF => a6 i hi (h5 _ hF)), fun b h => by simp [h4 b h], fun b h => ?_, fun b hb h => ?_⟩
      · rcases List.mem_append.1 h with h | h
        · exact List.mem_append_left _ h
        · rcases List.mem_append.1 h with h | h
          · exact List.mem_append_right _ (List.mem_append_left _ h)
          · exact List.mem_append_right _ (List.mem_append_right _ (h5 _ h))
      · rcases List.mem_append.1 h with h | h
        · exact (a3 _ (by simpa using h)).2.2 (h4 _ hb)
        · rcases List.mem_append.1 h with h | h
          · exact a6 _ h (h4 _ hb)
          · exact h6 _ hb h
  | @rw e0 sz0 es0 xs v us vs F' a1 a2 a3 a4 hs ih =>
    intro j e sz es hj
    cases j with
    | zero =>
      simp at hj
      obtain ⟨rfl, rfl, rfl⟩ := hj
      have h1 : Hg m w [.rw e0 sz0 es0] [v] v.ownBlock.toList := by
        have := Hg.rw (m := m) (w := w) (xs := []) (vs := []) (F' := []) a1 a2 a3 (fun b hb => ⟨(a4 b hb).1, by simp⟩) .nil
        simpa using this
      exact ⟨v, _, F', rfl, h1, .av (Rd.any _) hs, fun b h => List.mem_append_left _ h, fun b h => List.mem_append_right _ h, fun b h => (a4 b (by simpa using h)).2⟩
    | succ j =>
      obtain ⟨u, F1, F2, h1, h2, h3, h4, h5, h6⟩ := ih (by simpa using hj)
      refine ⟨u, F1, _, by simpa using h1, h2, .rw a1 a2 a3 (fun b hb => ⟨(a4 b hb).1, fun h => (a4 b hb).2 (h5 _ h)⟩) h3, fun b h => List.mem_append_right _ (h4 b h), fun b h => ?_, fun b hb h => ?_⟩
      · rcases List.mem_append.1 h with h | h
        · exact List.mem_append_left _ h
        · exact List.mem_append_right _ (h5 _ h)
      · rcases List.mem_append.1 h with h | h
        · exact (a4 _ (by simpa using h)).2 (h4 _ hb)
        · exact h6 _ hb h
  | mp a1 a2 a3 a4 a5 a6 a7 hs a9 a10 a11 _ ih =>
    intro j e sz es hj
    cases j with
    | zero => simp at hj
    | succ j =>
      obtain ⟨v, F1, F2, h1, h2, h3, h4, h5, h6⟩ := ih (by simpa using hj)
      refine ⟨v, F1, _, by simpa using h1, h2, .mp a1 a2 a3 a4 a5 a6 a7 h3 a9 (fun h => a10 (h5 _ h)) (fun i hi hF => a11 i hi (h5 _ hF)), fun b h => by simp [h4 b h], fun b h => ?_, fun b hb h => ?_⟩
      · rcases List.mem_cons.1 h with rfl | h
        · simp
        · rcases List.mem_append.1 h with h | h
          · simp [h]
          · simp [h5 b h]
      · rcases List.mem_cons.1 h with rfl | h
        · exact a10 (h4 _ hb)
        · rcases List.mem_append.1 h with h | h
          · exact a11 _ h (h4 _ hb)
          · exact h6 _ hb h
  | pm a1 a2 hs a4 _ ih =>
    intro j e sz es hj
    cases j with
    | zero => simp at hj
    | succ j =>
      obtain ⟨v, F1, F2, h1, h2, h3, h4, h5, h6⟩ := ih (by simpa using hj)
      refine ⟨v, F1, _, by simpa using h1, h2, .pm a1 a2 h3 (fun i hi hF => a4 i hi (h5 _ hF)), fun b h => by simp [h4 b h], fun b h => ?_, fun b hb h => ?_⟩
      · rcases List.mem_append.1 h with h | h
        · simp [h]
        · simp [h5 b h]
      · rcases List.mem_append.1 h with h | h
        · exact a4 _ h (h4 _ hb)
        · exact h6 _ hb h
  | bag a2 hs a4 _ ih =>
    intro j e sz es hj
    cases j with
    | zero => simp at hj
    | succ j =>
      obtain ⟨v, F1, F2, h1, h2, h3, h4, h5, h6⟩ := ih (by simpa using hj)
      refine ⟨v, F1, _, by simpa using h1, h2, .bag a2 h3 (fun i hi hF => a4 i hi (h5 _ hF)), fun b h => by simp [h4 b h], fun b h => ?_, fun b hb h => ?_⟩
      · rcases List.mem_append.1 h with h | h
        · simp [h]
        · simp [h5 b h]
      · rcases List.mem_append.1 h with h | h
        · exact a4 _ h (h4 _ hb)
        · exact h6 _ hb h
theorem Hg.cons_rw {xs : List T} {vs : List Value} {F G : List Nat} {e : TypeId} {sz : Nat} {es : List (List V)} {v : Value} (hg : Hg m w [.rw e sz es] [v] G) (h : Hg m w xs vs F) (hd : ∀ b ∈ G, b ∉ F) : Hg m w (.rw e sz es :: xs) (v :: vs) (G ++ F) := by
  cases hg with
  | @rw _ _ _ _ _ us _ F' a1 a2 a3 a4 hs =>
    cases hs
    have := Hg.rw (m := m) (w := w) a1 a2 a3 (fun b hb => ⟨(a4 b hb).1, hd b (by simp [hb])⟩) h
    simpa using this
theorem Hg.give_rw {e : TypeId} {sz : Nat} {es : List (List V)} {v : Value} {G : List Nat} {xs : List T} {vs : List Value} {F : List Nat} (h : Hg m w xs vs F) (hg : Hg m w [.rw e sz es] [v] G) (hd : ∀ b ∈ G, b ∉ F) : ∀ {j : Nat} {x : V}, xs[j]? = some (.av x) →
    ∃ F', Hg m w (xs.set j (.rw e sz es)) (vs.set j v) F' ∧ ∀ b ∈ F', b ∈ F ∨ b ∈ G := by
  induction h with
  | nil => intro j x hj; simp at hj
  | av h0 hs ih =>
    intro j x hj
    cases j with
    | zero => exact ⟨_, Hg.cons_rw hg hs hd, fun b h => by rcases List.mem_append.1 h with h | h; exact .inr h; exact .inl h⟩
    | succ j =>
      obtain ⟨F', h1, h2⟩ := ih hd (by simpa using hj)
      exact ⟨F', .av h0 h1, h2⟩
  | box a1 a2 a3 hs a5 a6 a7 _ ih =>
    intro j x hj
    cases j with
    | zero => simp at hj
    | succ j =>
      obtain ⟨F', h1, h2⟩ := ih (fun b hb h => hd b hb (by simp [h])) (by simpa using hj)
      refine ⟨_, .box a1 a2 a3 h1 a5 (fun h => by rcases h2 _ h with h | h; exact a6 h; exact hd _ h (by simp)) (fun i hi hF => by rcases h2 _ hF with h | h; exact a7 i hi h; exact hd _ h (by simp [hi])), fun b h => ?_⟩
      rcases List.mem_cons.1 h with rfl | h
      · simp
      · rcases List.mem_append.1 h with h | h
        · simp [h]
        · rcases h2 b h with h | h
          · simp [h]
          · exact .inr h
  | row a1 a2 a3 a4 hs a6 _ ih =>
    intro j x hj
    cases j with
    | zero => simp at hj
    | succ j =>
      obtain ⟨F', h1, h2⟩ := ih (fun b hb h => hd b hb (by simp [h])) (by simpa using hj)
      refine ⟨_, .row a1 a2 (fun b hb => ⟨(a3 b hb).1, (a3 b hb).2.1, fun h => by rcases h2 _ h with h | h; exact (a3 b hb).2.2 h; exact hd _ h (by simp [hb])⟩) a4 h1 (fun i hi hF => by rcases h2 _ hF with h | h; exact a6 i hi h; exact hd _ h (by simp [hi])), fun b h => ?_⟩
      rcases List.mem_append.1 h with h | h
      · exact .inl (List.mem_append_left _ h)
      · rcases List.mem_append.1 h with h | h
        · exact .inl (List.mem_append_right _ (List.mem_append_left _ h))
        · rcases h2 b h with h | h
          · exact .inl (List.mem_append_right _ (List.mem_append_right _ h))
          · exact .inr h
  | rw a1 a2 a3 a4 hs ih =>
    intro j x hj
    cases j with
    | zero => simp at hj
    | succ j =>
      obtain ⟨F', h1, h2⟩ := ih (fun b hb h => hd b hb (by simp [h])) (by simpa using hj)
      refine ⟨_, .rw a1 a2 a3 (fun b hb => ⟨(a4 b hb).1, fun h => by rcases h2 _ h with h | h; exact (a4 b hb).2 h; exact hd _ h (by simp [hb])⟩) h1, fun b h => ?_⟩
      rcases List.mem_append.1 h with h | h
      · exact .inl (List.mem_append_left _ h)
      · rcases h2 b h with h | h
        · exact .inl (List.mem_append_right _ h)
        · exact .inr h
  | mp a1 a2 a3 a4 a5 a6 a7 hs a9 a10 a11 _ ih =>
    intro j x hj
    cases j with
    | zero => simp at hj
    | succ j =>
      obtain ⟨F', h1, h2⟩ := ih (fun b hb h => hd b hb (by simp [h])) (by simpa using hj)
      refine ⟨_, .mp a1 a2 a3 a4 a5 a6 a7 h1 a9 (fun h => by rcases h2 _ h with h | h; exact a10 h; exact hd _ h (by simp)) (fun i hi hF => by rcases h2 _ hF with h | h; exact a11 i hi h; exact hd _ h (by simp [hi])), fun b h => ?_⟩
      rcases List.mem_cons.1 h with rfl | h
      · simp
      · rcases List.mem_append.1 h with h | h
        · simp [h]
        · rcases h2 b h with h | h
          · simp [h]
          · exact .inr h
  | pm a1 a2 hs a4 _ ih =>
    intro j x hj
    cases j with
    | zero => simp at hj
    | succ j =>
      obtain ⟨F', h1, h2⟩ := ih (fun b hb h => hd b hb (by simp [h])) (by simpa using hj)
      refine ⟨_, .pm a1 a2 h1 (fun i hi hF => by rcases h2 _ hF with h | h; exact a4 i hi h; exact hd _ h (by simp [hi])), fun b h => ?_⟩
      rcases List.mem_append.1 h with h | h
      · simp [h]
      · rcases h2 b h with h | h
        · simp [h]
        · exact .inr h
  | bag a2 hs a4 _ ih =>
    intro j x hj
    cases j with
    | zero => simp at hj
    | succ j =>
      obtain ⟨F', h1, h2⟩ := ih (fun b hb h => hd b hb (by simp [h])) (by simpa using hj)
      refine ⟨_, .bag a2 h1 (fun i hi hF => by rcases h2 _ hF with h | h; exact a4 i hi h; exact hd _ h (by simp [hi])), fun b h => ?_⟩
      rcases List.mem_append.1 h with h | h
      · simp [h]
      · rcases h2 b h with h | h
        · simp [h]
        · exact .inr h
theorem Hg.push_rw {e : TypeId} {sz : Nat} {es : List (List V)} {v : Value} {G : List Nat} {xs : List T} {vs : List Value} {F : List Nat} (h : Hg m w xs vs F) (hg : Hg m w [.rw e sz es] [v] G) (hd : ∀ b ∈ G, b ∉ F) :
    ∃ F', Hg m w (xs ++ [.rw e sz es]) (vs ++ [v]) F' ∧ ∀ b ∈ F', b ∈ F ∨ b ∈ G := by
  have h1 := h.push_av (Rd.any v)
  have hl := h.len
  obtain ⟨F', h2, h3⟩ := h1.give_rw hg hd (j := xs.length) (x := .any) (by simp)
  refine ⟨F', ?_, h3⟩
  have e1 : (xs ++ [T.av .any]).set xs.length (.rw e sz es) = xs ++ [.rw e sz es] := by simp
  have e2 : (vs ++ [v]).set xs.length v = vs ++ [v] := by rw [← hl]; simp
  rwa [e1, e2] at h2
theorem Hg.erase {xs : List T} {vs : List Value} {F : List Nat} (h : Hg m w xs vs F) : ∀ j, ∃ F', Hg m w (xs.eraseIdx j) (vs.eraseIdx j) F' ∧ ∀ b ∈ F', b ∈ F := by
  induction h with
  | nil => intro j; exact ⟨_, .nil, fun b h => h⟩
  | av h0 hs ih =>
    intro j
    cases j with
    | zero => exact ⟨_, hs, fun b h => h⟩
    | succ j => obtain ⟨F', h1, h2⟩ := ih j; exact ⟨F', .av h0 h1, h2⟩
  | box a1 a2 a3 hs a5 a6 a7 _ ih =>
    intro j
    cases j with
    | zero => exact ⟨_, hs, fun b h => by simp [h]⟩
    | succ j =>
      obtain ⟨F', h1, h2⟩ := ih j
      refine ⟨_, .box a1 a2 a3 h1 a5 (fun h => a6 (h2 _ h)) (fun i hi hF => a7 i hi (h2 _ hF)), fun b h => ?_⟩
      rcases List.mem_cons.1 h with rfl | h
      · simp
      · rcases List.mem_append.1 h with h | h
        · simp [h]
        · simp [h2 b h]
  | row a1 a2 a3 a4 hs a6 _ ih =>
    intro j
    cases j with
    | zero => exact ⟨_, hs, fun b h => by simp [h]⟩
    | succ j =>
      obtain ⟨F', h1, h2⟩ := ih j
      refine ⟨_, .row a1 a2 (fun b hb => ⟨(a3 b hb).1, (a3 b hb).2.1, fun h => (a3 b hb).2.2 (h2 _ h)⟩) a4 h1 (fun i hi hF => a6 i hi (h2 _ hF)), fun b h => ?_⟩
      rcases List.mem_append.1 h with h | h
      · exact List.mem_append_left _ h
      · rcases List.mem_append.1 h with h | h
        · exact List.mem_append_right _ (List.mem_append_left _ h)
        · exact List.mem_append_right _ (List.mem_append_right _ (h2 _ h))
  | rw a1 a2 a3 a4 hs ih =>
    intro j
    cases j with
    | zero => exact ⟨_, hs, fun b h => by simp [h]⟩
    | succ j =>
      obtain ⟨F', h1, h2⟩ := ih j
      refine ⟨_, .rw a1 a2 a3 (fun b hb => ⟨(a4 b hb).1, fun h => (a4 b hb).2 (h2 _ h)⟩) h1, fun b h => ?_⟩
      rcases List.mem_append.1 h with h | h
      · exact List.mem_append_left _ h
      · exact List.mem_append_right _ (h2 _ h)
  | mp a1 a2 a3 a4 a5 a6 a7 hs a9 a10 a11 _ ih =>
    intro j
    cases j with
    | zero => exact ⟨_, hs, fun b h => by simp [h]⟩
    | succ j =>
      obtain ⟨F', h1, h2⟩ := ih j
      refine ⟨_, .mp a1 a2 a3 a4 a5 a6 a7 h1 a9 (fun h => a10 (h2 _ h)) (fun i hi hF => a11 i hi (h2 _ hF)), fun b h => ?_⟩
      rcases List.mem_cons.1 h with rfl | h
      · simp
      · rcases List.mem_append.1 h with h | h
        · simp [h]
        · simp [h2 b h]
  | pm a1 a2 hs a4 _ ih =>
    intro j
    cases j with
    | zero => exact ⟨_, hs, fun b h => by simp [h]⟩
    | succ j =>
      obtain ⟨F', h1, h2⟩ := ih j
      refine ⟨_, .pm a1 a2 h1 (fun i hi hF => a4 i hi (h2 _ hF)), fun b h => ?_⟩
      rcases List.mem_append.1 h with h | h
      · simp [h]
      · simp [h2 b h]
  | bag a2 hs a4 _ ih =>
    intro j
    cases j with
    | zero => exact ⟨_, hs, fun b h => by simp [h]⟩
    | succ j =>
      obtain ⟨F', h1, h2⟩ := ih j
      refine ⟨_, .bag a2 h1 (fun i hi hF => a4 i hi (h2 _ hF)), fun b h => ?_⟩
      rcases List.mem_append.1 h with h | h
      · simp [h]
      · simp [h2 b h]
end

section
variable {P : Program} {ops : Array Oper} {C : Ctx} {E : Env} {σ : St} {a : Act} {w : World}
/-- Trees are let go. -/
def outW (id : Id) : List (Pl × X) := [(.l id, .non), (.r id, .non)]
theorem Gm.let_go (h : Gm C E σ a w) (id : Id) : Gm C E (puts σ (outW id)) a w ∧ Mo E σ E (puts σ (outW id)) ∧ (∀ t b, HoB E (puts σ (outW id)) t b → HoB E σ t b ∧ t ≠ .r id) := by
  have q : ∀ l, puts σ (outW id) l = if l = .r id then .non else if l = .l id then .non else σ l := fun l => by
    show put (put σ (.l id) _) (.r id) _ l = _
    unfold put; rfl
  obtain ⟨h1, h2, h3⟩ := h.drop (puts σ (outW id)) (fun t => by rw [q]; simp) (fun o i => by rw [q]; simp) (fun o => by rw [q]; simp) (fun o n h => by rw [q] at h; simpa using h) (fun k e sz T h => by rw [q] at h; simpa using h)
    (fun k => .inl (by rw [q]; simp)) (fun k x h => by rw [q] at h; by_cases e : k = id; (subst e; simp at h); simpa [e] using h) (fun k i y h => by rw [q] at h; by_cases e : k = id; (subst e; simp at h); simpa [e] using h) (fun k => by rw [q]; simp) (fun o k g s h => by rw [q] at h; simpa using h)
  refine ⟨h1, h2, fun t b hb => ⟨h3 t b hb, fun e => ?_⟩⟩
  subst e
  obtain ⟨x, hx, _⟩ := hb
  rw [q] at hx
  simp at hx
theorem regW_congr {σ1 σ2 : St} {id : Id} {x : T} (h : σ1 (.g id) = σ2 (.g id)) : regW σ1 id x = regW σ2 id x := by unfold regW; rw [gg_of h]
/-- A map's row is taken out, and has a name of its own. -/
def takW (σ : St) (id k2 : Id) (x y : T) (j : Nat) : List (Pl × X) := outW id ++ (regW σ id x ++ (treeW σ k2 y ++ [(.l id, .lent j (.ref k2 (gh σ k2 + 1)))]))
theorem set_fst {kvs : List (Value × T)} {j : Nat} {key : Value} {x y : T} (hj : kvs[j]? = some (key, x)) : (kvs.set j (key, y)).map (·.1) = kvs.map (·.1) := by
  rw [List.map_set]
  apply List.ext_getElem?
  intro i
  rw [List.getElem?_set]
  split
  · rename_i e; subst e
    rw [List.getElem?_map, hj]
    have := (List.getElem?_eq_some_iff.1 hj).1
    simp [this]
  · rfl
theorem Gm.takeOut (hg : Gm C E σ a w) {id k2 : Id} (hne : id ≠ k2) (hk : id.2 ≠ 0) (hk2 : k2.2 ≠ 0) {kvs : List (Value × T)} {j : Nat} {key : Value} {e : TypeId} {sz : Nat} {es : List (List V)} (hx : σ (.r id) = .tree (.mp kvs)) (hj : kvs[j]? = some (key, .rw e sz es)) :
    ∃ v E', slotAt w (E.bv id) j = some v ∧ Gm C E' (puts σ (takW σ id k2 (.mp (kvs.set j (key, .av .any))) (.rw e sz es) j)) a w ∧ Mo E σ E' (puts σ (takW σ id k2 (.mp (kvs.set j (key, .av .any))) (.rw e sz es) j)) ∧ RdA E' (puts σ (takW σ id k2 (.mp (kvs.set j (key, .av .any))) (.rw e sz es) j)) (.ref k2 (gh σ k2 + 1)) v := by
  obtain ⟨hgg, _⟩ := hg.tr.hg id _ hx
  obtain ⟨b, ents, clock, F1, h1, h2, h3, h4, h5, h6, h7, h8, h9, h10⟩ := mp_inv hgg
  obtain ⟨v, Fa, Fb, r1, r2, r3, r4, r5, r6⟩ := h8.take_rw (j := j) (by rw [List.getElem?_map, hj]; rfl)
  obtain ⟨g1, m1, l1⟩ := hg.let_go id
  have hlive : ∀ b' ∈ E.bf id, ¬ LiveB E (puts σ (outW id)) b' := fun b' hb ⟨t, ht⟩ => by
    obtain ⟨q1, q2⟩ := l1 t b' ht
    exact q2 (hg.ho_inj q1 (t' := .r id) ⟨_, hx, hb⟩)
  have hdd : ∀ b' ∈ E.bf id, C.D b' ∨ C.w0.heap.size ≤ b' := fun b' hb => hg.tr.dd id _ b' hx hb
  have hin : ∀ b' ∈ b :: Fb, b' ∈ E.bf id := fun b' hb => by
    rw [h10]
    rcases List.mem_cons.1 hb with rfl | hb
    · simp
    · exact List.mem_cons_of_mem _ (r5 _ hb)
  have hmp : Hg E.m w [.mp (kvs.set j (key, .av .any))] [E.bv id] (b :: Fb) := by
    rw [h1]
    exact mp_mk h2 h3 (by rw [set_fst hj]; exact h4) (by rw [set_fst hj]; exact h5) h6 h7 (by rw [List.map_set]; exact r3) (fun h => h9 (r5 _ h))
  obtain ⟨E1, g2, m2, e1, e2, e3, e4⟩ := g1.gainKeep id (.mp (kvs.set j (key, .av .any))) (E.bv id) (b :: Fb) (fun y h => by cases h) hmp (fun b' hb => ⟨hdd _ (hin _ hb), hlive _ (hin _ hb)⟩) hk rfl
  have q1 : regW (puts σ (outW id)) id (.mp (kvs.set j (key, .av .any))) = regW σ id (.mp (kvs.set j (key, .av .any))) := regW_congr (by simp [outW, puts, put])
  rw [q1] at g2 m2 e3
  have hrw : Hg E1.m w [.rw e sz es] [v] Fa := by rw [e1]; exact r2
  obtain ⟨E2, g3, m3, f1, f2, f3, f4⟩ := g2.gainTree k2 (.rw e sz es) v Fa (fun y h => by cases h) hrw (fun b' hb => ⟨hdd _ (by rw [h10]; exact List.mem_cons_of_mem _ (r4 _ hb)), fun hL => by
    rcases e3 b' hL with h | h
    · exact hlive b' (by rw [h10]; exact List.mem_cons_of_mem _ (r4 _ hb)) h
    · rcases List.mem_cons.1 h with rfl | h
      · exact h9 (r4 _ hb)
      · exact r6 _ hb h⟩) hk2
  have hgk : puts (puts σ (outW id)) (regW σ id (.mp (kvs.set j (key, .av .any)))) (.g k2) = σ (.g k2) := by simp [outW, regW, puts, put, Ne.symm hne]
  have hhk : puts (puts σ (outW id)) (regW σ id (.mp (kvs.set j (key, .av .any)))) (.h k2) = σ (.h k2) := by simp [outW, regW, puts, put]
  have q2 : treeW (puts (puts σ (outW id)) (regW σ id (.mp (kvs.set j (key, .av .any))))) k2 (.rw e sz es) = treeW σ k2 (.rw e sz es) := treeW_congr hhk hgk
  have q3 : treeAV (puts (puts σ (outW id)) (regW σ id (.mp (kvs.set j (key, .av .any))))) k2 (.rw e sz es) = .ref k2 (gh σ k2 + 1) := by unfold treeAV; rw [gh_of hhk]
  rw [q2] at g3 m3 f4 f3
  rw [q3] at f4
  have hh2 : puts (puts (puts σ (outW id)) (regW σ id (.mp (kvs.set j (key, .av .any))))) (treeW σ k2 (.rw e sz es)) (.r id) = .tree (.mp (kvs.set j (key, .av .any))) := by simp [outW, regW, treeW, puts, put, hne]
  have hslot : slotAt w (E.bv id) j = some v := by
    rw [h1]
    unfold slotAt
    simp only [h2]
    rw [List.getElem?_map, Array.getElem?_toList] at r1
    exact r1
  have hbv : E2.bv id = E.bv id := by
    rw [(m3.h id).2 (gh_of (by simp [treeW, puts, put, hne])).symm, e4]
  obtain ⟨g4, m4, l4⟩ := g3.lend id _ hh2 j (.ref k2 (gh σ k2 + 1)) ⟨v, by rw [hbv]; exact hslot, f4.toA⟩
  have q4 : puts σ (takW σ id k2 (.mp (kvs.set j (key, .av .any))) (.rw e sz es) j) = put (puts (puts (puts σ (outW id)) (regW σ id (.mp (kvs.set j (key, .av .any))))) (treeW σ k2 (.rw e sz es))) (.l id) (.lent j (.ref k2 (gh σ k2 + 1))) := by
    unfold takW
    rw [puts_append, puts_append, puts_append]
    rfl
  refine ⟨v, E2, hslot, by rw [q4]; exact g4, by rw [q4]; exact ((m1.trans m2).trans m3).trans m4, ?_⟩
  rw [q4]
  have : RdA E2 _ (.ref k2 (gh σ k2 + 1)) v := RdA.mo f4.toA m4
  exact this
def putW (σ : St) (id k2 : Id) (x : T) : List (Pl × X) := outW k2 ++ (outW id ++ regW σ id x)
/-- A row becomes a map's, whose world changes. -/
theorem Gm.moveIn (hg : Gm C E σ a w) {id k2 : Id} (hne : id ≠ k2) (hk : id.2 ≠ 0) {kvs kvs' : List (Value × T)} {e : TypeId} {sz : Nat} {es : List (List V)} (hx : σ (.r id) = .tree (.mp kvs)) (hy : σ (.r k2) = .tree (.rw e sz es)) {w' : World} {F' : List Nat} (hc : Chg (fun b => E.bv id = .map (some b)) w w')
    (hh : Hg E.m w' [.mp kvs'] [E.bv id] F') (hF : ∀ b ∈ F', b ∈ E.bf id ∨ b ∈ E.bf k2) : ∃ E', Gm C E' (puts σ (putW σ id k2 (.mp kvs'))) a w' ∧ Mo E σ E' (puts σ (putW σ id k2 (.mp kvs'))) ∧ E'.bv = E.bv := by
  obtain ⟨hgg, _⟩ := hg.tr.hg id _ hx
  obtain ⟨b, ents, clock, F1, h1, h2, h3, _, _, _, _, _, _, h10⟩ := mp_inv hgg
  obtain ⟨g1, m1, l1⟩ := hg.let_go k2
  obtain ⟨g2, m2, l2⟩ := g1.let_go id
  have hlive : ∀ b', b' ∈ E.bf id ∨ b' ∈ E.bf k2 → ¬ LiveB E (puts (puts σ (outW k2)) (outW id)) b' := fun b' hb ⟨t, ht⟩ => by
    obtain ⟨q1, q2⟩ := l2 t b' ht
    obtain ⟨q3, q4⟩ := l1 t b' q1
    rcases hb with hb | hb
    · exact q2 (hg.ho_inj q3 (t' := .r id) ⟨_, hx, hb⟩)
    · exact q4 (hg.ho_inj q3 (t' := .r k2) ⟨_, hy, hb⟩)
  have hdd : ∀ b', b' ∈ E.bf id ∨ b' ∈ E.bf k2 → C.D b' ∨ C.w0.heap.size ≤ b' := fun b' hb => by
    rcases hb with hb | hb
    · exact hg.tr.dd id _ b' hx hb
    · exact hg.tr.dd k2 _ b' hy hb
  have hbm : b ∈ E.bf id := by rw [h10]; simp
  have hD : ∀ b', E.bv id = .map (some b') → b' = b := fun b' h => by rw [h1] at h; injection h with h; injection h with h; exact h.symm
  have g3 : Gm C E (puts (puts σ (outW k2)) (outW id)) a w' := g2.turn (fun b' => E.bv id = .map (some b')) w' E.m hc (Mem.le_refl _)
    (fun b' i v hv => by
      have q := hg.ms _ _ _ hv
      have hne : ¬ (E.bv id = .map (some b')) := fun h => by rw [hD b' h, h3 i] at hv; cases hv
      rw [World.cell?_of_block (w := w) (a := ⟨b', i, none⟩) (hc.block b' (World.block_lt_of_cell? w _ q) hne)]
      exact q)
    (fun b' h => by rw [hD b' h]; exact hdd b (.inl hbm)) (fun b' h1 h2 => by rw [hD b' h2] at h1; exact hlive b (.inl hbm) h1)
    (fun b' mb n bs l hb h => by rw [hD b' h, h2] at hb; cases hb) (fun _ _ _ _ => rfl)
  obtain ⟨E1, g4, m4, e1, e2, e3, e4⟩ := g3.gainKeep id (.mp kvs') (E.bv id) F' (fun y h => by cases h) hh (fun b' hb => ⟨hdd _ (hF _ hb), hlive _ (hF _ hb)⟩) hk rfl
  have q1 : regW (puts (puts σ (outW k2)) (outW id)) id (.mp kvs') = regW σ id (.mp kvs') := regW_congr (by simp [outW, puts, put])
  rw [q1] at g4 m4
  have q2 : puts σ (putW σ id k2 (.mp kvs')) = puts (puts (puts σ (outW k2)) (outW id)) (regW σ id (.mp kvs')) := by unfold putW; rw [puts_append, puts_append]
  exact ⟨E1, by rw [q2]; exact g4, by rw [q2]; exact (m1.trans m2).trans m4, e4⟩
/-- A row that was taken out is given back. -/
theorem Gm.giveBack (hg : Gm C E σ a w) {id k2 : Id} (hne : id ≠ k2) (hk : id.2 ≠ 0) {kvs : List (Value × T)} {j : Nat} {key : Value} {x : V} {e : TypeId} {sz : Nat} {es : List (List V)} (hx : σ (.r id) = .tree (.mp kvs)) (hj : kvs[j]? = some (key, .av x)) (hl : σ (.l id) = .lent j (.ref k2 (gh σ k2))) (hy : σ (.r k2) = .tree (.rw e sz es)) :
    ∃ E', Gm C E' (puts σ (putW σ id k2 (.mp (kvs.set j (key, .rw e sz es))))) a w := by
  obtain ⟨hgg, _⟩ := hg.tr.hg id _ hx
  obtain ⟨b, ents, clock, F1, h1, h2, h3, h4, h5, h6, h7, h8, h9, h10⟩ := mp_inv hgg
  obtain ⟨v, hv, hrd⟩ := hg.tr.le id _ j _ hx hl
  have hv2 : v = E.bv k2 := hrd.2 rfl
  obtain ⟨hrw, _⟩ := hg.tr.hg k2 _ hy
  have hd : ∀ b' ∈ E.bf k2, b' ∉ E.bf id := fun b' h1 h2 => hne (hg.tr.tt id k2 _ _ b' hx hy h2 h1)
  obtain ⟨F', r1, r2⟩ := h8.give_rw hrw (fun b' hb h => hd b' hb (by rw [h10]; exact List.mem_cons_of_mem _ h)) (j := j) (x := x) (by rw [List.getElem?_map, hj]; rfl)
  have hvs : (ents.toList.map (·.val)).set j (E.bv k2) = ents.toList.map (·.val) := by
    rw [h1] at hv
    unfold slotAt at hv
    simp only [h2] at hv
    apply List.ext_getElem?
    intro i
    rw [List.getElem?_set]
    split
    · rename_i e; subst e
      rw [List.getElem?_map, Array.getElem?_toList, hv, hv2]
      split
      · rfl
      · rename_i h
        have h0 := congrArg List.length h4
        simp at h0
        have := (List.getElem?_eq_some_iff.1 hj).1
        simp at h
        omega
    · rfl
  rw [hvs] at r1
  obtain ⟨E', g1, _, _⟩ := hg.moveIn hne hk hx hy (w' := w) (kvs' := kvs.set j (key, .rw e sz es)) (F' := b :: F') (Chg.refl _ _) (by
    rw [h1]
    exact mp_mk h2 h3 (by rw [set_fst hj]; exact h4) (by rw [set_fst hj]; exact h5) h6 h7 (by rw [List.map_set]; exact r1) (fun h => by
      rcases r2 _ h with h | h
      · exact h9 h
      · exact hd _ h (by rw [h10]; simp))) (fun b' hb => by
    rcases List.mem_cons.1 hb with rfl | hb
    · rw [h10]; simp
    · rcases r2 _ hb with h | h
      · rw [h10]; exact .inl (List.mem_cons_of_mem _ h)
      · exact .inr h)
  exact ⟨E', g1⟩
theorem mapUpdR_ok (hg : Gm C E σ a w) {id k2 : Id} (hne : id ≠ k2) (hk : id.2 ≠ 0) {kvs : List (Value × T)} {e' : TypeId} {sz : Nat} {es : List (List V)} (hx : σ (.r id) = .tree (.mp kvs)) (hy : σ (.r k2) = .tree (.rw e' sz es)) {t kt e : TypeId} (ht : P.underlying t = some (.map kt e)) {key : Value} (hkey : KeyOk P kt key (kvs.map (·.1)))
    (hold : ∀ y, kvGet kvs key = some y → ∃ x, y = .av x) :
    ∃ w' E', (Instr.mapUpdate t (E.bv id) key (E.bv k2)).run P w = .ok () w' ∧ Gm C E' (puts σ (putW σ id k2 (.mp (kvSet kvs key (.rw e' sz es))))) a w' := by
  obtain ⟨hgg, _⟩ := hg.tr.hg id _ hx
  obtain ⟨b, ents, clock, F1, h1, h2, h3, h4, h5, h6, h7, h8, h9, h10⟩ := mp_inv hgg
  obtain ⟨k1, k3, k4⟩ := hkey
  obtain ⟨hrw0, _⟩ := hg.tr.hg k2 _ hy
  have hd : ∀ b' ∈ E.bf k2, b' ∉ E.bf id := fun b' h1 h2 => hne (hg.tr.tt id k2 _ _ b' hx hy h2 h1)
  have hbn : b ∉ E.bf k2 := fun h => hd b h (by rw [h10]; simp)
  have hdF : ∀ b' ∈ E.bf k2, b' ∉ F1 := fun b' hb h => hd b' hb (by rw [h10]; exact List.mem_cons_of_mem _ h)
  have hnoto : ∀ o : Obj, Hg E.m (ChangeMaps.setBlock w b o) (kvs.map (·.2)) (ents.toList.map (·.val)) F1 := fun o =>
    h8.mono (Mem.le_refl _) fun i hi => ⟨setBlock_ne (fun e => h9 (e ▸ hi)), fun _ => rfl⟩
  have hrw : ∀ o : Obj, Hg E.m (ChangeMaps.setBlock w b o) [.rw e' sz es] [E.bv k2] (E.bf k2) := fun o =>
    hrw0.mono (Mem.le_refl _) fun i hi => ⟨setBlock_ne (fun e => hbn (e ▸ hi)), fun _ => rfl⟩
  have fin : ∀ (ents' : Array MapEntry) (clock' : Nat) (F' : List Nat), (Instr.mapUpdate t (E.bv id) key (E.bv k2)).run P w = .ok () (ChangeMaps.setBlock w b (.map ents' clock')) → ents'.toList.map (·.key) = (kvSet kvs key (.rw e' sz es)).map (·.1) → (ents'.toList.map (·.born)).Nodup → (∀ e ∈ ents'.toList, e.born < clock') →
      Hg E.m (ChangeMaps.setBlock w b (.map ents' clock')) ((kvSet kvs key (.rw e' sz es)).map (·.2)) (ents'.toList.map (·.val)) F' → (∀ i ∈ F', i ∈ F1 ∨ i ∈ E.bf k2) →
      ∃ w' E', (Instr.mapUpdate t (E.bv id) key (E.bv k2)).run P w = .ok () w' ∧ Gm C E' (puts σ (putW σ id k2 (.mp (kvSet kvs key (.rw e' sz es))))) a w' := by
    intro ents' clock' F' q1 q2 q3 q4 q5 q6
    have hh : Hg E.m (ChangeMaps.setBlock w b (.map ents' clock')) [.mp (kvSet kvs key (.rw e' sz es))] [E.bv id] (b :: F') := by
      rw [h1]
      exact mp_mk (setBlock_at h2) h3 q2 (kvSet_keys h5) q3 q4 q5 (fun h => by rcases q6 _ h with h | h; exact h9 h; exact hbn h)
    obtain ⟨E', g1, _, _⟩ := hg.moveIn hne hk hx hy (w' := ChangeMaps.setBlock w b (.map ents' clock')) ⟨rfl, rfl, rfl, by simp [ChangeMaps.setBlock], fun i _ hi => by
      have : b ≠ i := fun e => hi (e ▸ h1)
      simp [ChangeMaps.setBlock, this]⟩ hh (fun i hi => by
      rcases List.mem_cons.1 hi with rfl | hi
      · rw [h10]; simp
      · rcases q6 _ hi with h | h
        · rw [h10]; exact .inl (List.mem_cons_of_mem _ h)
        · exact .inr h)
    exact ⟨_, E', q1, g1⟩
  have hgo := MapKept.run_getObj_map (P := P) h2
  rcases k4 w ents.toList h4 with ⟨q1, q2⟩ | ⟨j, e0, q1, q2, q3⟩
  · obtain ⟨F', f1, f2⟩ := (hnoto (.map (ents.push { key := key, val := E.bv k2, born := clock }) (clock + 1))).push_rw (hrw _) hdF
    refine fin (ents.push { key := key, val := E.bv k2, born := clock }) (clock + 1) F' ?_ ?_ ?_ ?_ ?_ f2
    · rw [h1]
      simp [Instr.mapUpdate, run_underlying ht, hgo, k1, q1, MapKept.run_setObj_map _ h2, Result.andThen, ChangeMaps.setBlock]
    · rw [kvSet_none q2]; simp [h4]
    · simp only [Array.toList_push, List.map_append, List.map_cons, List.map_nil]
      exact List.nodup_append.2 ⟨h6, by simp, fun a ha c hc => by
        simp at hc; subst hc
        obtain ⟨z, hz, rfl⟩ := List.mem_map.1 ha
        exact Nat.ne_of_lt (h7 z hz)⟩
    · intro z hz
      simp only [Array.toList_push, List.mem_append, List.mem_singleton] at hz
      rcases hz with hz | rfl
      · exact Nat.lt_succ_of_lt (h7 z hz)
      · exact Nat.lt_succ_self _
    · rw [kvSet_none q2]
      simp only [Array.toList_push, List.map_append, List.map_cons, List.map_nil]
      exact f1
  · have hj : ents[j]? = some e0 := by simpa using q2
    have hjk : kvs[j]? = some (key, (kvs.map (·.2)).getD j (.av .any)) := by
      have hlen := congrArg (fun l => l[j]?) h4
      simp only [List.getElem?_map, q2, Option.map_some] at hlen
      cases hkj : kvs[j]? with
      | none => rw [hkj] at hlen; simp at hlen
      | some p => rw [hkj] at hlen; simp at hlen; simp [hkj, ← q3, hlen]
    obtain ⟨x, hxv⟩ := hold _ (kv_at h5 hjk).1
    rw [hxv] at hjk
    have hset := (kv_at h5 hjk).2.1 (.rw e' sz es)
    have hjl : j < kvs.length := (List.getElem?_eq_some_iff.1 hjk).1
    have hmod : (ents.modify j fun e => { e with key := key, val := E.bv k2 }).toList = ents.toList.set j { e0 with key := key, val := E.bv k2 } := by
      rw [Array.toList_modify, ChangeMaps.modify_eq_set _ _ _ _ q2]
    obtain ⟨F', f1, f2⟩ := (hnoto (.map (ents.modify j fun e => { e with key := key, val := E.bv k2 }) clock)).give_rw (hrw _) hdF (j := j) (x := x) (by rw [List.getElem?_map, hjk]; rfl)
    refine fin (ents.modify j fun e => { e with key := key, val := E.bv k2 }) clock F' ?_ ?_ ?_ ?_ ?_ f2
    · rw [h1]
      simp [Instr.mapUpdate, run_underlying ht, hgo, k1, q1, hj, q3, k3, MapKept.run_setObj_map _ h2, Result.andThen, ChangeMaps.setBlock]
    · rw [hmod, hset, List.map_set, List.map_set, h4]
    · rw [hmod, List.map_set]
      have : (ents.toList.map (·.born)).set j e0.born = ents.toList.map (·.born) := by
        apply List.ext_getElem?
        intro i
        rw [List.getElem?_set]
        split
        · rename_i e; subst e
          split
          · rw [List.getElem?_map, q2]; rfl
          · rename_i h; rw [List.getElem?_eq_none (by omega)]
        · rfl
      rw [this]; exact h6
    · intro z hz
      rw [hmod] at hz
      rcases List.mem_or_eq_of_mem_set hz with hz | rfl
      · exact h7 z hz
      · exact h7 e0 (List.mem_of_getElem? q2)
    · rw [hmod, hset, List.map_set, List.map_set]
      exact f1
/-- A key's value, read. -/
def keyV (key : Value) (y : V) : Prop := ∀ m v, Rd m y v → v = key
theorem keyV_sc (key : Value) : keyV key (.sc key) := fun m v h => Rd.sc_eq h
theorem keyV_agg2 (p q : Value) : keyV (.agg #[p, q]) (.agg [.sc p, .sc q]) := fun m v h => by
  cases h with
  | agg xs ys hl h =>
    match ys, hl with
    | ⟨[u1, u2]⟩, _ =>
      have h1 := Rd.sc_eq (h 0 (by simp))
      have h2 := Rd.sc_eq (h 1 (by simp))
      simp at h1 h2
      subst h1 h2
      rfl
theorem look_run (hg : Gm C E σ a w) {id : Id} {kvs : List (Value × T)} (hx : σ (.r id) = .tree (.mp kvs)) {t kt e : TypeId} (ht : P.underlying t = some (.map kt e)) {key : Value} (hk : KeyOk P kt key (kvs.map (·.1))) {j : Nat} {y : T} (hj : kvs[j]? = some (key, y)) {v : Value} (hv : slotAt w (E.bv id) j = some v) :
    (Instr.lookup t (E.bv id) key false).run P w = .ok v w := by
  obtain ⟨hgg, _⟩ := hg.tr.hg id _ hx
  obtain ⟨b, ents, clock, F1, h1, h2, h3, h4, h5, h6, h7, h8, h9, h10⟩ := mp_inv hgg
  obtain ⟨k1, k2, k3⟩ := hk
  have hgo := MapKept.run_getObj_map (P := P) h2
  rw [h1] at hv ⊢
  unfold slotAt at hv
  simp only [h2] at hv
  rcases k3 w ents.toList h4 with ⟨q1, q2⟩ | ⟨j', e0, q1, q2, q3⟩
  · exact absurd (List.mem_map.2 ⟨_, List.mem_of_getElem? hj, rfl⟩) q2
  · have a1 : (kvs.map (·.1))[j]? = some key := by rw [List.getElem?_map, hj]; rfl
    have a2 : (kvs.map (·.1))[j']? = some key := by rw [← h4, List.getElem?_map, q2]; simp [q3]
    have : j' = j := nodup_inj h5 a2 a1
    subst this
    rw [← Array.getElem?_toList, q2] at hv
    simp at hv
    simp [Instr.lookup, run_underlying ht, hgo, k1, q1, hv]
theorem takW_congr {σ' : St} {id k2 : Id} {x y : T} {j : Nat} (h1 : σ' (.g id) = σ (.g id)) (h2 : σ' (.h k2) = σ (.h k2)) (h3 : σ' (.g k2) = σ (.g k2)) : takW σ' id k2 x y j = takW σ id k2 x y j := by
  unfold takW
  rw [regW_congr h1, treeW_congr h2 h3, gh_of h2]
theorem ok_lookR {d : Tmp} {t : TypeId} {x k : Operand} {kt e0 : TypeId} {id : Id} {kvs : List (Value × T)} {j : Nat} {key : Value} {y : V} {e : TypeId} {sz : Nat} {es : List (List V)} (hm : mapOf P t = some (kt, e0)) (hx : ev σ x = .ref id (gh σ id)) (hr : σ (.r id) = .tree (.mp kvs))
    (hk : ev σ k = .val y) (hy : keyV key y) (hko : KeyOk P kt key (kvs.map (·.1))) (hj : kvs[j]? = some (key, .rw e sz es)) (hd : id ≠ (d, 1)) (hid : id.2 ≠ 0) :
    StOk P C σ (some d) (.lookup t x k false) (some (True, [.h id, .g id, .r id, .h (d, 1), .g (d, 1)] ++ (rdl x ++ rdl k), takW σ id (d, 1) (.mp (kvs.set j (key, .av .any))) (.rw e sz es) j ++ [(.s d, .av (.ref (d, 1) (gh σ (d, 1) + 1)))])) := by
  refine ok_value fun _ ty pos af E σ' a w hr0 hg hdn => ?_
  obtain ⟨h1, h2⟩ := mem_l hr0
  obtain ⟨h2, h3⟩ := mem_l h2
  have hgh : gh σ' id = gh σ id := gh_of (h1 (.h id) (by simp))
  have hmap := ev_ok hg x
  rw [ev_congr h2, hx] at hmap
  have hmap := hmap.2 hgh.symm
  have hkv := ev_ok hg k
  rw [ev_congr h3, hk] at hkv
  have hkey : a.eval k = key := hy _ _ hkv
  have hr' : σ' (.r id) = .tree (.mp kvs) := by rw [h1 _ (by simp)]; exact hr
  obtain ⟨v, E', q1, q2, q3, q4⟩ := hg.takeOut (k2 := (d, 1)) hd hid (by simp) hr' hj
  have q5 := look_run hg hr' (mapOf_some hm) hko hj q1
  rw [takW_congr (h1 (.g id) (by simp)) (h1 (.h (d, 1)) (by simp)) (h1 (.g (d, 1)) (by simp)), gh_of (h1 (.h (d, 1)) (by simp))] at q4
  rw [takW_congr (h1 (.g id) (by simp)) (h1 (.h (d, 1)) (by simp)) (h1 (.g (d, 1)) (by simp))] at q2
  exact ⟨v, w, E', by simp [execOp, hmap, hkey, q5], q2, q4⟩
theorem ok_lookS {d : Tmp} {t : TypeId} {x k : Operand} {kt e0 : TypeId} {id : Id} {kvs : List (Value × T)} {key z : Value} {y : V} (hm : mapOf P t = some (kt, e0)) (hx : ev σ x = .ref id (gh σ id)) (hr : σ (.r id) = .tree (.mp kvs))
    (hk : ev σ k = .val y) (hy : keyV key y) (hko : KeyOk P kt key (kvs.map (·.1))) (hz : zeroOf P e0 = some z) :
    StOk P C σ (some d) (.lookup t x k false) (some (True, [.h id, .r id] ++ (rdl x ++ rdl k), [(.s d, .av (.val (lookV false (kvGet kvs key) (vOf z))))])) := by
  refine ok_pure fun _ ty pos af E σ' a w hr0 hg => ?_
  obtain ⟨h1, h2⟩ := mem_l hr0
  obtain ⟨h2, h3⟩ := mem_l h2
  have hmap := ev_ok hg x
  rw [ev_congr h2, hx] at hmap
  have hmap := hmap.2 (by rw [gh_of (h1 (.h id) (by simp))])
  have hkv := ev_ok hg k
  rw [ev_congr h3, hk] at hkv
  have hkey : a.eval k = key := hy _ _ hkv
  obtain ⟨v, h4, h5⟩ := lookup_run hg (by rw [h1 (.r id) (by simp)]; exact hr) (mapOf_some hm) hko hz false
  exact ⟨v, by simp [execOp, hmap, hkey, h4], h5⟩
theorem putW_congr {σ' : St} {id k2 : Id} {x : T} (h1 : σ' (.g id) = σ (.g id)) : putW σ' id k2 x = putW σ id k2 x := by
  unfold putW
  rw [regW_congr h1]
theorem ok_updR {t : TypeId} {x k v : Operand} {kt e0 : TypeId} {id k2 : Id} {kvs : List (Value × T)} {key : Value} {y : V} {e : TypeId} {sz : Nat} {es : List (List V)} (op : Op) (hop : op = .insert t x k v ∨ op = .mapUpdate t x k v) (hm : mapOf P t = some (kt, e0)) (hx : ev σ x = .ref id (gh σ id)) (hr : σ (.r id) = .tree (.mp kvs))
    (hk : ev σ k = .val y) (hy : keyV key y) (hv : ev σ v = .ref k2 (gh σ k2)) (hr2 : σ (.r k2) = .tree (.rw e sz es)) (hko : KeyOk P kt key (kvs.map (·.1))) (hold : ∀ y, kvGet kvs key = some y → ∃ x, y = .av x) (hd : id ≠ k2) (hid : id.2 ≠ 0) :
    StOk P C σ none op (some (True, [.h id, .g id, .r id, .h k2, .r k2] ++ (rdl x ++ (rdl k ++ rdl v)), putW σ id k2 (.mp (kvSet kvs key (.rw e sz es))))) := by
  intro c' L' W' he hc ops ty pos af E σ' a w Kt Q _ hr0 hg hK
  simp only [Option.some.injEq, Prod.mk.injEq] at he
  obtain ⟨rfl, rfl, rfl⟩ := he
  obtain ⟨h1, h2⟩ := mem_l (rds_all hr0)
  obtain ⟨h2, h3⟩ := mem_l h2
  obtain ⟨h3, h4⟩ := mem_l h3
  have hmap := ev_ok hg x
  rw [ev_congr h2, hx] at hmap
  have hmap := hmap.2 (by rw [gh_of (h1 (.h id) (by simp))])
  have hval := ev_ok hg v
  rw [ev_congr h4, hv] at hval
  have hval := hval.2 (by rw [gh_of (h1 (.h k2) (by simp))])
  have hkv := ev_ok hg k
  rw [ev_congr h3, hk] at hkv
  have hkey : a.eval k = key := hy _ _ hkv
  have hr' : σ' (.r id) = .tree (.mp kvs) := by rw [h1 _ (by simp)]; exact hr
  have hr2' : σ' (.r k2) = .tree (.rw e sz es) := by rw [h1 _ (by simp)]; exact hr2
  obtain ⟨w', E', q1, q2⟩ := mapUpdR_ok hg hd hid hr' hr2' (mapOf_some hm) hko hold
  rw [putW_congr (h1 (.g id) (by simp))] at q2
  rw [if_pos (by simp [Region.wanted])]
  have hrun : (execOp a.eval ⟨none, op, ty, pos, af, none⟩).run P w = .ok .skip w' := by
    rcases hop with rfl | rfl
    · simp [execOp, hmap, hkey, hval, q1]
    · simp [execOp, hmap, hkey, hval, q1]
  show Oper.upon _ _ _ _ _ _
  rw [hrun]
  exact hK _ _ E' (by simpa [Act.put] using q2)
theorem map_erase {α β : Type} (f : α → β) : ∀ (l : List α) (j : Nat), (l.eraseIdx j).map f = (l.map f).eraseIdx j
  | [], _ => rfl
  | _ :: _, 0 => rfl
  | x :: l, j + 1 => congrArg (f x :: ·) (map_erase f l j)
/-- A key is let go. -/
theorem delete_ok (hg : Gm C E σ a w) {id : Id} {kvs : List (Value × T)} (hx : σ (.r id) = .tree (.mp kvs)) (hl : ∀ i y, σ (.l id) ≠ .lent i y) {t t2 kt e : TypeId} (ht : P.underlying t = some (.map kt e)) {key : Value} (hk : KeyOk P kt key (kvs.map (·.1))) (ty : TypeId) :
    ∃ w' E', (Builtin.delete_ #[t, t2] ty #[E.bv id, key]).run P w = .ok (.tuple #[]) w' ∧ Gm C E' (puts σ (setTW σ id (.mp (kvDel kvs key)))) a w' := by
  obtain ⟨hgg, _⟩ := hg.tr.hg id _ hx
  obtain ⟨b, ents, clock, F1, h1, h2, h3, h4, h5, h6, h7, h8, h9, h10⟩ := mp_inv hgg
  obtain ⟨k1, k2, k3⟩ := hk
  have hbF : b ∈ E.bf id := by rw [h10]; simp
  have hnoto : ∀ o : Obj, Hg E.m (ChangeMaps.setBlock w b o) (kvs.map (·.2)) (ents.toList.map (·.val)) F1 := fun o =>
    h8.mono (Mem.le_refl _) fun i hi => ⟨setBlock_ne (fun e => h9 (e ▸ hi)), fun _ => rfl⟩
  have fin : ∀ (ents' : Array MapEntry) (F' : List Nat), (Builtin.delete_ #[t, t2] ty #[E.bv id, key]).run P w = .ok (.tuple #[]) (ChangeMaps.setBlock w b (.map ents' clock)) → ents'.toList.map (·.key) = (kvDel kvs key).map (·.1) → ((kvDel kvs key).map (·.1)).Nodup → (ents'.toList.map (·.born)).Nodup → (∀ e ∈ ents'.toList, e.born < clock) →
      Hg E.m (ChangeMaps.setBlock w b (.map ents' clock)) ((kvDel kvs key).map (·.2)) (ents'.toList.map (·.val)) F' → (∀ i ∈ F', i ∈ F1) →
      ∃ w' E', (Builtin.delete_ #[t, t2] ty #[E.bv id, key]).run P w = .ok (.tuple #[]) w' ∧ Gm C E' (puts σ (setTW σ id (.mp (kvDel kvs key)))) a w' := by
    intro ents' F' q1 q2 q2' q3 q4 q5 q6
    have hh : Hg E.m (ChangeMaps.setBlock w b (.map ents' clock)) [.mp (kvDel kvs key)] [E.bv id] (b :: F') := by
      rw [h1]
      exact mp_mk (setBlock_at h2) h3 q2 q2' q3 q4 q5 (fun h => h9 (q6 _ h))
    obtain ⟨E', g1, _, _, _⟩ := hg.setT id _ _ _ _ hx (fun ys h => by cases h) (fun y h => by cases h) (fun ys h => by cases h) hh (fun i hi => by
      rcases List.mem_cons.1 hi with rfl | hi
      · exact .inl hbF
      · rw [h10]; exact .inl (List.mem_cons_of_mem _ (q6 _ hi))) (setBlock_chg hbF) (fun i y h => absurd h (hl i y))
    exact ⟨_, E', q1, g1⟩
  have hgo := MapKept.run_getObj_map (P := P) h2
  rcases k3 w ents.toList h4 with ⟨q1, q2⟩ | ⟨j, e0, q1, q2, q3⟩
  · refine fin ents F1 ?_ ?_ ?_ h6 h7 ?_ (fun i h => h)
    · rw [h1]
      simp [Builtin.delete_, run_underlying ht, hgo, k1, q1, MapKept.run_setObj_map _ h2, Result.andThen, ChangeMaps.setBlock]
    · rw [kvDel_none q2]; exact h4
    · rw [kvDel_none q2]; exact h5
    · rw [kvDel_none q2]; exact hnoto _
  · have hj : ents[j]? = some e0 := by simpa using q2
    have hjk : kvs[j]? = some (key, (kvs.map (·.2)).getD j (.av .any)) := by
      have hlen := congrArg (fun l => l[j]?) h4
      simp only [List.getElem?_map, q2, Option.map_some] at hlen
      cases hkj : kvs[j]? with
      | none => rw [hkj] at hlen; simp at hlen
      | some p => rw [hkj] at hlen; simp at hlen; simp [hkj, ← q3, hlen]
    have hdel := (kv_at h5 hjk).2.2
    have herase : (ents.eraseIdxIfInBounds j).toList = ents.toList.eraseIdx j := by simp
    have emap : ∀ {β : Type} (f : MapEntry → β), (ents.toList.eraseIdx j).map f = (ents.toList.map f).eraseIdx j := fun f => map_erase f _ _
    obtain ⟨F', f1, f2⟩ := (hnoto (.map (ents.eraseIdxIfInBounds j) clock)).erase j
    refine fin (ents.eraseIdxIfInBounds j) F' ?_ ?_ ?_ ?_ ?_ ?_ f2
    · rw [h1]
      simp [Builtin.delete_, run_underlying ht, hgo, k1, q1, MapKept.run_setObj_map _ h2, Result.andThen, ChangeMaps.setBlock]
    · rw [hdel, herase, emap, h4, map_erase]
    · rw [hdel, map_erase]; exact h5.sublist (List.eraseIdx_sublist _ _)
    · rw [herase, emap]; exact h6.sublist (List.eraseIdx_sublist _ _)
    · intro z hz
      rw [herase] at hz
      exact h7 z (List.mem_of_mem_eraseIdx hz)
    · rw [hdel, herase, emap, map_erase]; exact f1
theorem ok_del {t t2 : TypeId} {x k : Operand} {kt e0 : TypeId} {id : Id} {kvs : List (Value × T)} {key : Value} {y : V} (hm : mapOf P t = some (kt, e0)) (hx : ev σ x = .ref id (gh σ id)) (hr : σ (.r id) = .tree (.mp kvs)) (hl : noLent (σ (.l id)))
    (hk : ev σ k = .val y) (hy : keyV key y) (hko : KeyOk P kt key (kvs.map (·.1))) :
    StOk P C σ none (.call { callee := .builtin .delete, args := #[x, k], argTypes := #[t, t2] }) (some (True, [.h id, .g id, .r id, .l id] ++ (rdl x ++ rdl k), setTW σ id (.mp (kvDel kvs key)))) := by
  intro c' L' W' he hc ops ty pos af E σ' a w Kt Q _ hr0 hg hK
  simp only [Option.some.injEq, Prod.mk.injEq] at he
  obtain ⟨rfl, rfl, rfl⟩ := he
  obtain ⟨h1, h2⟩ := mem_l (rds_all hr0)
  obtain ⟨h2, h3⟩ := mem_l h2
  have hmap := ev_ok hg x
  rw [ev_congr h2, hx] at hmap
  have hmap := hmap.2 (by rw [gh_of (h1 (.h id) (by simp))])
  have hkv := ev_ok hg k
  rw [ev_congr h3, hk] at hkv
  have hkey : a.eval k = key := hy _ _ hkv
  have hr' : σ' (.r id) = .tree (.mp kvs) := by rw [h1 _ (by simp)]; exact hr
  obtain ⟨w', E', q1, q2⟩ := delete_ok (t2 := t2) hg hr' (by rw [h1 (.l id) (by simp)]; exact noLent_ne hl) (mapOf_some hm) hko ty
  have e0 : setTW σ id (.mp (kvDel kvs key)) = setTW σ' id (.mp (kvDel kvs key)) := by unfold setTW; rw [gg_of (h1 (.g id) (by simp))]
  rw [e0] at hK
  rw [if_pos (by simp [Region.wanted])]
  have hrun : (execOp a.eval ⟨none, .call { callee := .builtin .delete, args := #[x, k], argTypes := #[t, t2] }, ty, pos, af, none⟩).run P w = .ok (.value (.tuple #[])) w' := by
    simp [execOp, resolve, invoke, builtin, hmap, hkey, q1]
  show Oper.upon _ _ _ _ _ _
  rw [hrun]
  exact hK _ _ E' (by simpa [Act.put] using q2)
end
/-! ### A call beside pointers to its objects -/
section
variable {P : Program} {ops : Array Oper} {C : Ctx} {E : Env} {σ : St} {a : Act} {w : World}
/-- Generations count as numbers alone. -/
theorem Gm.regen (h : Gm C E σ a w) (σ' : St) (hs : ∀ l, (∀ o, l ≠ .g o) → σ' l = σ l) (hg : ∀ o, gg σ' o = gg σ o) : Gm C E σ' a w := by
  have es : ∀ t, σ' (.s t) = σ (.s t) := fun t => hs _ (by simp)
  have ec : ∀ o i, σ' (.c o i) = σ (.c o i) := fun o i => hs _ (by simp)
  have eo : ∀ o, σ' (.o o) = σ (.o o) := fun o => hs _ (by simp)
  have ek : ∀ o, σ' (.k o) = σ (.k o) := fun o => hs _ (by simp)
  have eq : ∀ o, σ' (.q o) = σ (.q o) := fun o => hs _ (by simp)
  have er : ∀ o, σ' (.r o) = σ (.r o) := fun o => hs _ (by simp)
  have el : ∀ o, σ' (.l o) = σ (.l o) := fun o => hs _ (by simp)
  have eh : ∀ o, σ' (.h o) = σ (.h o) := fun o => hs _ (by simp)
  have hmo : Mo E σ E σ' := ⟨Mem.le_refl _, fun o => ⟨Nat.le_of_eq (hg o).symm, fun _ => rfl⟩, fun k => ⟨Nat.le_of_eq (gq_of (eq k)).symm, fun _ e sz T h3 => ⟨T, by rw [← ek]; exact h3, Nat.le_refl _, fun _ => rfl⟩⟩, fun k => ⟨Nat.le_of_eq (gh_of (eh k)).symm, fun _ => rfl⟩⟩
  refine ⟨h.sz, h.df, h.ms, h.fr, fun t x h1 => (h.sl t x (by rw [← es]; exact h1)).mo hmo, fun o i x n h1 h2 h3 => ?_, fun o n h1 => h.ob o n (by rw [← eo]; exact h1), fun k e s T h1 => h.ro k e s T (by rw [← ek]; exact h1), fun o o' n n' h1 h2 => h.oo o o' n n' (by rw [← eo]; exact h1) (by rw [← eo]; exact h2),
    fun k k' e s T e' s' T' b h1 h2 => h.rr k k' e s T e' s' T' b (by rw [← ek]; exact h1) (by rw [← ek]; exact h2), fun o n k e s T h1 h2 => h.or o n k e s T (by rw [← eo]; exact h1) (by rw [← ek]; exact h2), h.pi, h.ml, h.mx,
    h.tr.step hmo rfl rfl (fun k x hx => by rw [← er]; exact hx) (fun k i y hy => by rw [← el]; exact hy) (fun _ _ _ _ => rfl) (fun k x b h1 h2 h3 h4 => ⟨rfl, h4⟩) (fun o n k x h1 _ _ _ => ⟨n, by rw [← eo]; exact h1, rfl⟩) (fun k' e s T b k x h1 _ _ h4 _ => ⟨e, s, T, by rw [← ek]; exact h1, h4⟩) (fun o k g s h1 => ⟨by rw [← eo]; exact h1, rfl⟩) (fun _ _ _ _ _ _ => rfl)⟩
  obtain ⟨v, hv, hr⟩ := h.ce o i x n (by rw [← ec]; exact h1) (by rw [← eo]; exact h2) h3
  exact ⟨v, hv, hr.mo hmo⟩
def hasId : List Id → Id → Bool
  | [], _ => false
  | x :: l, o => if x.1 = o.1 ∧ x.2 = o.2 then true else hasId l o
theorem hasId_mem : ∀ {ids : List Id} {o : Id}, hasId ids o = true → o ∈ ids
  | x :: l, o, h => by
    unfold hasId at h
    split at h
    · rename_i e; rw [show o = x from Prod.ext e.1.symm e.2.symm]; simp
    · exact List.mem_cons_of_mem _ (hasId_mem h)
def isG (ids : List Id) : Pl → Bool
  | .g o => hasId ids o
  | _ => false
def noG (ids : List Id) : List (Pl × X) → List (Pl × X)
  | [] => []
  | p :: W => match isG ids p.1 with | true => noG ids W | false => p :: noG ids W
def okG1 (σ : St) : Pl → X → Prop
  | .g o, x => x = .num (gg σ o)
  | _, _ => True
/-- What is left out says nothing new. -/
def okG (σ : St) (ids : List Id) : List (Pl × X) → Prop
  | [] => True
  | p :: W => (match isG ids p.1 with | true => okG1 σ p.1 p.2 | false => True) ∧ okG σ ids W
theorem noG_at (ids : List Id) : ∀ (W : List (Pl × X)) (σ1 σ2 : St), (∀ l, (∀ o, l ≠ .g o) → σ1 l = σ2 l) → ∀ l, (∀ o, l ≠ .g o) → puts σ1 (noG ids W) l = puts σ2 W l
  | [], _, _, h, l, hl => h l hl
  | p :: W, σ1, σ2, h, l, hl => by
    show puts σ1 (noG ids (p :: W)) l = puts (put σ2 p.1 p.2) W l
    unfold noG
    split
    · rename_i hp
      refine noG_at ids W σ1 _ (fun l' hl' => ?_) l hl
      rw [put_ne _ _ (fun e => ?_)]
      · exact h l' hl'
      · subst e
        cases hq : p.1 with
        | g o => exact hl' o hq
        | _ => rw [hq] at hp; cases hp
    · refine noG_at ids W (put σ1 p.1 p.2) _ (fun l' hl' => ?_) l hl
      unfold put
      split
      · rfl
      · exact h l' hl'
theorem noG_gg (ids : List Id) (σ0 : St) : ∀ (W : List (Pl × X)) (σ1 σ2 : St), okG σ0 ids W → (∀ o, gg σ1 o = gg σ2 o) → (∀ o, hasId ids o = true → gg σ1 o = gg σ0 o) → ∀ o, gg (puts σ1 (noG ids W)) o = gg (puts σ2 W) o
  | [], _, _, _, h, _, o => h o
  | p :: W, σ1, σ2, hk, h, h0, o => by
    show gg (puts σ1 (noG ids (p :: W))) o = gg (puts (put σ2 p.1 p.2) W) o
    obtain ⟨k1, k2⟩ := hk
    obtain ⟨q, x⟩ := p
    dsimp only at k1 ⊢
    unfold noG
    cases hp : isG ids q with
    | true =>
      simp only [hp]
      rw [hp] at k1
      cases q with
      | g o' =>
        have hx : x = .num (gg σ0 o') := k1
        refine noG_gg ids σ0 W σ1 _ k2 (fun o2 => ?_) h0 o
        by_cases e : o2 = o'
        · subst e
          rw [h0 o2 hp, gg_num (σ := put σ2 (.g o2) x) (n := gg σ0 o2) (by rw [put_same]; exact hx)]
        · rw [h o2]
          exact (gg_of (put_ne _ _ (by simp [e]))).symm
      | _ => cases hp
    | false =>
      simp only [hp]
      refine noG_gg ids σ0 W (put σ1 q x) _ k2 (fun o2 => ?_) (fun o2 ho2 => ?_) o
      · by_cases e : q = .g o2
        · subst e
          unfold gg
          rw [put_same, put_same]
        · rw [gg_of (put_ne _ _ (fun e2 => e e2.symm)), gg_of (put_ne _ _ (fun e2 => e e2.symm))]
          exact h o2
      · rw [gg_of (put_ne _ _ (fun e2 => ?_))]
        · exact h0 o2 ho2
        · subst e2
          have : isG ids (.g o2) = true := ho2
          rw [this] at hp
          cases hp
theorem OpOk.noG {o : Oper} {L : List Pl} {W : List (Pl × X)} {ids : List Id} (h : OpOk P ops C o (rds σ L) W) (hq : okG σ ids W) (hR : ∀ o ∈ ids, Pl.g o ∈ L) : OpOk P ops C o (rds σ L) (noG ids W) := by
  intro E σ' a w K Q hd hr hg hK
  refine h E σ' a w K Q hd hr hg fun a' w' E' g => ?_
  have hrr := rds_all hr
  refine hK a' w' E' (g.regen _ (fun l hl => noG_at ids W σ' σ' (fun _ _ => rfl) l hl) (fun o => ?_))
  exact noG_gg ids σ W σ' σ' hq (fun _ => rfl) (fun o2 ho2 => gg_of (hrr _ (hR o2 (hasId_mem ho2)))) o
theorem objsL_memG {all : List Id} : ∀ {ids : List Id} {objs : List (List CA)} {ts : List Ho}, MObjs σ all ids objs ts → ∀ o ∈ ids, Pl.g o ∈ objsL ids objs := by
  intro ids objs ts h
  induction h with
  | nil => intro o ho; cases ho
  | cons _ _ _ ih =>
    intro o ho
    rcases List.mem_cons.1 ho with rfl | ho
    · simp [objsL]
    · simp [objsL, ih o ho]
end
section
variable {P : Program} {ops : Array Oper} {C : Ctx} {σ : St} {md : Bool} {K : St → List FP → Prop} {acc : List FP} {rest : List Oper}
/-- A call: pointers to its objects may be reckoned beside it. -/
theorem callG_u {d : Tmp} {F : FuncId} (hK : ∀ args w, (callFunc F args).run P w = .ok (.enter F args) w) {xs : List Operand} {tys : Array TypeId} {args : List Arg} {objs objs' : List (List CA)} {res : Arg} {ty : TypeId} {pos : String} {af : Array Edge}
    (hspec : Spec P F args objs res objs') (ids : List Id)
    (h : mArgs σ ids (xs.map (ev σ)) args ∧ mObjs σ ids ids objs ∧ (tokArgs (xs.map (ev σ)) args ++ tokObjs σ ids objs).Nodup) (hq : okG σ ids (callW σ d ids (tokArgs (xs.map (ev σ)) args ++ tokObjs σ ids objs) objs' res))
    (k : exec P ops C md K rest (puts σ (noG ids (callW σ d ids (tokArgs (xs.map (ev σ)) args ++ tokObjs σ ids objs) objs' res))) ((callL d xs ids (tokArgs (xs.map (ev σ)) args ++ tokObjs σ ids objs) objs objs', locs (noG ids (callW σ d ids (tokArgs (xs.map (ev σ)) args ++ tokObjs σ ids objs) objs' res))) :: acc))
    (hn : namesB d ids objs' = true := by kernel_rfl) (hl : lenB objs.length objs'.length = true := by kernel_rfl) :
    Run P ops C md K (⟨some d, .call { callee := .value (.func F), args := xs.toArray, argTypes := tys }, ty, pos, af, none⟩ :: rest) σ acc := by
  obtain ⟨h1, h2, h3⟩ := h
  have h4 := ok_call (ops := ops) (C := C) hK hspec ids (mArgs_ok h1) (mObjs_ok h2) h3 (namesB_ok hn) (lenB_ok hl) (tys := tys) ty pos af
  exact run_cons (h4.noG hq fun o ho => by
    unfold callL
    exact List.mem_append_right _ (List.mem_append_right _ (List.mem_append_left _ (objsL_memG (mObjs_ok h2) o ho)))) (exec_run k)
end
attribute [go_sem] noG isG okG okG1 hasId
attribute [go_sem] takW outW regW putW
section
variable {P : Program} {ops : Array Oper} {C : Ctx} {σ : St} {md : Bool} {K : St → List FP → Prop} {acc : List FP} {rest : List Oper} {Q : Exit → St → Prop}
/-- A walk may stop ahead of a return. -/
theorem stop_ret (h : AW P C .ret σ Q) : AW P C .ret σ Q := h
/-- A map's value, which is a row, is looked up: it has a name of its own from now on. -/
theorem lkR_s {d : Tmp} {t : TypeId} {x k : Operand} {ty : TypeId} {pos : String} {af : Array Edge} (id : Id) (kvs : List (Value × T)) (j : Nat) (key : Value) (y : V) (e : TypeId) (sz : Nat) (es : List (List V)) (kt e0 : TypeId) (hm : mapOf P t = some (kt, e0))
    (h : ev σ x = .ref id (gh σ id) ∧ σ (.r id) = .tree (.mp kvs) ∧ ev σ k = .val y) (hy : keyV key y) (hko : KeyOk P kt key (kvs.map (·.1))) (hj : kvs[j]? = some (key, .rw e sz es)) (hd : id ≠ (d, 1) ∧ id.2 ≠ 0)
    (k1 : exec P ops C md K rest (puts σ (takW σ id (d, 1) (.mp (kvs.set j (key, .av .any))) (.rw e sz es) j ++ [(.s d, .av (.ref (d, 1) (gh σ (d, 1) + 1)))])) (([.h id, .g id, .r id, .h (d, 1), .g (d, 1)] ++ (rdl x ++ rdl k), locs (takW σ id (d, 1) (.mp (kvs.set j (key, .av .any))) (.rw e sz es) j ++ [(.s d, .av (.ref (d, 1) (gh σ (d, 1) + 1)))])) :: acc)) :
    Run P ops C md K (⟨some d, .lookup t x k false, ty, pos, af, none⟩ :: rest) σ acc :=
  run_any (ok_lookR hm h.1 h.2.1 h.2.2 hy hko hj hd.1 hd.2) rfl trivial k1
/-- A map's value that is no row, or none, is looked up. -/
theorem lkS_s {d : Tmp} {t : TypeId} {x k : Operand} {ty : TypeId} {pos : String} {af : Array Edge} (id : Id) (kvs : List (Value × T)) (key z : Value) (y : V) (u : V) (kt e0 : TypeId) (hm : mapOf P t = some (kt, e0))
    (h : ev σ x = .ref id (gh σ id) ∧ σ (.r id) = .tree (.mp kvs) ∧ ev σ k = .val y) (hy : keyV key y) (hko : KeyOk P kt key (kvs.map (·.1))) (hz : zeroOf P e0 = some z) (hu : lookV false (kvGet kvs key) (vOf z) = u)
    (k1 : exec P ops C md K rest (puts σ [(.s d, .av (.val u))]) (([.h id, .r id] ++ (rdl x ++ rdl k), [.s d]) :: acc)) :
    Run P ops C md K (⟨some d, .lookup t x k false, ty, pos, af, none⟩ :: rest) σ acc := by
  subst hu
  exact run_any (ok_lookS hm h.1 h.2.1 h.2.2 hy hko hz) rfl trivial k1
/-- A row is put into a map. -/
theorem upR_s {t : TypeId} {x k v : Operand} {ty : TypeId} {pos : String} {af : Array Edge} {op : Op} (hop : op = .insert t x k v ∨ op = .mapUpdate t x k v) (id k2 : Id) (kvs kvs' : List (Value × T)) (key : Value) (y : V) (e : TypeId) (sz : Nat) (es : List (List V)) (kt e0 : TypeId) (hm : mapOf P t = some (kt, e0))
    (h : ev σ x = .ref id (gh σ id) ∧ σ (.r id) = .tree (.mp kvs) ∧ ev σ k = .val y ∧ ev σ v = .ref k2 (gh σ k2) ∧ σ (.r k2) = .tree (.rw e sz es)) (hy : keyV key y) (hko : KeyOk P kt key (kvs.map (·.1))) (hold : ∀ y, kvGet kvs key = some y → ∃ x, y = .av x) (hd : id ≠ k2 ∧ id.2 ≠ 0) (hu : kvSet kvs key (.rw e sz es) = kvs')
    (k1 : exec P ops C md K rest (puts σ (putW σ id k2 (.mp kvs'))) (([.h id, .g id, .r id, .h k2, .r k2] ++ (rdl x ++ (rdl k ++ rdl v)), locs (putW σ id k2 (.mp kvs'))) :: acc)) :
    Run P ops C md K (⟨none, op, ty, pos, af, none⟩ :: rest) σ acc := by
  subst hu
  exact run_any (ok_updR op hop hm h.1 h.2.1 h.2.2.1 hy h.2.2.2.1 h.2.2.2.2 hko hold hd.1 hd.2) rfl trivial k1
/-- A key is let go. -/
theorem del_s {t t2 : TypeId} {x k : Operand} {ty : TypeId} {pos : String} {af : Array Edge} (id : Id) (kvs kvs' : List (Value × T)) (key : Value) (y : V) (kt e0 : TypeId) (hm : mapOf P t = some (kt, e0))
    (h : ev σ x = .ref id (gh σ id) ∧ σ (.r id) = .tree (.mp kvs) ∧ ev σ k = .val y ∧ noLent (σ (.l id))) (hy : keyV key y) (hko : KeyOk P kt key (kvs.map (·.1))) (hu : kvDel kvs key = kvs')
    (k1 : exec P ops C md K rest (puts σ (setTW σ id (.mp kvs'))) (([.h id, .g id, .r id, .l id] ++ (rdl x ++ rdl k), locs (setTW σ id (.mp kvs'))) :: acc)) :
    Run P ops C md K (⟨none, .call { callee := .builtin .delete, args := #[x, k], argTypes := #[t, t2] }, ty, pos, af, none⟩ :: rest) σ acc := by
  subst hu
  exact run_any (ok_del hm h.1 h.2.1 h.2.2.2 h.2.2.1 hy hko) rfl trivial k1
/-- A row that was taken out is given back. -/
theorem bck_s {c : Code} (id k2 : Id) (kvs kvs' : List (Value × T)) (j : Nat) (key : Value) (x : V) (e : TypeId) (sz : Nat) (es : List (List V)) (hj : kvs[j]? = some (key, .av x)) (hu : kvs.set j (key, .rw e sz es) = kvs')
    (h : (σ (.r id) = .tree (.mp kvs) ∧ σ (.l id) = .lent j (.ref k2 (gh σ k2)) ∧ σ (.r k2) = .tree (.rw e sz es) ∧ id ≠ k2 ∧ id.2 ≠ 0) ∧ AW P C c (puts σ (putW σ id k2 (.mp kvs'))) Q) : AW P C c σ Q := by
  subst hu
  obtain ⟨⟨h1, h2, h3, h4, h5⟩, h6⟩ := h
  intro E a w hg
  obtain ⟨E', g1⟩ := hg.giveBack h4 h5 h1 hj h2 h3
  exact h6 E' a w g1
end
end Go.Proofs.Ytekpaepkoeelfaa
