
/- What a function is known to do, without a world; a call of it. -/
import Derived.Test.YtkdnaemkhgjbpaaDoorR7
namespace Go.Proofs.YtkdnaemkhgjbpaaDoor
open Go.RowKit
set_option linter.unusedVariables false
set_option linter.unusedSimpArgs false

inductive CA where
  | val (x : V)
  | own (e : TypeId) (sz : Nat) (es : List (List V))
inductive Arg where
  | ca (c : CA)
  | ptr (i off : Nat)
def CAok (m : Mem) (w : World) : CA → Value → Prop
  | .val x, v => Rd m x v
  | .own e sz es, v => Rd m (.lst sz es) v ∧ ∃ xs, w.ownsRow 0 e sz v es.length xs ∧ ∀ b, v.ownBlock = some b → ∀ i, m b i = xs[i]?
def ownB : CA → Value → Option Nat
  | .own .., v => v.ownBlock
  | .val _, _ => none
inductive Rx where
  | ob (i : Nat)
  | ce (i j : Nat)
  | ar (j : Nat)
def Ow (vals : List Value) (args : List Arg) (objs : List (List CA)) (bs : List Nat) (cvs : List (List Value)) : Rx → Nat → Prop
  | .ob i, b => bs[i]? = some b
  | .ce i j, b => ∃ cs vs c v, objs[i]? = some cs ∧ cvs[i]? = some vs ∧ cs[j]? = some c ∧ vs[j]? = some v ∧ ownB c v = some b
  | .ar j, b => ∃ c v, args[j]? = some (.ca c) ∧ vals[j]? = some v ∧ ownB c v = some b
structure Holds (m : Mem) (w : World) (vals : List Value) (args : List Arg) (objs : List (List CA)) (bs : List Nat) (cvs : List (List Value)) : Prop where
  ms : ∀ b i v, m b i = some v → w.cell? ⟨b, i, none⟩ = some v
  hl : vals.length = args.length
  ol : bs.length = objs.length
  cl : cvs.length = objs.length
  ca : ∀ (j : Nat) (c : CA) (v : Value), args[j]? = some (Arg.ca c) → vals[j]? = some v → CAok m w c v
  pt : ∀ (j i off : Nat) (v : Value), args[j]? = some (.ptr i off) → vals[j]? = some v → ∃ b, bs[i]? = some b ∧ v = .pointer (some ⟨b, off, none⟩)
  ob : ∀ (i b : Nat) (cs : List CA) (vs : List Value), bs[i]? = some b → objs[i]? = some cs → cvs[i]? = some vs → vs.length = cs.length ∧ (∃ ty, w.heap[b]? = some (.cells vs.toArray ty (0, 0))) ∧ (∀ i, m b i = none) ∧ ∀ (j : Nat) (c : CA) (v : Value), cs[j]? = some c → vs[j]? = some v → CAok m w c v
  di : ∀ (x y : Rx) (b : Nat), Ow vals args objs bs cvs x b → Ow vals args objs bs cvs y b → x = y
/-- Function K, given these arguments, and objects with these contents, returns that, and leaves the objects so; further objects are new. -/
def Spec (P : Program) (K : FuncId) (args : List Arg) (objs : List (List CA)) (res : Arg) (objs' : List (List CA)) : Prop :=
  ∀ m w vals bs cvs, Holds m w vals args objs bs cvs → Calls P K vals.toArray w fun e w' => ∃ (v : Value) (m' : Mem) (bs' : List Nat) (cvs' : List (List Value)), e = .returned v ∧ Holds m' w' [v] [res] objs' bs' cvs' ∧ m.le m' ∧
    Chg (fun b => ∃ x, Ow vals args objs bs cvs x b) w w' ∧ (∀ (i b : Nat), bs[i]? = some b → bs'[i]? = some b) ∧ (∀ (b i : Nat), b < w.heap.size → (¬ ∃ x, Ow vals args objs bs cvs x b) → m' b i = m b i) ∧
    ∀ (x : Rx) (b : Nat), Ow [v] [res] objs' bs' cvs' x b → (∃ x, Ow vals args objs bs cvs x b) ∨ w.heap.size ≤ b

def Sub (x y : V) : Prop := ∀ m v, Rd m x v → Rd m y v
theorem Sub.rfl (x : V) : Sub x x := fun _ _ h => h
theorem Sub.any (x : V) : Sub x .any := fun _ v _ => Rd.any v
theorem Sub.nil (sz : Nat) : Sub (.sc (.slice none 0 0)) (.lst sz []) := fun m v h => by cases h; exact Rd.nil0 sz
theorem Sub.agg {xs ys : List V} (hl : xs.length = ys.length) (h : ∀ i (h : i < xs.length) (h' : i < ys.length), Sub xs[i] ys[i]) : Sub (.agg xs) (.agg ys) := fun m v hr => by
  cases hr with
  | agg _ zs hz hh => exact Rd.agg _ _ (hz.trans hl) fun i hi => h i (by omega) hi _ _ (hh i (by omega))
theorem Sub.tup {xs ys : List V} (hl : xs.length = ys.length) (h : ∀ i (h : i < xs.length) (h' : i < ys.length), Sub xs[i] ys[i]) : Sub (.tup xs) (.tup ys) := fun m v hr => by
  cases hr with
  | tup _ zs hz hh => exact Rd.tup _ _ (hz.trans hl) fun i hi => h i (by omega) hi _ _ (hh i (by omega))
/-- Parts alike, one by one. -/
def Subs : List V → List V → Prop
  | [], [] => True
  | x :: xs, y :: ys => Sub x y ∧ Subs xs ys
  | _, _ => False
theorem Subs.get : ∀ {xs ys : List V}, Subs xs ys → xs.length = ys.length ∧ ∀ i (h : i < xs.length) (h' : i < ys.length), Sub xs[i] ys[i]
  | [], [], _ => ⟨rfl, fun i h => by simp at h⟩
  | x :: xs, y :: ys, h => ⟨by simp [(Subs.get h.2).1], fun i h1 h2 => by
    cases i with
    | zero => exact h.1
    | succ i => exact (Subs.get h.2).2 i (by simpa using h1) (by simpa using h2)⟩
  | [], _ :: _, h => h.elim
  | _ :: _, [], h => h.elim
theorem Sub.agg' {xs ys : List V} (h : Subs xs ys) : Sub (.agg xs) (.agg ys) := Sub.agg h.get.1 h.get.2
theorem Sub.tup' {xs ys : List V} (h : Subs xs ys) : Sub (.tup xs) (.tup ys) := Sub.tup h.get.1 h.get.2

section
variable {P : Program} {ops : Array Oper} {C : Ctx} {E : Env} {σ : St} {a : Act} {w : World}

/-! ### Matching -/
inductive MArgs (σ : St) (ids : List Id) : List AV → List Arg → List Id → Prop where
  | nil : MArgs σ ids [] [] []
  | val {x y xs ys ts} (h : Sub (plain x) y) (r : MArgs σ ids xs ys ts) : MArgs σ ids (x :: xs) (.ca (.val y) :: ys) ts
  | own {k g e sz es xs ys ts} (hq : gq σ k = g) (hk : σ (.k k) = .row e sz es.length) (r : MArgs σ ids xs ys ts) : MArgs σ ids (.own k g e sz es :: xs) (.ca (.own e sz es) :: ys) (k :: ts)
  | nown {e sz xs ys ts} (r : MArgs σ ids xs ys ts) : MArgs σ ids (.val (.sc (.slice none 0 0)) :: xs) (.ca (.own e sz []) :: ys) ts
  | ptr {o g off i xs ys ts} (hi : ids[i]? = some o) (hg : gg σ o = g) (r : MArgs σ ids xs ys ts) : MArgs σ ids (.ptr o g off :: xs) (.ptr i off :: ys) ts
inductive MCells (σ : St) : List AV → List CA → List Id → Prop where
  | nil : MCells σ [] [] []
  | val {x y xs ys ts} (h : Sub (plain x) y) (r : MCells σ xs ys ts) : MCells σ (x :: xs) (.val y :: ys) ts
  | own {k g e sz es xs ys ts} (hq : gq σ k = g) (hk : σ (.k k) = .row e sz es.length) (r : MCells σ xs ys ts) : MCells σ (.own k g e sz es :: xs) (.own e sz es :: ys) (k :: ts)
  | nown {e sz xs ys ts} (r : MCells σ xs ys ts) : MCells σ (.val (.sc (.slice none 0 0)) :: xs) (.own e sz [] :: ys) ts
def cellAVs (σ : St) (o : Id) : Nat → Nat → List AV
  | _, 0 => []
  | i, n + 1 => cellAV σ o i :: cellAVs σ o (i + 1) n
inductive MObjs (σ : St) : List Id → List (List CA) → List Id → Prop where
  | nil : MObjs σ [] [] []
  | cons {o ids cs objs ts ts'} (ho : σ (.o o) = .num cs.length) (hc : MCells σ (cellAVs σ o 0 cs.length) cs ts) (r : MObjs σ ids objs ts') : MObjs σ (o :: ids) (cs :: objs) (ts ++ ts')

/-! ### Blocks that are held -/
def LiveB (E : Env) (σ : St) (b : Nat) : Prop := (∃ o n, σ (.o o) = .num n ∧ E.loc o = b) ∨ (∃ k e sz T, σ (.k k) = .row e sz T ∧ (E.rv k).ownBlock = some b)

/-- Rows and objects are let go. -/
theorem Gm.drop (h : Gm C E σ a w) (σ' : St) (hs : ∀ t, σ' (.s t) = σ (.s t)) (hc : ∀ o i, σ' (.c o i) = σ (.c o i)) (hg : ∀ o, σ' (.g o) = σ (.g o)) (ho : ∀ o n, σ' (.o o) = .num n → σ (.o o) = .num n)
    (hk : ∀ k e sz T, σ' (.k k) = .row e sz T → σ (.k k) = .row e sz T) (hq : ∀ k, σ' (.q k) = σ (.q k) ∨ gq σ k < gq σ' k) : Gm C E σ' a w ∧ ∀ b, LiveB E σ' b → LiveB E σ b := by
  have hmo : Mo E σ E σ' := by
    refine ⟨Mem.le_refl _, fun o => ⟨Nat.le_of_eq (gg_of (hg o)).symm, fun _ => rfl⟩, fun k => ?_⟩
    rcases hq k with h2 | h2
    · exact ⟨Nat.le_of_eq (gq_of h2).symm, fun _ e sz T h3 => ⟨T, hk _ _ _ _ h3, Nat.le_refl _, fun _ => rfl⟩⟩
    · exact ⟨by omega, fun e => absurd e (by omega)⟩
  refine ⟨⟨h.sz, h.df, h.ms, h.fr, fun t x h1 => (h.sl t x (by rw [← hs]; exact h1)).mo hmo, fun o i x n h1 h2 h3 => ?_, fun o n h1 => h.ob o n (ho _ _ h1), fun k e s T h1 => h.ro k e s T (hk _ _ _ _ h1), fun o o' n n' h1 h2 => h.oo o o' n n' (ho _ _ h1) (ho _ _ h2),
    fun k k' e s T e' s' T' b h1 h2 => h.rr k k' e s T e' s' T' b (hk _ _ _ _ h1) (hk _ _ _ _ h2), fun o n k e s T h1 h2 => h.or o n k e s T (ho _ _ h1) (hk _ _ _ _ h2), h.pi, h.ml, h.mx⟩, fun b hb => ?_⟩
  · obtain ⟨v, hv, hr⟩ := h.ce o i x n (by rw [← hc]; exact h1) (ho _ _ h2) h3
    exact ⟨v, hv, hr.mo hmo⟩
  · rcases hb with ⟨o, n, h1, h2⟩ | ⟨k, e, sz, T, h1, h2⟩
    · exact .inl ⟨o, n, ho _ _ h1, h2⟩
    · exact .inr ⟨k, e, sz, T, hk _ _ _ _ h1, h2⟩
/-- The world turns beside what is held. -/
theorem Gm.turn (h : Gm C E σ a w) (D' : Nat → Prop) (w' : World) (m' : Mem) (hc : Chg D' w w') (hm : E.m.le m') (hs : ∀ b i v, m' b i = some v → w'.cell? ⟨b, i, none⟩ = some v) (hD : ∀ b, D' b → C.D b ∨ C.w0.heap.size ≤ b)
    (hl : ∀ b, LiveB E σ b → ¬ D' b) (hk : ∀ b i, b < w.heap.size → ¬ D' b → m' b i = E.m b i) : Gm C { E with m := m' } σ a w' := by
  have hmo : Mo E σ { E with m := m' } σ := ⟨hm, fun o => ⟨Nat.le_refl _, fun _ => rfl⟩, fun k => ⟨Nat.le_refl _, fun _ e sz T h2 => ⟨T, h2, Nat.le_refl _, fun _ => rfl⟩⟩⟩
  have hob : ∀ o n, σ (.o o) = .num n → E.loc o < w.heap.size ∧ ¬ D' (E.loc o) := by
    intro o n h1
    obtain ⟨⟨c1, t1, h2, _⟩, _⟩ := h.ob o n h1
    exact ⟨(Array.getElem?_eq_some_iff.1 h2).1, hl _ (.inl ⟨o, n, h1, rfl⟩)⟩
  refine ⟨h.sz, h.df, hs, h.fr.step hc (fun i hi he => by rcases hD i he with h1 | h1; exact h1; omega), fun t x h1 => (h.sl t x h1).mo hmo, fun o i x n h1 h2 h3 => ?_, fun o n h1 => ?_, fun k e s T h1 => ?_, h.oo, h.rr, h.or, h.pi, Mem.le_trans h.ml hm, fun b i h1 h2 => by
    show m' b i = _
    rw [hk b i (Nat.lt_of_lt_of_le h1 h.fr.size) (fun hd => by rcases hD b hd with h3 | h3; exact h2 h3; omega)]; exact h.mx b i h1 h2⟩
  · obtain ⟨v, hv, hr⟩ := h.ce o i x n h1 h2 h3
    obtain ⟨h4, h5⟩ := hob o n h2
    exact ⟨v, by rw [World.cell?_of_block (w := w) (a := ⟨E.loc o, i, none⟩) (hc.block _ h4 h5)]; exact hv, hr.mo hmo⟩
  · obtain ⟨⟨c1, t1, h2, h3⟩, h4, h5⟩ := h.ob o n h1
    obtain ⟨h6, h7⟩ := hob o n h1
    exact ⟨⟨c1, t1, by rw [hc.block _ h6 h7]; exact h2, h3⟩, fun i => by show m' _ i = _; rw [hk _ _ h6 h7]; exact h4 i, h5⟩
  · obtain ⟨h2, h3⟩ := h.ro k e s T h1
    have h4 : ∀ b, (E.rv k).ownBlock = some b → b < w.heap.size ∧ ¬ D' b := fun b hb => ⟨(h2.lt b hb).2, hl _ (.inr ⟨k, e, s, T, h1, hb⟩)⟩
    exact ⟨own_heap h2 fun b hb => hc.block _ (h4 b hb).1 (h4 b hb).2, fun b hb => ⟨fun i => by show m' b i = _; rw [hk _ _ (h4 b hb).1 (h4 b hb).2]; exact (h3 b hb).1 i, (h3 b hb).2⟩⟩
/-- A row is taken. -/
theorem Gm.gainRow (h : Gm C E σ a w) (k : Id) (G' : Nat) (hlt : gq σ k < G') (e : TypeId) (sz n : Nat) (v : Value) (xs : List Value) (hown : w.ownsRow 0 e sz v n xs)
    (hb : ∀ b, v.ownBlock = some b → (∀ i, E.m b i = xs[i]?) ∧ (C.D b ∨ C.w0.heap.size ≤ b) ∧ ¬ LiveB E σ b) :
    ∃ E', Gm C E' (puts σ [(.q k, .num G'), (.k k, .row e sz n)]) a w ∧ Mo E σ E' (puts σ [(.q k, .num G'), (.k k, .row e sz n)]) ∧ E'.m = E.m ∧ E'.loc = E.loc ∧
      (∀ b, LiveB E' (puts σ [(.q k, .num G'), (.k k, .row e sz n)]) b → LiveB E σ b ∨ v.ownBlock = some b) ∧
      ∀ es : List (List V), es.length = n → Rd E.m (.lst sz es) v → RdA E' (puts σ [(.q k, .num G'), (.k k, .row e sz n)]) (.own k G' e sz es) v := by
  obtain ⟨σ', hσ'⟩ : ∃ s, s = puts σ [(.q k, .num G'), (.k k, .row e sz n)] := ⟨_, rfl⟩
  have qq : ∀ k', σ' (.q k') = if k' = k then .num G' else σ (.q k') := by
    intro k'; rw [hσ']; show put (put σ (.q k) (.num G')) (.k k) (.row e sz n) (.q k') = _
    rw [put_ne _ _ (by simp)]; by_cases hk : k' = k
    · subst hk; simp [put]
    · simp [put, hk]
  have qk : ∀ k', σ' (.k k') = if k' = k then .row e sz n else σ (.k k') := by
    intro k'; rw [hσ']; show put (put σ (.q k) (.num G')) (.k k) (.row e sz n) (.k k') = _
    by_cases hk : k' = k
    · subst hk; simp [put]
    · simp [put, hk]
  have qg : ∀ o, σ' (.g o) = σ (.g o) := by intro o; rw [hσ']; simp [puts, put]
  have qo : ∀ o, σ' (.o o) = σ (.o o) := by intro o; rw [hσ']; simp [puts, put]
  have qs : ∀ o, σ' (.s o) = σ (.s o) := by intro o; rw [hσ']; simp [puts, put]
  have qc : ∀ o i, σ' (.c o i) = σ (.c o i) := by intro o i; rw [hσ']; simp [puts, put]
  rw [← hσ']
  clear hσ'
  obtain ⟨E', hE'⟩ : ∃ E' : Env, E' = { E with rv := fun k' => if k' = k then v else E.rv k', rx := fun k' => if k' = k then xs else E.rx k' } := ⟨_, rfl⟩
  have em : E'.m = E.m := by rw [hE']
  have eloc : E'.loc = E.loc := by rw [hE']
  have erv : ∀ k', E'.rv k' = if k' = k then v else E.rv k' := by intro k'; rw [hE']
  have erx : ∀ k', E'.rx k' = if k' = k then xs else E.rx k' := by intro k'; rw [hE']
  clear hE'
  have hmo : Mo E σ E' σ' := by
    refine ⟨by rw [em]; exact Mem.le_refl _, fun o => ⟨Nat.le_of_eq (gg_of (qg o)).symm, fun _ => by rw [eloc]⟩, fun k' => ?_⟩
    by_cases hk : k' = k
    · subst hk
      have hq' : gq σ' k' = G' := gq_num (by rw [qq, if_pos rfl])
      exact ⟨by omega, fun he => absurd he (by omega)⟩
    · have hq' : gq σ' k' = gq σ k' := gq_of (by rw [qq, if_neg hk])
      refine ⟨by omega, fun _ e1 sz1 T1 h2 => ?_⟩
      rw [qk, if_neg hk] at h2
      exact ⟨T1, h2, Nat.le_refl _, fun _ => by rw [erv, if_neg hk]⟩
  refine ⟨E', ⟨h.sz, h.df, by rw [em]; exact h.ms, h.fr, fun t x h1 => (h.sl t x (by rw [← qs]; exact h1)).mo hmo, fun o i x n h1 h2 h3 => ?_, fun o n h1 => ?_, fun k' e1 s1 T1 h1 => ?_, fun o o' n n' h1 h2 h3 => ?_, fun k1 k2 e1 s1 T1 e2 s2 T2 b h1 h2 h3 h4 => ?_, fun o n k' e1 s1 T1 h1 h2 => ?_, fun o b h1 => by rw [eloc]; exact h.pi o b h1, by rw [em]; exact h.ml, by rw [em]; exact h.mx⟩, hmo, em, eloc, fun b hb1 => ?_, fun es hes hrd => ⟨by rw [em]; exact hrd, ?_⟩⟩
  · rw [qc] at h1
    rw [qo] at h2
    obtain ⟨u, hu, hr⟩ := h.ce o i x n h1 h2 h3
    exact ⟨u, by rw [eloc]; exact hu, hr.mo hmo⟩
  · rw [qo] at h1
    rw [eloc, em]
    exact h.ob o n h1
  · rw [qk] at h1
    by_cases hk : k' = k
    · subst hk
      rw [if_pos rfl] at h1
      cases h1
      rw [erv, erx, if_pos rfl, if_pos rfl, em]
      exact ⟨hown, fun b h1 => ⟨(hb b h1).1, (hb b h1).2.1⟩⟩
    · rw [if_neg hk] at h1
      rw [erv, erx, if_neg hk, if_neg hk, em]
      exact h.ro k' e1 s1 T1 h1
  · rw [qo] at h1 h2
    rw [eloc] at h3
    exact h.oo o o' n n' h1 h2 h3
  · rw [qk] at h1 h2
    rw [erv] at h3 h4
    by_cases hk1 : k1 = k
    · by_cases hk2 : k2 = k
      · rw [hk1, hk2]
      · rw [if_pos hk1] at h3
        rw [if_neg hk2] at h2 h4
        exact absurd (.inr ⟨k2, e2, s2, T2, h2, h4⟩) (hb b h3).2.2
    · rw [if_neg hk1] at h1 h3
      by_cases hk2 : k2 = k
      · rw [if_pos hk2] at h4
        exact absurd (.inr ⟨k1, e1, s1, T1, h1, h3⟩) (hb b h4).2.2
      · rw [if_neg hk2] at h2 h4
        exact h.rr k1 k2 e1 s1 T1 e2 s2 T2 b h1 h2 h3 h4
  · rw [qo] at h1
    rw [qk] at h2
    rw [erv, eloc]
    by_cases hk : k' = k
    · rw [if_pos hk]
      intro he
      exact absurd (.inl ⟨o, n, h1, rfl⟩) (hb _ he).2.2
    · rw [if_neg hk] at h2 ⊢
      exact h.or o n k' e1 s1 T1 h1 h2
  · rcases hb1 with ⟨o, n', h1, h2⟩ | ⟨k', e1, s1, T1, h1, h2⟩
    · rw [qo] at h1
      rw [eloc] at h2
      exact .inl (.inl ⟨o, n', h1, h2⟩)
    · rw [qk] at h1
      rw [erv] at h2
      by_cases hk : k' = k
      · rw [if_pos hk] at h2; exact .inr h2
      · rw [if_neg hk] at h1 h2; exact .inl (.inr ⟨k', e1, s1, T1, h1, h2⟩)
  · have hq' : gq σ' k = G' := gq_num (by rw [qq, if_pos rfl])
    refine ⟨by omega, fun _ e1 sz1 T1 h2 => ?_⟩
    rw [qk, if_pos rfl] at h2
    cases h2
    exact ⟨by omega, fun _ => ⟨rfl, rfl, by rw [erv, if_pos rfl]⟩⟩
def objW (o : Id) (G' n : Nat) (xs : List AV) : List (Pl × X) := (.g o, .num G') :: (.o o, .num n) :: cellsW o 0 xs
/-- An object is taken. -/
theorem Gm.gainObj (h : Gm C E σ a w) (o : Id) (G' b : Nat) (hgg : (G' = gg σ o ∧ E.loc o = b) ∨ (gg σ o < G' ∧ C.pins o = none)) (ty : TypeId) (vs : List Value) (xs : List AV) (hl : vs.length = xs.length)
    (hblk : w.heap[b]? = some (.cells vs.toArray ty (0, 0))) (hm0 : ∀ i, E.m b i = none) (hD : C.D b ∨ C.w0.heap.size ≤ b) (hnl : ¬ LiveB E σ b)
    (hx : ∀ i (hi : i < xs.length), RdA E σ xs[i] (vs[i]'(hl ▸ hi))) :
    ∃ E', Gm C E' (puts σ (objW o G' xs.length xs)) a w ∧ Mo E σ E' (puts σ (objW o G' xs.length xs)) ∧ E'.m = E.m ∧ (∀ o', o' ≠ o → E'.loc o' = E.loc o') ∧
      (∀ b', LiveB E' (puts σ (objW o G' xs.length xs)) b' → LiveB E σ b' ∨ b' = b) ∧ ∀ off, RdA E' (puts σ (objW o G' xs.length xs)) (.ptr o G' off) (.pointer (some ⟨b, off, none⟩)) := by
  obtain ⟨σ1, hσ1⟩ : ∃ s, s = put (put σ (.g o) (.num G')) (.o o) (.num xs.length) := ⟨_, rfl⟩
  have hσ : puts σ (objW o G' xs.length xs) = puts σ1 (cellsW o 0 xs) := by rw [hσ1]; rfl
  have qg : ∀ o', puts σ1 (cellsW o 0 xs) (.g o') = if o' = o then .num G' else σ (.g o') := by
    intro o'
    rw [cellsW_other _ _ _ _ _ (by simp), hσ1, put_ne _ _ (by simp)]
    by_cases e : o' = o
    · subst e; simp [put]
    · simp [put, e]
  have qo : ∀ o', puts σ1 (cellsW o 0 xs) (.o o') = if o' = o then .num xs.length else σ (.o o') := by
    intro o'
    rw [cellsW_other _ _ _ _ _ (by simp), hσ1]
    by_cases e : o' = o
    · subst e; simp [put]
    · simp [put, e]
  have qk : ∀ k, puts σ1 (cellsW o 0 xs) (.k k) = σ (.k k) := by intro k; rw [cellsW_other _ _ _ _ _ (by simp), hσ1]; simp [put]
  have qq : ∀ k, puts σ1 (cellsW o 0 xs) (.q k) = σ (.q k) := by intro k; rw [cellsW_other _ _ _ _ _ (by simp), hσ1]; simp [put]
  have qs : ∀ t, puts σ1 (cellsW o 0 xs) (.s t) = σ (.s t) := by intro k; rw [cellsW_other _ _ _ _ _ (by simp), hσ1]; simp [put]
  have qc : ∀ o' i, o' ≠ o → puts σ1 (cellsW o 0 xs) (.c o' i) = σ (.c o' i) := by
    intro o' i e; rw [cellsW_other _ _ _ _ _ (by simp [e]), hσ1]; simp [put]
  have qco : ∀ j (hj : j < xs.length), puts σ1 (cellsW o 0 xs) (.c o j) = .av xs[j] := by
    intro j hj; rw [cellsW_at]; simp [hj]
  rw [hσ]
  clear hσ
  generalize puts σ1 (cellsW o 0 xs) = σ2 at *
  obtain ⟨E', hE'⟩ : ∃ E' : Env, E' = { E with loc := fun o' => if o' = o then b else E.loc o' } := ⟨_, rfl⟩
  have hm : E'.m = E.m := by rw [hE']
  have hloc : ∀ o', o' ≠ o → E'.loc o' = E.loc o' := by intro o' e; rw [hE']; simp [e]
  have hloco : E'.loc o = b := by rw [hE']; simp
  have hrv : E'.rv = E.rv := by rw [hE']
  have hrx : E'.rx = E.rx := by rw [hE']
  clear hE'
  have hmo : Mo E σ E' σ2 := by
    refine ⟨by rw [hm]; exact Mem.le_refl _, fun o' => ?_, fun k => ⟨Nat.le_of_eq (gq_of (qq k)).symm, fun _ e sz T h2 => ⟨T, by rw [← qk]; exact h2, Nat.le_refl _, fun _ => by rw [hrv]⟩⟩⟩
    by_cases e : o' = o
    · subst e
      have hg' : gg σ2 o' = G' := gg_num (by rw [qg, if_pos rfl])
      rcases hgg with ⟨h2, h3⟩ | ⟨h2, _⟩
      · exact ⟨by omega, fun _ => by rw [hloco, h3]⟩
      · exact ⟨by omega, fun e => absurd e (by omega)⟩
    · have hg' : gg σ2 o' = gg σ o' := gg_of (by rw [qg, if_neg e])
      exact ⟨by omega, fun _ => hloc _ e⟩
  refine ⟨E', ⟨h.sz, h.df, by rw [hm]; exact h.ms, h.fr, fun t x h1 => (h.sl t x (by rw [← qs]; exact h1)).mo hmo, fun o' i x n h1 h2 h3 => ?_, fun o' n h1 => ?_, fun k e s T h1 => ?_, fun o1 o2 n n' h1 h2 h3 => ?_, fun k k' e s T e' s' T' b' h1 h2 h3 h4 => ?_, fun o' n k e s T h1 h2 => ?_, fun o' b' h1 => ?_, by rw [hm]; exact h.ml, by rw [hm]; exact h.mx⟩, hmo, hm, hloc, fun b' hb => ?_, fun off => ?_⟩
  · by_cases e : o' = o
    · subst e
      rw [qo, if_pos rfl] at h2
      cases h2
      rw [qco i h3] at h1
      cases h1
      refine ⟨vs[i]'(hl ▸ h3), ?_, (hx i h3).mo hmo⟩
      rw [hloco, cell_of_row _ _ _ _ _ _ hblk]
      simp [hl ▸ h3]
    · rw [qo, if_neg e] at h2
      rw [qc _ _ e] at h1
      obtain ⟨v, hv, hr⟩ := h.ce o' i x n h1 h2 h3
      exact ⟨v, by rw [hloc _ e]; exact hv, hr.mo hmo⟩
  · by_cases e : o' = o
    · subst e
      rw [qo, if_pos rfl] at h1
      cases h1
      rw [hloco, hm]
      exact ⟨⟨_, ty, hblk, by simpa using hl⟩, hm0, hD⟩
    · rw [qo, if_neg e] at h1
      rw [hloc _ e, hm]
      exact h.ob o' n h1
  · rw [qk] at h1
    rw [hrv, hrx, hm]
    exact h.ro k e s T h1
  · rw [qo] at h1 h2
    by_cases e1 : o1 = o
    · by_cases e2 : o2 = o
      · rw [e1, e2]
      · rw [if_neg e2] at h2
        subst e1
        rw [hloco, hloc _ e2] at h3
        exact absurd (.inl ⟨o2, n', h2, h3.symm⟩) hnl
    · rw [if_neg e1] at h1
      by_cases e2 : o2 = o
      · subst e2
        rw [hloco, hloc _ e1] at h3
        exact absurd (.inl ⟨o1, n, h1, h3⟩) hnl
      · rw [if_neg e2] at h2
        rw [hloc _ e1, hloc _ e2] at h3
        exact h.oo o1 o2 n n' h1 h2 h3
  · rw [qk] at h1 h2
    rw [hrv] at h3 h4
    exact h.rr k k' e s T e' s' T' b' h1 h2 h3 h4
  · rw [qk] at h2
    rw [qo] at h1
    rw [hrv]
    by_cases e1 : o' = o
    · subst e1
      rw [hloco]
      intro he
      exact absurd (.inr ⟨k, e, s, T, h2, he⟩) hnl
    · rw [if_neg e1] at h1
      rw [hloc _ e1]
      exact h.or o' n k e s T h1 h2
  · by_cases e1 : o' = o
    · subst e1
      rcases hgg with ⟨_, h3⟩ | ⟨_, h3⟩
      · rw [hloco, ← h3]; exact h.pi _ b' h1
      · rw [h3] at h1; cases h1
    · rw [hloc _ e1]; exact h.pi o' b' h1
  · rcases hb with ⟨o', n', h1, h2⟩ | ⟨k', e1, s1, T1, h1, h2⟩
    · rw [qo] at h1
      by_cases e1 : o' = o
      · subst e1; rw [hloco] at h2; exact .inr h2.symm
      · rw [if_neg e1] at h1; rw [hloc _ e1] at h2; exact .inl (.inl ⟨o', n', h1, h2⟩)
    · rw [qk] at h1
      rw [hrv] at h2
      exact .inl (.inr ⟨k', e1, s1, T1, h1, h2⟩)
  · have hg' : gg σ2 o = G' := gg_num (by rw [qg, if_pos rfl])
    exact ⟨by omega, fun _ => by rw [hloco]⟩
end
end Go.Proofs.YtkdnaemkhgjbpaaDoor
