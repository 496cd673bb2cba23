
/- Abstract values: what a walk knows of slots, of objects in memory and of rows that grow; no world, no address. -/
import Derived.Test.YtkdnaemkhgjbpaaDoorKit
import Derived.Orders
import Derived.Laws.BytesString
namespace Go.Proofs.YtkdnaemkhgjbpaaDoor
open Go.RowKit
set_option linter.unusedVariables false
set_option linter.unusedSimpArgs false

/-- What is known of a value. -/
inductive V where
  | sc (v : Value)
  | lst (sz : Nat) (es : List (List V))
  | agg (xs : List V)
  | tup (xs : List V)
  | ep (xs : List V)
  | ifc (t : TypeId) (x : V)
  | any
  deriving Inhabited

/-- Cells that never change any more. -/
abbrev Mem := Nat → Nat → Option Value
def Mem.le (m m' : Mem) : Prop := ∀ b i v, m b i = some v → m' b i = some v
theorem Mem.le_refl (m : Mem) : m.le m := fun _ _ _ h => h
theorem Mem.le_trans {a b c : Mem} (h : a.le b) (k : b.le c) : a.le c := fun _ _ _ x => k _ _ _ (h _ _ _ x)

inductive Rd (m : Mem) : V → Value → Prop where
  | sc (v : Value) : Rd m (.sc v) v
  | any (v : Value) : Rd m .any v
  | nil (sz : Nat) (A : Option Addr) (c : Nat) (h : A = none → c = 0) : Rd m (.lst sz []) (.slice A 0 c)
  | lst (sz : Nat) (es : List (List V)) (b o cap : Nat) (f : Nat → Nat → Value) (hc : es.length ≤ cap) (hsz : ∀ i (h : i < es.length), es[i].length = sz)
      (hm : ∀ i j, i < es.length → j < sz → m b (o + i * sz + j) = some (f i j))
      (hr : ∀ i j (h : i < es.length) (hj : j < es[i].length), Rd m (es[i][j]) (f i j)) : Rd m (.lst sz es) (.slice (some ⟨b, o, none⟩) es.length cap)
  | agg (xs : List V) (ys : Array Value) (hl : ys.size = xs.length) (h : ∀ i (hi : i < xs.length), Rd m xs[i] (ys[i]'(hl ▸ hi))) : Rd m (.agg xs) (.agg ys)
  | tup (xs : List V) (ys : Array Value) (hl : ys.size = xs.length) (h : ∀ i (hi : i < xs.length), Rd m xs[i] (ys[i]'(hl ▸ hi))) : Rd m (.tup xs) (.tuple ys)
  | ep (xs : List V) (b o : Nat) (f : Nat → Value) (hm : ∀ j, j < xs.length → m b (o + j) = some (f j)) (hr : ∀ j (hj : j < xs.length), Rd m xs[j] (f j)) : Rd m (.ep xs) (.pointer (some ⟨b, o, none⟩))
  | ifc (t : TypeId) (x : V) (v : Value) (h : Rd m x v) : Rd m (.ifc t x) (.iface t v)

theorem Rd.mono {m m' : Mem} {x : V} {v : Value} (h : Rd m x v) (hm : m.le m') : Rd m' x v := by
  induction h with
  | sc v => exact .sc v
  | any v => exact .any v
  | nil sz A c h => exact .nil sz A c h
  | lst sz es b o cap f hc hsz h1 _ ih => exact .lst sz es b o cap f hc hsz (fun i j a b => hm _ _ _ (h1 i j a b)) ih
  | agg xs ys hl _ ih => exact .agg xs ys hl ih
  | tup xs ys hl _ ih => exact .tup xs ys hl ih
  | ep xs b o f h1 _ ih => exact .ep xs b o f (fun j a => hm _ _ _ (h1 j a)) ih
  | ifc t x v _ ih => exact .ifc t x v ih
theorem Rd.nil0 {m : Mem} (sz : Nat) : Rd m (.lst sz []) (.slice none 0 0) := .nil sz none 0 fun _ => rfl
theorem Rd.sc_eq {m : Mem} {u v : Value} (h : Rd m (.sc u) v) : v = u := by cases h; rfl

abbrev Id := Nat × Nat
/-- What is known of a slot, or of a cell of an object. -/
inductive AV where
  | val (x : V)
  | own (k : Id) (g : Nat) (e : TypeId) (sz : Nat) (es : List (List V))
  | ptr (o : Id) (g : Nat) (off : Nat)
  deriving Inhabited
/-- Places: a slot; an object's cell, size, generation; a row's tip, generation. -/
inductive Pl where
  | s (t : Nat)
  | c (o : Id) (i : Nat)
  | o (o : Id)
  | g (o : Id)
  | k (k : Id)
  | q (k : Id)
  deriving DecidableEq
inductive X where
  | av (x : AV)
  | num (n : Nat)
  | row (e : TypeId) (sz n : Nat)
  | non
  deriving Inhabited
abbrev St := Pl → X
def put (σ : St) (l : Pl) (x : X) : St := fun l' => if l' = l then x else σ l'
def puts (σ : St) : List (Pl × X) → St
  | [] => σ
  | p :: ps => puts (put σ p.1 p.2) ps
theorem puts_append (σ : St) (a b : List (Pl × X)) : puts σ (a ++ b) = puts (puts σ a) b := by
  induction a generalizing σ with
  | nil => rfl
  | cons p a ih => exact ih _
/-- Places of objects made by the world, and rows. -/
structure Env where
  m : Mem
  loc : Id → Nat
  rv : Id → Value
  rx : Id → List Value

/-- Generations of a row, of an object. -/
def gq (σ : St) (k : Id) : Nat := match σ (.q k) with | .num g => g | _ => 0
def gg (σ : St) (o : Id) : Nat := match σ (.g o) with | .num g => g | _ => 0
theorem gq_of {σ σ' : St} {k : Id} (h : σ' (.q k) = σ (.q k)) : gq σ' k = gq σ k := by unfold gq; rw [h]
theorem gg_of {σ σ' : St} {k : Id} (h : σ' (.g k) = σ (.g k)) : gg σ' k = gg σ k := by unfold gg; rw [h]
theorem gq_num {σ : St} {k : Id} {n : Nat} (h : σ (.q k) = .num n) : gq σ k = n := by unfold gq; rw [h]
theorem gg_num {σ : St} {k : Id} {n : Nat} (h : σ (.g k) = .num n) : gg σ k = n := by unfold gg; rw [h]
def Right (E : Env) (σ : St) (k : Id) (g : Nat) (e : TypeId) (sz n : Nat) (v : Value) : Prop :=
  g ≤ gq σ k ∧ (g = gq σ k → ∀ e' sz' T, σ (.k k) = .row e' sz' T → n ≤ T ∧ (n = T → e' = e ∧ sz' = sz ∧ v = E.rv k))
def RdA (E : Env) (σ : St) : AV → Value → Prop
  | .val x, v => Rd E.m x v
  | .own k g e sz es, v => Rd E.m (.lst sz es) v ∧ Right E σ k g e sz es.length v
  | .ptr o g off, v => g ≤ gg σ o ∧ (g = gg σ o → v = .pointer (some ⟨E.loc o, off, none⟩))

/-- A step that spoils nothing that was known. -/
structure Mo (E : Env) (σ : St) (E' : Env) (σ' : St) : Prop where
  m : E.m.le E'.m
  g : ∀ o, gg σ o ≤ gg σ' o ∧ (gg σ o = gg σ' o → E'.loc o = E.loc o)
  q : ∀ k, gq σ k ≤ gq σ' k ∧ (gq σ k = gq σ' k → ∀ e sz T', σ' (.k k) = .row e sz T' → ∃ T, σ (.k k) = .row e sz T ∧ T ≤ T' ∧ (T = T' → E'.rv k = E.rv k))
theorem RdA.mo {E E' : Env} {σ σ' : St} {x : AV} {v : Value} (h : RdA E σ x v) (hm : Mo E σ E' σ') : RdA E' σ' x v := by
  cases x with
  | val x => exact Rd.mono h hm.m
  | own k g e sz es =>
    obtain ⟨hle, heq⟩ := hm.q k
    obtain ⟨h1, h2⟩ := h.2
    refine ⟨Rd.mono h.1 hm.m, Nat.le_trans h1 hle, fun he e' sz' T' hT' => ?_⟩
    obtain ⟨T, hT, hTl, hTe⟩ := heq (by omega) e' sz' T' hT'
    obtain ⟨h3, h4⟩ := h2 (by omega) e' sz' T hT
    refine ⟨Nat.le_trans h3 hTl, fun hn => ?_⟩
    obtain ⟨a, b, c⟩ := h4 (by omega)
    exact ⟨a, b, c.trans (hTe (by omega)).symm⟩
  | ptr o g off =>
    obtain ⟨hle, heq⟩ := hm.g o
    obtain ⟨h1, h2⟩ := h
    refine ⟨Nat.le_trans h1 hle, fun he => ?_⟩
    rw [heq (by omega)]
    exact h2 (by omega)
theorem Mo.same {E : Env} {σ σ' : St} (hg : ∀ o, σ' (.g o) = σ (.g o)) (hq : ∀ k, σ' (.q k) = σ (.q k)) (hk : ∀ k, σ' (.k k) = σ (.k k)) : Mo E σ E σ' :=
  ⟨Mem.le_refl _, fun o => ⟨Nat.le_of_eq (gg_of (hg o)).symm, fun _ => rfl⟩, fun k => ⟨Nat.le_of_eq (gq_of (hq k)).symm, fun _ e sz T h2 => ⟨T, by rw [← hk]; exact h2, Nat.le_refl _, fun _ => rfl⟩⟩⟩

/-- What a function's walk keeps: how many slots; the world at its beginning; the blocks that it may turn; objects that came in. -/
structure Ctx where
  nt : Nat
  w0 : World
  D : Nat → Prop
  pins : Id → Option Nat
  np : ∀ d, d < nt → pins (d, 0) = none
  m0 : Mem

structure Gm (C : Ctx) (E : Env) (σ : St) (a : Act) (w : World) : Prop where
  sz : a.tmps.size = C.nt
  df : a.defers = []
  ms : ∀ b i v, E.m b i = some v → w.cell? ⟨b, i, none⟩ = some v
  fr : Chg C.D C.w0 w
  sl : ∀ t x, σ (.s t) = .av x → RdA E σ x (a.tmps.getD t undef)
  ce : ∀ o i x n, σ (.c o i) = .av x → σ (.o o) = .num n → i < n → ∃ v, w.cell? ⟨E.loc o, i, none⟩ = some v ∧ RdA E σ x v
  ob : ∀ o n, σ (.o o) = .num n → (∃ cs ty, w.heap[E.loc o]? = some (.cells cs ty (0, 0)) ∧ cs.size = n) ∧ (∀ i, E.m (E.loc o) i = none) ∧ (C.D (E.loc o) ∨ C.w0.heap.size ≤ E.loc o)
  ro : ∀ k e s T, σ (.k k) = .row e s T → w.ownsRow 0 e s (E.rv k) T (E.rx k) ∧ ∀ b, (E.rv k).ownBlock = some b → (∀ i, E.m b i = (E.rx k)[i]?) ∧ (C.D b ∨ C.w0.heap.size ≤ b)
  oo : ∀ o o' n n', σ (.o o) = .num n → σ (.o o') = .num n' → E.loc o = E.loc o' → o = o'
  rr : ∀ k k' e s T e' s' T' b, σ (.k k) = .row e s T → σ (.k k') = .row e' s' T' → (E.rv k).ownBlock = some b → (E.rv k').ownBlock = some b → k = k'
  or : ∀ o n k e s T, σ (.o o) = .num n → σ (.k k) = .row e s T → (E.rv k).ownBlock ≠ some (E.loc o)
  pi : ∀ o b, C.pins o = some b → E.loc o = b
  ml : C.m0.le E.m
  mx : ∀ b i, b < C.w0.heap.size → ¬ C.D b → E.m b i = C.m0 b i

section
variable {C : Ctx} {E : Env} {σ : St} {a : Act} {w : World}
theorem put_same (σ : St) (l : Pl) (x : X) : put σ l x l = x := by simp [put]
theorem put_ne (σ : St) {l l' : Pl} (x : X) (h : l' ≠ l) : put σ l x l' = σ l' := by simp [put, h]
theorem act_put_size (a : Act) (d : Option Tmp) (v : Value) : (a.put d v).tmps.size = a.tmps.size := by cases d <;> simp [Act.put]
theorem act_put_defers (a : Act) (d : Option Tmp) (v : Value) : (a.put d v).defers = a.defers := by cases d <;> rfl
theorem act_put_same (a : Act) (t : Nat) (v : Value) (h : t < a.tmps.size) : (a.put (some t) v).tmps.getD t undef = v := by
  simp [Act.put, Array.getD_eq_getD_getElem?, Array.getElem?_setIfInBounds, h]
theorem act_put_ne (a : Act) (t u : Nat) (v : Value) (h : u ≠ t) : (a.put (some t) v).tmps.getD u undef = a.tmps.getD u undef := by
  simp [Act.put, Array.getD_eq_getD_getElem?, Array.getElem?_setIfInBounds, Ne.symm h]

/-- A step of a slot alone. -/
theorem Gm.slot (h : Gm C E σ a w) (t : Nat) (x : AV) (v : Value) (ht : t < C.nt) (hx : RdA E σ x v) : Gm C E (put σ (.s t) (.av x)) (a.put (some t) v) w := by
  have hmo : Mo E σ E (put σ (.s t) (.av x)) := Mo.same (fun o => put_ne _ _ (by simp)) (fun o => put_ne _ _ (by simp)) (fun o => put_ne _ _ (by simp))
  have hO : ∀ o, put σ (.s t) (.av x) (.o o) = σ (.o o) := fun o => put_ne _ _ (by simp)
  have hK : ∀ o, put σ (.s t) (.av x) (.k o) = σ (.k o) := fun o => put_ne _ _ (by simp)
  have hCc : ∀ o i, put σ (.s t) (.av x) (.c o i) = σ (.c o i) := fun o i => put_ne _ _ (by simp)
  refine ⟨by rw [act_put_size]; exact h.sz, by rw [act_put_defers]; exact h.df, h.ms, h.fr, fun u y hy => ?_, fun o i y n h1 h2 h3 => ?_, fun o n h1 => h.ob o n (by rw [← hO]; exact h1), fun k e s T h1 => h.ro k e s T (by rw [← hK]; exact h1),
    fun o o' n n' h1 h2 => h.oo o o' n n' (by rw [← hO]; exact h1) (by rw [← hO]; exact h2), fun k k' e s T e' s' T' b h1 h2 => h.rr k k' e s T e' s' T' b (by rw [← hK]; exact h1) (by rw [← hK]; exact h2),
    fun o n k e s T h1 h2 => h.or o n k e s T (by rw [← hO]; exact h1) (by rw [← hK]; exact h2), h.pi, h.ml, h.mx⟩
  · by_cases hu : u = t
    · subst hu
      rw [put_same] at hy
      cases hy
      rw [act_put_same _ _ _ (by rw [h.sz]; exact ht)]
      exact hx.mo hmo
    · rw [put_ne _ _ (by simpa using hu)] at hy
      rw [act_put_ne _ _ _ _ hu]
      exact (h.sl u y hy).mo hmo
  · obtain ⟨v, hv, hr⟩ := h.ce o i y n (by rw [← hCc]; exact h1) (by rw [← hO]; exact h2) h3
    exact ⟨v, hv, hr.mo hmo⟩
theorem own_heap {w w' : World} {base : Nat} {e : TypeId} {size n : Nat} {v : Value} {xs : List Value} (h : w.ownsRow base e size v n xs) (hb : ∀ k, v.ownBlock = some k → w'.heap[k]? = w.heap[k]?) : w'.ownsRow base e size v n xs := by
  refine ⟨h.1, ?_⟩
  rcases h.2 with h2 | ⟨g, cap, cur, hv, hg, hh, r⟩
  · exact .inl h2
  · exact .inr ⟨g, cap, cur, hv, hg, (hb g (by rw [hv]; rfl)).trans hh, r⟩
theorem Gm.heap {w' : World} (h : Gm C E σ a w) (hw : ∀ k, k < w.heap.size → w'.heap[k]? = w.heap[k]?) (hf : Chg C.D w w') : Gm C E σ a w' := by
  have hcell : ∀ b i v, w.cell? ⟨b, i, none⟩ = some v → w'.cell? ⟨b, i, none⟩ = some v := by
    intro b i v hv
    rcases Nat.lt_or_ge b w.heap.size with hb | hb
    · rw [World.cell?_of_block (w := w) (w' := w') (a := ⟨b, i, none⟩) (hw b hb)]; exact hv
    · have : w.heap[b]? = none := Array.getElem?_eq_none hb
      simp [World.cell?, this] at hv
  have hlt : ∀ k o, w.heap[k]? = some o → w'.heap[k]? = some o := fun k o hk => by
    rw [hw k (Array.getElem?_eq_some_iff.1 hk).1]; exact hk
  refine ⟨h.sz, h.df, fun b i v hv => hcell _ _ _ (h.ms b i v hv), h.fr.trans hf, h.sl, fun o i x n h1 h2 h3 => ?_, fun o n h1 => ?_, fun k e s T h1 => ?_, h.oo, h.rr, h.or, h.pi, h.ml, h.mx⟩
  · obtain ⟨v, hv, hr⟩ := h.ce o i x n h1 h2 h3
    exact ⟨v, hcell _ _ _ hv, hr⟩
  · obtain ⟨⟨cs, ty, h2, h3⟩, h4⟩ := h.ob o n h1
    exact ⟨⟨cs, ty, hlt _ _ h2, h3⟩, h4⟩
  · obtain ⟨h2, h3⟩ := h.ro k e s T h1
    exact ⟨own_heap h2 fun k hk => hw k (h2.lt k hk).2, h3⟩
theorem Gm.drew (h : Gm C E σ a w) : Gm C E σ a w.drew := h.heap (fun _ _ => rfl) (Chg.refl _ _).drew
theorem Gm.drawn (h : Gm C E σ a w) (n : Nat) : Gm C E σ a { w with drawn := n } := h.heap (fun _ _ => rfl) ⟨rfl, rfl, rfl, Nat.le_refl _, fun _ _ _ => rfl⟩
theorem Gm.alloc (h : Gm C E σ a w) (o : Obj) : Gm C E σ a (w.alloc o) := h.heap (fun k hk => Below.heap_alloc w o k hk) ((Chg.refl _ _).alloc o)
end

/-! ### Making an object -/
def cellsW (o : Id) : Nat → List AV → List (Pl × X)
  | _, [] => []
  | i, x :: xs => (.c o i, .av x) :: cellsW o (i + 1) xs
theorem cellsW_other (o : Id) : ∀ (xs : List AV) (i : Nat) (σ : St) (l : Pl), (∀ j, l ≠ .c o j) → puts σ (cellsW o i xs) l = σ l
  | [], _, _, _, _ => rfl
  | x :: xs, i, σ, l, h => by
    show puts (put σ (.c o i) (.av x)) (cellsW o (i + 1) xs) l = _
    rw [cellsW_other o xs (i + 1) _ l h, put_ne _ _ (h i)]
theorem cellsW_at (o : Id) : ∀ (xs : List AV) (i j : Nat) (σ : St), puts σ (cellsW o i xs) (.c o j) = if i ≤ j then (match xs[j - i]? with | some x => .av x | none => σ (.c o j)) else σ (.c o j)
  | [], i, j, σ => by simp [cellsW, puts]
  | x :: xs, i, j, σ => by
    show puts (put σ (.c o i) (.av x)) (cellsW o (i + 1) xs) (.c o j) = _
    rw [cellsW_at o xs (i + 1) j _]
    by_cases h1 : i = j
    · subst h1
      have : ¬ i + 1 ≤ i := by omega
      simp [this, put]
    · have hne : Pl.c o j ≠ Pl.c o i := by simp; omega
      by_cases h2 : i ≤ j
      · have h3 : i + 1 ≤ j := by omega
        have h4 : j - i = (j - (i + 1)) + 1 := by omega
        simp only [if_pos h2, if_pos h3, h4, List.getElem?_cons_succ, put_ne _ _ hne]
      · have h3 : ¬ i + 1 ≤ j := by omega
        simp only [if_neg h2, if_neg h3, put_ne _ _ hne]

section
variable {C : Ctx} {E : Env} {σ : St} {a : Act} {w : World}
def newW (o : Id) (G n : Nat) (xs : List AV) : List (Pl × X) := (.g o, .num (G + 1)) :: (.o o, .num n) :: cellsW o 0 xs
theorem Gm.object (h : Gm C E σ a w) (o : Id) (G : Nat) (hG : gg σ o = G) (ty : TypeId) (cs : Array Value) (xs : List AV) (hl : cs.size = xs.length)
    (hx : ∀ i (hi : i < xs.length), RdA E σ xs[i] (cs[i]'(hl ▸ hi))) (hp : C.pins o = none) :
    ∃ E', Gm C E' (puts σ (newW o G xs.length xs)) a (w.alloc (.cells cs ty)) ∧ E'.m = E.m ∧ RdA E' (puts σ (newW o G xs.length xs)) (.ptr o (G + 1) 0) (.pointer (some ⟨w.heap.size, 0, none⟩)) := by
  have hs0 := h.fr.size
  obtain ⟨σ1, hσ1⟩ : ∃ s, s = put (put σ (.g o) (.num (G + 1))) (.o o) (.num xs.length) := ⟨_, rfl⟩
  have hσ : puts σ (newW o G xs.length xs) = puts σ1 (cellsW o 0 xs) := by rw [hσ1]; rfl
  have qg : ∀ o', puts σ1 (cellsW o 0 xs) (.g o') = if o' = o then .num (G + 1) else σ (.g o') := by
    intro o'
    rw [cellsW_other _ _ _ _ _ (by simp), hσ1, put_ne _ _ (by simp)]
    by_cases e : o' = o
    · subst e; simp [put]
    · simp [put, e]
  have qo : ∀ o', puts σ1 (cellsW o 0 xs) (.o o') = if o' = o then .num xs.length else σ (.o o') := by
    intro o'
    rw [cellsW_other _ _ _ _ _ (by simp), hσ1]
    by_cases e : o' = o
    · subst e; simp [put]
    · simp [put, e]
  have qk : ∀ k, puts σ1 (cellsW o 0 xs) (.k k) = σ (.k k) := by intro k; rw [cellsW_other _ _ _ _ _ (by simp), hσ1]; simp [put]
  have qq : ∀ k, puts σ1 (cellsW o 0 xs) (.q k) = σ (.q k) := by intro k; rw [cellsW_other _ _ _ _ _ (by simp), hσ1]; simp [put]
  have qs : ∀ t, puts σ1 (cellsW o 0 xs) (.s t) = σ (.s t) := by intro k; rw [cellsW_other _ _ _ _ _ (by simp), hσ1]; simp [put]
  have qc : ∀ o' i, o' ≠ o → puts σ1 (cellsW o 0 xs) (.c o' i) = σ (.c o' i) := by
    intro o' i e; rw [cellsW_other _ _ _ _ _ (by simp [e]), hσ1]; simp [put]
  obtain ⟨E', hE'⟩ : ∃ E' : Env, E' = { E with loc := fun o' => if o' = o then w.heap.size else E.loc o' } := ⟨_, rfl⟩
  have hm : E'.m = E.m := by rw [hE']
  have hloc : ∀ o', o' ≠ o → E'.loc o' = E.loc o' := by intro o' e; rw [hE']; simp [e]
  have hloco : E'.loc o = w.heap.size := by rw [hE']; simp
  have hrv : E'.rv = E.rv := by rw [hE']
  have hrx : E'.rx = E.rx := by rw [hE']
  have qco : ∀ j (hj : j < xs.length), puts σ1 (cellsW o 0 xs) (.c o j) = .av xs[j] := by
    intro j hj; rw [cellsW_at]; simp [hj]
  rw [hσ]
  clear hσ
  generalize puts σ1 (cellsW o 0 xs) = σ2 at *
  have hfresh : ∀ i, E.m w.heap.size i = none := by
    intro i
    cases hc : E.m w.heap.size i with
    | none => rfl
    | some v =>
      have := h.ms _ _ _ hc
      simp [World.cell?] at this
  have hmo : Mo E σ E' σ2 := by
    refine ⟨by rw [hm]; exact Mem.le_refl _, fun o' => ?_, fun k => ⟨Nat.le_of_eq (gq_of (qq k)).symm, fun _ e sz T h2 => ⟨T, by rw [← qk]; exact h2, Nat.le_refl _, fun _ => by rw [hrv]⟩⟩⟩
    by_cases e : o' = o
    · subst e
      have : gg σ2 o' = G + 1 := gg_num (by rw [qg, if_pos rfl])
      exact ⟨by omega, fun e => absurd e (by omega)⟩
    · have : gg σ2 o' = gg σ o' := gg_of (by rw [qg, if_neg e])
      exact ⟨by omega, fun _ => hloc _ e⟩
  have hA := h.alloc (.cells cs ty)
  have hcell : ∀ (b i : Nat) (v : Value), w.cell? ⟨b, i, none⟩ = some v → (w.alloc (.cells cs ty)).cell? ⟨b, i, none⟩ = some v := by
    intro b i v hv
    rcases Nat.lt_or_ge b w.heap.size with hb | hb
    · rw [World.cell?_of_block (w := w) (a := ⟨b, i, none⟩) (Below.heap_alloc w _ b hb)]; exact hv
    · have : w.heap[b]? = none := Array.getElem?_eq_none hb
      simp [World.cell?, this] at hv
  have hnlt : ∀ o' n, σ (.o o') = .num n → E.loc o' < w.heap.size := by
    intro o' n h1
    obtain ⟨⟨c1, t1, h2, _⟩, _⟩ := h.ob o' n h1
    exact (Array.getElem?_eq_some_iff.1 h2).1
  refine ⟨E', ⟨h.sz, h.df, fun b i v hv => hA.ms b i v (by rw [← hm]; exact hv), hA.fr, fun t x h1 => (h.sl t x (by rw [← qs]; exact h1)).mo hmo, fun o' i x n h1 h2 h3 => ?_, fun o' n h1 => ?_, fun k e s T h1 => ?_, fun o1 o2 n n' h1 h2 h3 => ?_, fun k k' e s T e' s' T' b h1 h2 h3 h4 => ?_, fun o' n k e s T h1 h2 => ?_, fun o' b h1 => ?_, by rw [hm]; exact h.ml, by rw [hm]; exact h.mx⟩, hm, ?_⟩
  · by_cases e : o' = o
    · subst e
      rw [qo, if_pos rfl] at h2
      cases h2
      rw [qco i h3] at h1
      cases h1
      refine ⟨cs[i]'(hl ▸ h3), ?_, (hx i h3).mo hmo⟩
      rw [hloco]
      have : (w.alloc (.cells cs ty)).heap[w.heap.size]? = some (.cells cs ty (0, 0)) := heap_alloc_new w _
      rw [cell_of_row _ _ _ _ _ _ this]
      simp [hl ▸ h3]
    · rw [qo, if_neg e] at h2
      rw [qc _ _ e] at h1
      obtain ⟨v, hv, hr⟩ := h.ce o' i x n h1 h2 h3
      exact ⟨v, by rw [hloc _ e]; exact hcell _ _ _ hv, hr.mo hmo⟩
  · by_cases e : o' = o
    · subst e
      rw [qo, if_pos rfl] at h1
      cases h1
      rw [hloco, hm]
      exact ⟨⟨cs, ty, heap_alloc_new w _, hl⟩, hfresh, .inr hs0⟩
    · rw [qo, if_neg e] at h1
      rw [hloc _ e, hm]
      exact hA.ob o' n h1
  · rw [qk] at h1
    rw [hrv, hrx, hm]
    exact hA.ro k e s T h1
  · rw [qo] at h1 h2
    by_cases e1 : o1 = o
    · by_cases e2 : o2 = o
      · rw [e1, e2]
      · rw [if_neg e2] at h2
        subst e1
        rw [hloco, hloc _ e2] at h3
        have := hnlt o2 n' h2
        omega
    · rw [if_neg e1] at h1
      by_cases e2 : o2 = o
      · subst e2
        rw [hloco, hloc _ e1] at h3
        have := hnlt o1 n h1
        omega
      · rw [if_neg e2] at h2
        rw [hloc _ e1, hloc _ e2] at h3
        exact h.oo o1 o2 n n' h1 h2 h3
  · rw [qk] at h1 h2
    rw [hrv] at h3 h4
    exact h.rr k k' e s T e' s' T' b h1 h2 h3 h4
  · rw [qk] at h2
    rw [qo] at h1
    rw [hrv]
    by_cases e1 : o' = o
    · subst e1
      rw [hloco]
      intro he
      have := ((h.ro k e s T h2).1.lt _ he).2
      omega
    · rw [if_neg e1] at h1
      rw [hloc _ e1]
      exact h.or o' n k e s T h1 h2
  · by_cases e1 : o' = o
    · subst e1; rw [hp] at h1; cases h1
    · rw [hloc _ e1]; exact h.pi o' b h1
  · have : gg σ2 o = G + 1 := gg_num (by rw [qg, if_pos rfl])
    exact ⟨by omega, fun _ => by rw [hloco]⟩

/-- A store into an object's cell. -/
theorem Gm.store (h : Gm C E σ a w) (o : Id) (n i : Nat) (ho : σ (.o o) = .num n) (hi : i < n) (x : AV) (v : Value) (hx : RdA E σ x v) :
    Gm C E (put σ (.c o i) (.av x)) a (w.setCell ⟨E.loc o, i, none⟩ v) ∧ (∃ u, w.cell? ⟨E.loc o, i, none⟩ = some u) ∧ w.frozen? ⟨E.loc o, i, none⟩ = false := by
  have hmo : Mo E σ E (put σ (.c o i) (.av x)) := Mo.same (fun o => put_ne _ _ (by simp)) (fun o => put_ne _ _ (by simp)) (fun o => put_ne _ _ (by simp))
  have hO : ∀ o', put σ (.c o i) (.av x) (.o o') = σ (.o o') := fun o' => put_ne _ _ (by simp)
  have hK : ∀ o', put σ (.c o i) (.av x) (.k o') = σ (.k o') := fun o' => put_ne _ _ (by simp)
  have hS : ∀ o', put σ (.c o i) (.av x) (.s o') = σ (.s o') := fun o' => put_ne _ _ (by simp)
  obtain ⟨⟨cs, ty, hb, hn⟩, hm0, hD⟩ := h.ob o n ho
  have hcs : ∃ u, w.cell? ⟨E.loc o, i, none⟩ = some u := ⟨cs[i]'(hn ▸ hi), by simp [World.cell?, hb, hn ▸ hi]⟩
  have hself : (w.setCell ⟨E.loc o, i, none⟩ v).heap[E.loc o]? = some (.cells (cs.setIfInBounds i v) ty (0, 0)) := by
    simp [World.setCell, Array.getElem?_modify, hb]
  have hoth : ∀ k, k ≠ E.loc o → (w.setCell ⟨E.loc o, i, none⟩ v).heap[k]? = w.heap[k]? := fun k hk => heap_setCell_other w _ k v hk
  have hcell : ∀ (b j : Nat), b ≠ E.loc o → (w.setCell ⟨E.loc o, i, none⟩ v).cell? ⟨b, j, none⟩ = w.cell? ⟨b, j, none⟩ := fun b j hb => World.cell?_of_block (hoth b hb)
  refine ⟨⟨h.sz, h.df, fun b j u hu => ?_, h.fr.setCell _ _ (fun hlt => by rcases hD with hD | hD; exact hD; exact absurd hlt (by have : (⟨E.loc o, i, none⟩ : Addr).block = E.loc o := rfl; omega)), fun t y hy => (h.sl t y (by rw [← hS]; exact hy)).mo hmo, fun o' j y n' h1 h2 h3 => ?_, fun o' n' h1 => ?_, fun k e s T h1 => ?_,
    fun o1 o2 n n' h1 h2 => h.oo o1 o2 n n' (by rw [← hO]; exact h1) (by rw [← hO]; exact h2), fun k k' e s T e' s' T' b h1 h2 => h.rr k k' e s T e' s' T' b (by rw [← hK]; exact h1) (by rw [← hK]; exact h2),
    fun o n k e s T h1 h2 => h.or o n k e s T (by rw [← hO]; exact h1) (by rw [← hK]; exact h2), h.pi, h.ml, h.mx⟩, hcs, by simp [World.frozen?, hb]⟩
  · have hne : b ≠ E.loc o := by rintro rfl; rw [hm0] at hu; cases hu
    rw [hcell _ _ hne]
    exact h.ms b j u hu
  · rw [hO] at h2
    by_cases e : o' = o
    · subst e
      have hn' : n' = n := by rw [ho] at h2; cases h2; rfl
      subst hn'
      by_cases ei : j = i
      · subst ei
        rw [put_same] at h1
        cases h1
        exact ⟨v, by simp [World.cell?, hself, hn ▸ h3], hx.mo hmo⟩
      · rw [put_ne _ _ (by simp [ei])] at h1
        obtain ⟨u, hu, hr⟩ := h.ce o' j y n' h1 h2 h3
        refine ⟨u, ?_, hr.mo hmo⟩
        have hne : (⟨E.loc o', i, none⟩ : Addr) ≠ ⟨E.loc o', j, none⟩ := by simp [Ne.symm ei]
        rw [World.cell?_setCell_other _ _ _ _ hne]
        exact hu
    · rw [put_ne _ _ (by simp [e])] at h1
      obtain ⟨u, hu, hr⟩ := h.ce o' j y n' h1 h2 h3
      refine ⟨u, ?_, hr.mo hmo⟩
      rw [hcell _ _ (fun he => e (h.oo o' o n' n h2 ho he))]
      exact hu
  · rw [hO] at h1
    obtain ⟨⟨c1, t1, h2, h3⟩, h4⟩ := h.ob o' n' h1
    refine ⟨?_, h4⟩
    by_cases e : E.loc o' = E.loc o
    · rw [e]
      rw [e, hb] at h2
      cases h2
      exact ⟨_, _, hself, by simp [h3]⟩
    · exact ⟨c1, t1, by rw [hoth _ e]; exact h2, h3⟩
  · rw [hK] at h1
    obtain ⟨h2, h3⟩ := h.ro k e s T h1
    exact ⟨own_heap h2 fun b hb => hoth b (fun he => h.or o n k e s T ho h1 (by rw [hb, he])), h3⟩
end
end Go.Proofs.YtkdnaemkhgjbpaaDoor
