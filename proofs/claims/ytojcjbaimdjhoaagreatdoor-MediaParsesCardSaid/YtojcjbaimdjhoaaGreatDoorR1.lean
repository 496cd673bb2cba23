
/- Abstract values: what a walk knows of slots, of objects in memory and of rows that grow; no world, no address. -/
import Derived.Test.YtojcjbaimdjhoaaGreatDoorKit
import Derived.Orders
import Derived.Laws.BytesString
namespace Go.Proofs.YtojcjbaimdjhoaaGreatDoor
open Go.RowKit
set_option linter.unusedVariables false
set_option linter.unusedSimpArgs false

/-- What is known of a value. -/
inductive V where
  | sc (v : Value)
  | lst (sz : Nat) (es : List (List V))
  | agg (xs : List V)
  | tup (xs : List V)
  | ep (xs : List V)
  | ifc (t : TypeId) (x : V)
  | any
  deriving Inhabited

/-- Cells that never change any more. -/
abbrev Mem := Nat → Nat → Option Value
def Mem.le (m m' : Mem) : Prop := ∀ b i v, m b i = some v → m' b i = some v
theorem Mem.le_refl (m : Mem) : m.le m := fun _ _ _ h => h
theorem Mem.le_trans {a b c : Mem} (h : a.le b) (k : b.le c) : a.le c := fun _ _ _ x => k _ _ _ (h _ _ _ x)

inductive Rd (m : Mem) : V → Value → Prop where
  | sc (v : Value) : Rd m (.sc v) v
  | any (v : Value) : Rd m .any v
  | nil (sz : Nat) (A : Option Addr) (c : Nat) (h : A = none → c = 0) : Rd m (.lst sz []) (.slice A 0 c)
  | lst (sz : Nat) (es : List (List V)) (b o cap : Nat) (f : Nat → Nat → Value) (hc : es.length ≤ cap) (hsz : ∀ i (h : i < es.length), es[i].length = sz)
      (hm : ∀ i j, i < es.length → j < sz → m b (o + i * sz + j) = some (f i j))
      (hr : ∀ i j (h : i < es.length) (hj : j < es[i].length), Rd m (es[i][j]) (f i j)) : Rd m (.lst sz es) (.slice (some ⟨b, o, none⟩) es.length cap)
  | agg (xs : List V) (ys : Array Value) (hl : ys.size = xs.length) (h : ∀ i (hi : i < xs.length), Rd m xs[i] (ys[i]'(hl ▸ hi))) : Rd m (.agg xs) (.agg ys)
  | tup (xs : List V) (ys : Array Value) (hl : ys.size = xs.length) (h : ∀ i (hi : i < xs.length), Rd m xs[i] (ys[i]'(hl ▸ hi))) : Rd m (.tup xs) (.tuple ys)
  | ep (xs : List V) (b o : Nat) (f : Nat → Value) (hm : ∀ j, j < xs.length → m b (o + j) = some (f j)) (hr : ∀ j (hj : j < xs.length), Rd m xs[j] (f j)) : Rd m (.ep xs) (.pointer (some ⟨b, o, none⟩))
  | ifc (t : TypeId) (x : V) (v : Value) (h : Rd m x v) : Rd m (.ifc t x) (.iface t v)

theorem Rd.mono {m m' : Mem} {x : V} {v : Value} (h : Rd m x v) (hm : m.le m') : Rd m' x v := by
  induction h with
  | sc v => exact .sc v
  | any v => exact .any v
  | nil sz A c h => exact .nil sz A c h
  | lst sz es b o cap f hc hsz h1 _ ih => exact .lst sz es b o cap f hc hsz (fun i j a b => hm _ _ _ (h1 i j a b)) ih
  | agg xs ys hl _ ih => exact .agg xs ys hl ih
  | tup xs ys hl _ ih => exact .tup xs ys hl ih
  | ep xs b o f h1 _ ih => exact .ep xs b o f (fun j a => hm _ _ _ (h1 j a)) ih
  | ifc t x v _ ih => exact .ifc t x v ih
theorem Rd.nil0 {m : Mem} (sz : Nat) : Rd m (.lst sz []) (.slice none 0 0) := .nil sz none 0 fun _ => rfl
theorem Rd.sc_eq {m : Mem} {u v : Value} (h : Rd m (.sc u) v) : v = u := by cases h; rfl

abbrev Id := Nat × Nat
/-- What is known of a slot, or of a cell of an object. -/
inductive AV where
  | val (x : V)
  | own (k : Id) (g : Nat) (e : TypeId) (sz : Nat) (es : List (List V))
  | ptr (o : Id) (g : Nat) (off : Nat)
  | ref (k : Id) (g : Nat)
  | elp (k : Id) (g : Nat) (sz i off : Nat)
  | ag (xs : List AV)
  | fn (K : FuncId) (xs : List AV)
  deriving Inhabited
/-- What one owns whole: an object, a slice, a map, with all that these own. -/
inductive T where
  | av (x : V)
  | box (xs : List T)
  | row (e : TypeId) (sz : Nat) (es : List (List T))
  | rw (e : TypeId) (sz : Nat) (es : List (List V))
  | mp (kvs : List (Value × T))
  deriving Inhabited
/-- Values read one by one. -/
def RdL (m : Mem) (xs : List V) (us : List Value) : Prop := us.length = xs.length ∧ ∀ (i : Nat) (h1 : i < xs.length) (h2 : i < us.length), Rd m xs[i] us[i]
theorem RdL.mono {m m' : Mem} {xs : List V} {us : List Value} (h : RdL m xs us) (hm : m.le m') : RdL m' xs us := ⟨h.1, fun i a b => (h.2 i a b).mono hm⟩
/-- The world holds these, at these values, in just these blocks. -/
inductive Hg (m : Mem) (w : World) : List T → List Value → List Nat → Prop where
  | nil : Hg m w [] [] []
  | av {x v xs vs F} (h : Rd m x v) (hs : Hg m w xs vs F) : Hg m w (.av x :: xs) (v :: vs) F
  | box {ys xs b us ty F vs F'} (hb : w.heap[b]? = some (.cells us.toArray ty (0, 0))) (hm : ∀ i, m b i = none) (h : Hg m w ys us F) (hs : Hg m w xs vs F') (h1 : b ∉ F) (h2 : b ∉ F') (h3 : ∀ i ∈ F, i ∉ F') : Hg m w (.box ys :: xs) (.pointer (some ⟨b, 0, none⟩) :: vs) (b :: (F ++ F'))
  | row {e sz es xs v us F vs F'} (ho : w.ownsRow 0 e sz v es.length us) (hz : ∀ r ∈ es, r.length = sz) (hm : ∀ b, v.ownBlock = some b → (∀ i, m b i = none) ∧ b ∉ F ∧ b ∉ F') (h : Hg m w es.flatten us F) (hs : Hg m w xs vs F') (h3 : ∀ i ∈ F, i ∉ F') : Hg m w (.row e sz es :: xs) (v :: vs) (v.ownBlock.toList ++ (F ++ F'))
  | rw {e sz es xs v us vs F'} (ho : w.ownsRow 0 e sz v es.length us) (hz : ∀ r ∈ es, r.length = sz) (hr : RdL m es.flatten us) (hm : ∀ b, v.ownBlock = some b → (∀ i, m b i = none) ∧ b ∉ F') (hs : Hg m w xs vs F') : Hg m w (.rw e sz es :: xs) (v :: vs) (v.ownBlock.toList ++ F')
  | mp {kvs xs b ents clock F vs F'} (hb : w.heap[b]? = some (.map ents clock)) (hm : ∀ i, m b i = none) (hk : ents.toList.map (·.key) = kvs.map (·.1)) (hk2 : (kvs.map (·.1)).Nodup) (hn : (ents.toList.map (·.born)).Nodup) (hc : ∀ e ∈ ents.toList, e.born < clock)
      (h : Hg m w (kvs.map (·.2)) (ents.toList.map (·.val)) F) (hs : Hg m w xs vs F') (h1 : b ∉ F) (h2 : b ∉ F') (h3 : ∀ i ∈ F, i ∉ F') : Hg m w (.mp kvs :: xs) (.map (some b) :: vs) (b :: (F ++ F'))
/-- The value at a place of a slice, of a map. -/
def slotAt (w : World) (v : Value) (i : Nat) : Option Value :=
  match v with
  | .slice (some a) _ _ => w.cell? ⟨a.block, a.off + i, none⟩
  | .map (some b) => match w.heap[b]? with | some (.map es _) => (es[i]?).map (·.val) | _ => none
  | _ => none
/-- Places: a slot; an object's cell, size, generation; a row's tip, generation; what is owned whole, its generation, and which of its places is lent. -/
inductive Pl where
  | s (t : Nat)
  | c (o : Id) (i : Nat)
  | o (o : Id)
  | g (o : Id)
  | k (k : Id)
  | q (k : Id)
  | r (k : Id)
  | h (k : Id)
  | l (k : Id)
  deriving DecidableEq
inductive X where
  | tree (x : T)
  | lent (i : Nat) (x : AV)
  | itr (k : Id) (g : Nat) (seen : List Nat)
  | av (x : AV)
  | num (n : Nat)
  | row (e : TypeId) (sz n : Nat)
  | non
  deriving Inhabited
abbrev St := Pl → X
def put (σ : St) (l : Pl) (x : X) : St := fun l' => if l' = l then x else σ l'
def puts (σ : St) : List (Pl × X) → St
  | [] => σ
  | p :: ps => puts (put σ p.1 p.2) ps
theorem puts_append (σ : St) (a b : List (Pl × X)) : puts σ (a ++ b) = puts (puts σ a) b := by
  induction a generalizing σ with
  | nil => rfl
  | cons p a ih => exact ih _
/-- Places of objects made by the world, and rows. -/
structure Env where
  m : Mem
  loc : Id → Nat
  rv : Id → Value
  rx : Id → List Value
  bv : Id → Value
  bf : Id → List Nat

/-- Generations of a row, of an object. -/
def gq (σ : St) (k : Id) : Nat := match σ (.q k) with | .num g => g | _ => 0
def gg (σ : St) (o : Id) : Nat := match σ (.g o) with | .num g => g | _ => 0
def gh (σ : St) (o : Id) : Nat := match σ (.h o) with | .num g => g | _ => 0
theorem gh_of {σ σ' : St} {k : Id} (h : σ' (.h k) = σ (.h k)) : gh σ' k = gh σ k := by unfold gh; rw [h]
theorem gh_num {σ : St} {k : Id} {n : Nat} (h : σ (.h k) = .num n) : gh σ k = n := by unfold gh; rw [h]
theorem gq_of {σ σ' : St} {k : Id} (h : σ' (.q k) = σ (.q k)) : gq σ' k = gq σ k := by unfold gq; rw [h]
theorem gg_of {σ σ' : St} {k : Id} (h : σ' (.g k) = σ (.g k)) : gg σ' k = gg σ k := by unfold gg; rw [h]
theorem gq_num {σ : St} {k : Id} {n : Nat} (h : σ (.q k) = .num n) : gq σ k = n := by unfold gq; rw [h]
theorem gg_num {σ : St} {k : Id} {n : Nat} (h : σ (.g k) = .num n) : gg σ k = n := by unfold gg; rw [h]
def Right (E : Env) (σ : St) (k : Id) (g : Nat) (e : TypeId) (sz n : Nat) (v : Value) : Prop :=
  g ≤ gq σ k ∧ (g = gq σ k → ∀ e' sz' T, σ (.k k) = .row e' sz' T → n ≤ T ∧ (n = T → e' = e ∧ sz' = sz ∧ v = E.rv k))
def RdP (E : Env) (σ : St) : AV → Value → Prop
  | .val x, v => Rd E.m x v
  | .own k g e sz es, v => Rd E.m (.lst sz es) v ∧ Right E σ k g e sz es.length v
  | .ptr o g off, v => g ≤ gg σ o ∧ (g = gg σ o → v = .pointer (some ⟨E.loc o, off, none⟩))
  | .ref k g, v => g ≤ gh σ k ∧ (g = gh σ k → v = E.bv k)
  | .elp k g sz i off, v => g ≤ gh σ k ∧ (g = gh σ k → ∃ b, (E.bv k).ownBlock = some b ∧ v = .pointer (some ⟨b, i * sz + off, none⟩))
  | .ag _, _ => False
  | .fn _ _, _ => False
def RdA (E : Env) (σ : St) : AV → Value → Prop
  | .val x, v => Rd E.m x v
  | .own k g e sz es, v => Rd E.m (.lst sz es) v ∧ Right E σ k g e sz es.length v
  | .ptr o g off, v => g ≤ gg σ o ∧ (g = gg σ o → v = .pointer (some ⟨E.loc o, off, none⟩))
  | .ref k g, v => g ≤ gh σ k ∧ (g = gh σ k → v = E.bv k)
  | .elp k g sz i off, v => g ≤ gh σ k ∧ (g = gh σ k → ∃ b, (E.bv k).ownBlock = some b ∧ v = .pointer (some ⟨b, i * sz + off, none⟩))
  | .ag xs, v => ∃ ys : List Value, v = .agg ys.toArray ∧ ys.length = xs.length ∧ ∀ (i : Nat) (h1 : i < xs.length) (h2 : i < ys.length), RdP E σ xs[i] ys[i]
  | .fn K xs, v => ∃ ys : List Value, v = .func (.func K) #[] ys.toArray ∧ ys.length = xs.length ∧ ∀ (i : Nat) (h1 : i < xs.length) (h2 : i < ys.length), RdP E σ xs[i] ys[i]
theorem RdP.toA {E : Env} {σ : St} {x : AV} {v : Value} (h : RdP E σ x v) : RdA E σ x v := by
  cases x with
  | ag => exact h.elim
  | fn => exact h.elim
  | _ => exact h

/-- A step that spoils nothing that was known. -/
structure Mo (E : Env) (σ : St) (E' : Env) (σ' : St) : Prop where
  m : E.m.le E'.m
  g : ∀ o, gg σ o ≤ gg σ' o ∧ (gg σ o = gg σ' o → E'.loc o = E.loc o)
  q : ∀ k, gq σ k ≤ gq σ' k ∧ (gq σ k = gq σ' k → ∀ e sz T', σ' (.k k) = .row e sz T' → ∃ T, σ (.k k) = .row e sz T ∧ T ≤ T' ∧ (T = T' → E'.rv k = E.rv k))
  h : ∀ k, gh σ k ≤ gh σ' k ∧ (gh σ k = gh σ' k → E'.bv k = E.bv k)
theorem RdP.mo {E E' : Env} {σ σ' : St} {x : AV} {v : Value} (h : RdP E σ x v) (hm : Mo E σ E' σ') : RdP E' σ' x v := by
  cases x with
  | val x => exact Rd.mono h hm.m
  | own k g e sz es =>
    obtain ⟨hle, heq⟩ := hm.q k
    obtain ⟨h1, h2⟩ := h.2
    refine ⟨Rd.mono h.1 hm.m, Nat.le_trans h1 hle, fun he e' sz' T' hT' => ?_⟩
    obtain ⟨T, hT, hTl, hTe⟩ := heq (by omega) e' sz' T' hT'
    obtain ⟨h3, h4⟩ := h2 (by omega) e' sz' T hT
    refine ⟨Nat.le_trans h3 hTl, fun hn => ?_⟩
    obtain ⟨a, b, c⟩ := h4 (by omega)
    exact ⟨a, b, c.trans (hTe (by omega)).symm⟩
  | ptr o g off =>
    obtain ⟨hle, heq⟩ := hm.g o
    obtain ⟨h1, h2⟩ := h
    refine ⟨Nat.le_trans h1 hle, fun he => ?_⟩
    rw [heq (by omega)]
    exact h2 (by omega)
  | ref k g =>
    obtain ⟨hle, heq⟩ := hm.h k
    obtain ⟨h1, h2⟩ := h
    refine ⟨Nat.le_trans h1 hle, fun he => ?_⟩
    rw [heq (by omega)]
    exact h2 (by omega)
  | elp k g sz i off =>
    obtain ⟨hle, heq⟩ := hm.h k
    obtain ⟨h1, h2⟩ := h
    refine ⟨Nat.le_trans h1 hle, fun he => ?_⟩
    rw [heq (by omega)]
    exact h2 (by omega)
  | ag => exact h.elim
  | fn => exact h.elim
theorem RdA.mo {E E' : Env} {σ σ' : St} {x : AV} {v : Value} (h : RdA E σ x v) (hm : Mo E σ E' σ') : RdA E' σ' x v := by
  cases x with
  | ag xs =>
    obtain ⟨ys, h1, h2, h3⟩ := h
    exact ⟨ys, h1, h2, fun i a b => (h3 i a b).mo hm⟩
  | fn K xs =>
    obtain ⟨ys, h1, h2, h3⟩ := h
    exact ⟨ys, h1, h2, fun i a b => (h3 i a b).mo hm⟩
  | val x => exact RdP.mo (x := .val x) h hm
  | own k g e sz es => exact RdP.mo (x := .own k g e sz es) h hm
  | ptr o g off => exact RdP.mo (x := .ptr o g off) h hm
  | ref k g => exact RdP.mo (x := .ref k g) h hm
  | elp k g sz i off => exact RdP.mo (x := .elp k g sz i off) h hm
theorem Mo.same {E : Env} {σ σ' : St} (hg : ∀ o, σ' (.g o) = σ (.g o)) (hq : ∀ k, σ' (.q k) = σ (.q k)) (hk : ∀ k, σ' (.k k) = σ (.k k)) (hh : ∀ k, σ' (.h k) = σ (.h k)) : Mo E σ E σ' :=
  ⟨Mem.le_refl _, fun o => ⟨Nat.le_of_eq (gg_of (hg o)).symm, fun _ => rfl⟩, fun k => ⟨Nat.le_of_eq (gq_of (hq k)).symm, fun _ e sz T h2 => ⟨T, by rw [← hk]; exact h2, Nat.le_refl _, fun _ => rfl⟩⟩, fun k => ⟨Nat.le_of_eq (gh_of (hh k)).symm, fun _ => rfl⟩⟩

/-- What a function's walk keeps: how many slots; the world at its beginning; the blocks that it may turn; objects that came in. -/
structure Ctx where
  nt : Nat
  w0 : World
  D : Nat → Prop
  pins : Id → Option Nat
  np : ∀ d, d < nt → pins (d, 0) = none
  nq : ∀ k : Id, k.2 ≠ 0 → pins k = none
  m0 : Mem

theorem own_heap {w w' : World} {base : Nat} {e : TypeId} {size n : Nat} {v : Value} {xs : List Value} (h : w.ownsRow base e size v n xs) (hb : ∀ k, v.ownBlock = some k → w'.heap[k]? = w.heap[k]?) : w'.ownsRow base e size v n xs := by
  refine ⟨h.1, ?_⟩
  rcases h.2 with h2 | ⟨g, cap, cur, hv, hg, hh, r⟩
  · exact .inl h2
  · exact .inr ⟨g, cap, cur, hv, hg, (hb g (by rw [hv]; rfl)).trans hh, r⟩
theorem own_block {w : World} {base : Nat} {e : TypeId} {size n : Nat} {v : Value} {xs : List Value} (h : w.ownsRow base e size v n xs) {b : Nat} (hb : v.ownBlock = some b) : ∃ cur, w.heap[b]? = some (.cells cur e (0, 0)) := by
  rcases h.2 with ⟨rfl, _⟩ | ⟨g, cap, cur, rfl, _, hh, _⟩
  · cases hb
  · cases hb; exact ⟨cur, hh⟩
theorem Hg.mono {m m' : Mem} {w w' : World} {xs : List T} {vs : List Value} {F : List Nat} (h : Hg m w xs vs F) (hm : m.le m') : (∀ b ∈ F, w'.heap[b]? = w.heap[b]? ∧ ∀ i, m' b i = m b i) → Hg m' w' xs vs F := by
  induction h with
  | nil => intro _; exact .nil
  | av h _ ih => intro hF; exact .av (h.mono hm) (ih hF)
  | box hb hb0 h hs h1 h2 h3 ih ih' =>
    intro hF
    obtain ⟨a1, a2⟩ := hF _ (List.mem_cons_self ..)
    exact .box (a1.trans hb) (fun i => (a2 i).trans (hb0 i)) (ih fun b hb => hF b (by simp [hb])) (ih' fun b hb => hF b (by simp [hb])) h1 h2 h3
  | @row e sz es xs v us F vs F' ho hz hb0 h hs h3 ih ih' =>
    intro hF
    refine .row (own_heap ho fun k hk => (hF k (by simp [hk])).1) hz (fun b hb => ⟨fun i => ?_, (hb0 b hb).2⟩) (ih fun b hb => hF b (by simp [hb])) (ih' fun b hb => hF b (by simp [hb])) h3
    rw [(hF b (by simp [hb])).2 i]; exact (hb0 b hb).1 i
  | @rw e sz es xs v us vs F' ho hz hr hb0 hs ih =>
    intro hF
    refine .rw (own_heap ho fun k hk => (hF k (by simp [hk])).1) hz (hr.mono hm) (fun b hb => ⟨fun i => ?_, (hb0 b hb).2⟩) (ih fun b hb => hF b (by simp [hb]))
    rw [(hF b (by simp [hb])).2 i]; exact (hb0 b hb).1 i
  | mp hb hb0 hk hk2 hn hc h hs h1 h2 h3 ih ih' =>
    intro hF
    obtain ⟨a1, a2⟩ := hF _ (List.mem_cons_self ..)
    exact .mp (a1.trans hb) (fun i => (a2 i).trans (hb0 i)) hk hk2 hn hc (ih fun b hb => hF b (by simp [hb])) (ih' fun b hb => hF b (by simp [hb])) h1 h2 h3
theorem Hg.mem {m : Mem} {w : World} {xs : List T} {vs : List Value} {F : List Nat} (h : Hg m w xs vs F) : ∀ b ∈ F, b < w.heap.size ∧ ∀ i, m b i = none := by
  induction h with
  | nil => intro b hb; cases hb
  | av _ _ ih => exact ih
  | box hb hb0 h hs h1 h2 h3 ih ih' =>
    intro b h
    rcases List.mem_cons.1 h with rfl | h
    · exact ⟨(Array.getElem?_eq_some_iff.1 hb).1, hb0⟩
    · rcases List.mem_append.1 h with h | h
      · exact ih b h
      · exact ih' b h
  | @row e sz es xs v us F vs F' ho hz hb0 h hs h3 ih ih' =>
    intro b h
    rcases List.mem_append.1 h with h | h
    · have : v.ownBlock = some b := by simpa using h
      exact ⟨(ho.lt b this).2, (hb0 b this).1⟩
    · rcases List.mem_append.1 h with h | h
      · exact ih b h
      · exact ih' b h
  | @rw e sz es xs v us vs F' ho hz hr hb0 hs ih =>
    intro b h
    rcases List.mem_append.1 h with h | h
    · have : v.ownBlock = some b := by simpa using h
      exact ⟨(ho.lt b this).2, (hb0 b this).1⟩
    · exact ih b h
  | mp hb hb0 hk hk2 hn hc h hs h1 h2 h3 ih ih' =>
    intro b h
    rcases List.mem_cons.1 h with rfl | h
    · exact ⟨(Array.getElem?_eq_some_iff.1 hb).1, hb0⟩
    · rcases List.mem_append.1 h with h | h
      · exact ih b h
      · exact ih' b h
/-- None of them is an iterator. -/
theorem Hg.noIt {m : Mem} {w : World} {xs : List T} {vs : List Value} {F : List Nat} (h : Hg m w xs vs F) : ∀ b ∈ F, ∀ mb n bs l, w.heap[b]? ≠ some (.mapIter mb n bs l) := by
  induction h with
  | nil => intro b hb; cases hb
  | av _ _ ih => exact ih
  | box hb hb0 h hs h1 h2 h3 ih ih' =>
    intro b h mb n bs l he
    rcases List.mem_cons.1 h with rfl | h
    · rw [hb] at he; cases he
    · rcases List.mem_append.1 h with h | h
      · exact ih b h _ _ _ _ he
      · exact ih' b h _ _ _ _ he
  | @row e sz es xs v us F vs F' ho hz hb0 h hs h3 ih ih' =>
    intro b h mb n bs l he
    rcases List.mem_append.1 h with h | h
    · obtain ⟨cur, hc⟩ := own_block ho (by simpa using h)
      rw [hc] at he; cases he
    · rcases List.mem_append.1 h with h | h
      · exact ih b h _ _ _ _ he
      · exact ih' b h _ _ _ _ he
  | @rw e sz es xs v us vs F' ho hz hr hb0 hs ih =>
    intro b h mb n bs l he
    rcases List.mem_append.1 h with h | h
    · obtain ⟨cur, hc⟩ := own_block ho (by simpa using h)
      rw [hc] at he; cases he
    · exact ih b h _ _ _ _ he
  | mp hb hb0 hk hk2 hn hc h hs h1 h2 h3 ih ih' =>
    intro b h mb n bs l he
    rcases List.mem_cons.1 h with rfl | h
    · rw [hb] at he; cases he
    · rcases List.mem_append.1 h with h | h
      · exact ih b h _ _ _ _ he
      · exact ih' b h _ _ _ _ he
theorem Hg.len {m : Mem} {w : World} {xs : List T} {vs : List Value} {F : List Nat} (h : Hg m w xs vs F) : vs.length = xs.length := by
  induction h <;> simp_all
theorem slotAt_of {w w' : World} {v : Value} (h : ∀ b, (v.ownBlock = some b ∨ v = .map (some b)) → w'.heap[b]? = w.heap[b]?) (i : Nat) : slotAt w' v i = slotAt w v i := by
  unfold slotAt
  split
  · rename_i a _ _
    exact World.cell?_of_block (h a.block (.inl rfl))
  · rename_i b
    rw [h b (.inr rfl)]
  · rfl
/-- The block of what is owned whole is its own. -/
theorem Hg.head {m : Mem} {w : World} {x : T} {v : Value} {F : List Nat} (h : Hg m w [x] [v] F) (hx : ∀ y, x ≠ .av y) : ∀ b, (v.ownBlock = some b ∨ v = .map (some b)) → b ∈ F := by
  intro b hb
  cases h with
  | av => exact absurd rfl (hx _)
  | box => rcases hb with hb | hb <;> cases hb
  | row ho =>
    rcases hb with hb | hb
    · simp [hb]
    · subst hb
      rcases ho.2 with ⟨h, _⟩ | ⟨_, _, _, h, _⟩ <;> cases h
  | rw ho =>
    rcases hb with hb | hb
    · simp [hb]
    · subst hb
      rcases ho.2 with ⟨h, _⟩ | ⟨_, _, _, h, _⟩ <;> cases h
  | mp => rcases hb with hb | hb
          · cases hb
          · cases hb; simp
/-- What an iterator over a map has met. -/
def ItRel (E : Env) (w : World) (k : Id) (seen : List Nat) (mb : Option Nat) (since : Nat) (bs : Array Nat) (last : Nat) : Prop :=
  (mb = none ∧ E.bv k = .map none) ∨ ∃ r ents clock, mb = some r ∧ E.bv k = .map (some r) ∧ w.heap[r]? = some (.map ents clock) ∧ since = clock ∧ last = clock ∧ bs.toList = seen.map (fun i => ((ents[i]?).map (·.born)).getD 0) ∧ ∀ i ∈ seen, i < ents.size
/-- What is owned whole. -/
structure Trees (C : Ctx) (E : Env) (σ : St) (w : World) : Prop where
  hg : ∀ k x, σ (.r k) = .tree x → Hg E.m w [x] [E.bv k] (E.bf k) ∧ ∀ y, x ≠ .av y
  dd : ∀ k x b, σ (.r k) = .tree x → b ∈ E.bf k → C.D b ∨ C.w0.heap.size ≤ b
  bx : ∀ k xs, σ (.r k) = .tree (.box xs) → E.bv k = .pointer (some ⟨E.loc k, 0, none⟩) ∧ k.2 ≠ 0
  tt : ∀ k k' x x' b, σ (.r k) = .tree x → σ (.r k') = .tree x' → b ∈ E.bf k → b ∈ E.bf k' → k = k'
  ot : ∀ o n k x, σ (.o o) = .num n → σ (.r k) = .tree x → E.loc o ∉ E.bf k
  tk : ∀ k' e s T k x b, σ (.k k') = .row e s T → σ (.r k) = .tree x → b ∈ E.bf k → (E.rv k').ownBlock ≠ some b
  le : ∀ k x i y, σ (.r k) = .tree x → σ (.l k) = .lent i y → ∃ v, slotAt w (E.bv k) i = some v ∧ RdA E σ y v
  it : ∀ o k g s, σ (.o o) = .itr k g s → ∃ mb since bs last, w.heap[E.loc o]? = some (.mapIter mb since bs last) ∧ (C.D (E.loc o) ∨ C.w0.heap.size ≤ E.loc o) ∧ g ≤ gg σ k ∧ (g = gg σ k → ∀ x, σ (.r k) = .tree x → ItRel E w k s mb since bs last)
  ii : ∀ o o' k g s k' g' s', σ (.o o) = .itr k g s → σ (.o o') = .itr k' g' s' → E.loc o = E.loc o' → o = o'
/-- A step beside them. -/
theorem Trees.step' {C : Ctx} {E E' : Env} {σ σ' : St} {w w' : World} (h : Trees C E σ w) (hm : Mo E σ E' σ') (hv : E'.bv = E.bv) (hf : E'.bf = E.bf) (hr : ∀ k x, σ' (.r k) = .tree x → σ (.r k) = .tree x) (hl : ∀ k i y, σ' (.l k) = .lent i y → σ (.l k) = .lent i y)
    (hlo : ∀ k xs, σ (.r k) = .tree (.box xs) → k.2 ≠ 0 → E'.loc k = E.loc k) (hw : ∀ k x b, σ (.r k) = .tree x → b ∈ E.bf k → b < w.heap.size → (∀ i, E.m b i = none) → w'.heap[b]? = w.heap[b]? ∧ ∀ i, E'.m b i = none)
    (ho : ∀ o n k x, σ' (.o o) = .num n → σ (.r k) = .tree x → E'.loc o ∈ E.bf k → E'.loc o < w.heap.size → ∃ n', σ (.o o) = .num n' ∧ E'.loc o = E.loc o)
    (hk : ∀ k' e s T b k x, σ' (.k k') = .row e s T → σ (.r k) = .tree x → b ∈ E.bf k → (E'.rv k').ownBlock = some b → b < w.heap.size → ∃ e s T, σ (.k k') = .row e s T ∧ (E.rv k').ownBlock = some b)
    (hi : ∀ o k g s, σ' (.o o) = .itr k g s → σ (.o o) = .itr k g s ∧ E'.loc o = E.loc o) (hj : ∀ (o k : Id) (g : Nat) (s : List Nat) (mb : Option Nat) (n : Nat) (bs : Array Nat) (l : Nat), σ' (.o o) = .itr k g s → w.heap[E.loc o]? = some (Obj.mapIter mb n bs l) → w'.heap[E.loc o]? = w.heap[E.loc o]?) : Trees C E' σ' w' := by
  have hF : ∀ k x, σ (.r k) = .tree x → ∀ b ∈ E.bf k, w'.heap[b]? = w.heap[b]? ∧ ∀ i, E'.m b i = E.m b i := fun k x hx b hb => by
    obtain ⟨h1, h2⟩ := (h.hg k x hx).1.mem b hb
    obtain ⟨h3, h4⟩ := hw k x b hx hb h1 h2
    exact ⟨h3, fun i => by rw [h4 i, h2 i]⟩
  refine ⟨fun k x hx => ?_, fun k x b hx hb => ?_, fun k xs hx => ?_, fun k k' x x' b h1 h2 h3 h4 => ?_, fun o n k x h1 h2 h3 => ?_, fun k' e s T k x b h1 h2 h3 h4 => ?_, fun k x i y h1 h2 => ?_, fun o k g s h1 => ?_, fun o o' k g s k' g' s' h1 h2 h3 => ?_⟩
  · have := h.hg k x (hr k x hx)
    rw [hv, hf]
    exact ⟨this.1.mono hm.m (hF k x (hr k x hx)), this.2⟩
  · rw [hf] at hb; exact h.dd k x b (hr k x hx) hb
  · obtain ⟨h1, h2⟩ := h.bx k xs (hr _ _ hx)
    rw [hv, hlo k xs (hr _ _ hx) h2]; exact ⟨h1, h2⟩
  · rw [hf] at h3 h4; exact h.tt k k' x x' b (hr _ _ h1) (hr _ _ h2) h3 h4
  · rw [hf] at h3
    have h2 := hr _ _ h2
    obtain ⟨n', h5, h6⟩ := ho o n k x h1 h2 h3 ((h.hg k x h2).1.mem _ h3).1
    rw [h6] at h3
    exact h.ot o n' k x h5 h2 h3
  · rw [hf] at h3
    have h2 := hr _ _ h2
    obtain ⟨e', s', T', h5, h6⟩ := hk k' e s T b k x h1 h2 h3 h4 ((h.hg k x h2).1.mem _ h3).1
    exact h.tk k' e' s' T' k x b h5 h2 h3 h6
  · have h1 := hr _ _ h1
    obtain ⟨v, h5, h6⟩ := h.le k x i y h1 (hl _ _ _ h2)
    rw [hv]
    exact ⟨v, by rw [slotAt_of (fun b hb => (hF k x h1 b ((h.hg k x h1).1.head (h.hg k x h1).2 b hb)).1)]; exact h5, h6.mo hm⟩
  · have h0 := h1
    obtain ⟨h1, h2⟩ := hi o k g s h1
    obtain ⟨mb, n, bs, l, h3, h4, h5, h6⟩ := h.it o k g s h1
    have hg := (hm.g k).1
    refine ⟨mb, n, bs, l, by rw [h2, hj o k g s _ _ _ _ h0 h3, h3], by rw [h2]; exact h4, by omega, fun he x hx => ?_⟩
    have hx := hr k x hx
    rcases h6 (by omega) x hx with ⟨e1, e2⟩ | ⟨r, ents, clock, e1, e2, e3, e4⟩
    · exact .inl ⟨e1, by rw [hv]; exact e2⟩
    · exact .inr ⟨r, ents, clock, e1, by rw [hv]; exact e2, by rw [(hF k x hx r ((h.hg k x hx).1.head (h.hg k x hx).2 r (.inr e2))).1]; exact e3, e4⟩
  · obtain ⟨h1, e1⟩ := hi o k g s h1
    obtain ⟨h2, e2⟩ := hi o' k' g' s' h2
    rw [e1, e2] at h3
    exact h.ii o o' k g s k' g' s' h1 h2 h3
theorem Trees.step {C : Ctx} {E E' : Env} {σ σ' : St} {w w' : World} (h : Trees C E σ w) (hm : Mo E σ E' σ') (hv : E'.bv = E.bv) (hf : E'.bf = E.bf) (hr : ∀ k x, σ' (.r k) = .tree x → σ (.r k) = .tree x) (hl : ∀ k i y, σ' (.l k) = .lent i y → σ (.l k) = .lent i y)
    (hlo : ∀ k xs, σ (.r k) = .tree (.box xs) → k.2 ≠ 0 → E'.loc k = E.loc k) (hw : ∀ k x b, σ (.r k) = .tree x → b ∈ E.bf k → b < w.heap.size → (∀ i, E.m b i = none) → w'.heap[b]? = w.heap[b]? ∧ ∀ i, E'.m b i = none)
    (ho : ∀ o n k x, σ' (.o o) = .num n → σ (.r k) = .tree x → E'.loc o ∈ E.bf k → E'.loc o < w.heap.size → ∃ n', σ (.o o) = .num n' ∧ E'.loc o = E.loc o)
    (hk : ∀ k' e s T b k x, σ' (.k k') = .row e s T → σ (.r k) = .tree x → b ∈ E.bf k → (E'.rv k').ownBlock = some b → b < w.heap.size → ∃ e s T, σ (.k k') = .row e s T ∧ (E.rv k').ownBlock = some b)
    (hi : ∀ o k g s, σ' (.o o) = .itr k g s → σ (.o o) = .itr k g s ∧ E'.loc o = E.loc o) (hj : ∀ (b : Nat) (mb : Option Nat) (n : Nat) (bs : Array Nat) (l : Nat), w.heap[b]? = some (Obj.mapIter mb n bs l) → w'.heap[b]? = w.heap[b]?) : Trees C E' σ' w' :=
  h.step' hm hv hf hr hl hlo hw ho hk hi fun o k g s mb n bs l _ h1 => hj _ _ _ _ _ h1

theorem Trees.beside {C : Ctx} {E : Env} {σ σ' : St} {w w' : World} (h : Trees C E σ w) (hm : Mo E σ E σ') (hr : ∀ k, σ' (.r k) = σ (.r k)) (hl : ∀ k, σ' (.l k) = σ (.l k)) (ho : ∀ k, σ' (.o k) = σ (.o k)) (hk : ∀ k, σ' (.k k) = σ (.k k))
    (hw : ∀ k x b, σ (.r k) = .tree x → b ∈ E.bf k → b < w.heap.size → w'.heap[b]? = w.heap[b]?) (hj : ∀ (b : Nat) (mb : Option Nat) (n : Nat) (bs : Array Nat) (l : Nat), w.heap[b]? = some (Obj.mapIter mb n bs l) → w'.heap[b]? = w.heap[b]?) : Trees C E σ' w' :=
  h.step hm rfl rfl (fun k x hx => by rw [← hr]; exact hx) (fun k i y hy => by rw [← hl]; exact hy) (fun _ _ _ _ => rfl) (fun k x b h1 h2 h3 h4 => ⟨hw k x b h1 h2 h3, h4⟩)
    (fun o n k x h1 h2 _ _ => ⟨n, by rw [← ho]; exact h1, rfl⟩) (fun k' e s T b k x h1 _ _ h4 _ => ⟨e, s, T, by rw [← hk]; exact h1, h4⟩) (fun o k g s h => ⟨by rw [← ho]; exact h, rfl⟩) hj

structure Gm (C : Ctx) (E : Env) (σ : St) (a : Act) (w : World) : Prop where
  sz : a.tmps.size = C.nt
  df : a.defers = []
  ms : ∀ b i v, E.m b i = some v → w.cell? ⟨b, i, none⟩ = some v
  fr : Chg C.D C.w0 w
  sl : ∀ t x, σ (.s t) = .av x → RdA E σ x (a.tmps.getD t undef)
  ce : ∀ o i x n, σ (.c o i) = .av x → σ (.o o) = .num n → i < n → ∃ v, w.cell? ⟨E.loc o, i, none⟩ = some v ∧ RdA E σ x v
  ob : ∀ o n, σ (.o o) = .num n → (∃ cs ty, w.heap[E.loc o]? = some (.cells cs ty (0, 0)) ∧ cs.size = n) ∧ (∀ i, E.m (E.loc o) i = none) ∧ (C.D (E.loc o) ∨ C.w0.heap.size ≤ E.loc o)
  ro : ∀ k e s T, σ (.k k) = .row e s T → w.ownsRow 0 e s (E.rv k) T (E.rx k) ∧ ∀ b, (E.rv k).ownBlock = some b → (∀ i, E.m b i = (E.rx k)[i]?) ∧ (C.D b ∨ C.w0.heap.size ≤ b)
  oo : ∀ o o' n n', σ (.o o) = .num n → σ (.o o') = .num n' → E.loc o = E.loc o' → o = o'
  rr : ∀ k k' e s T e' s' T' b, σ (.k k) = .row e s T → σ (.k k') = .row e' s' T' → (E.rv k).ownBlock = some b → (E.rv k').ownBlock = some b → k = k'
  or : ∀ o n k e s T, σ (.o o) = .num n → σ (.k k) = .row e s T → (E.rv k).ownBlock ≠ some (E.loc o)
  pi : ∀ o b, C.pins o = some b → E.loc o = b
  ml : C.m0.le E.m
  mx : ∀ b i, b < C.w0.heap.size → ¬ C.D b → E.m b i = C.m0 b i
  tr : Trees C E σ w

section
variable {C : Ctx} {E : Env} {σ : St} {a : Act} {w : World}
theorem put_same (σ : St) (l : Pl) (x : X) : put σ l x l = x := by simp [put]
theorem put_ne (σ : St) {l l' : Pl} (x : X) (h : l' ≠ l) : put σ l x l' = σ l' := by simp [put, h]
theorem act_put_size (a : Act) (d : Option Tmp) (v : Value) : (a.put d v).tmps.size = a.tmps.size := by cases d <;> simp [Act.put]
theorem act_put_defers (a : Act) (d : Option Tmp) (v : Value) : (a.put d v).defers = a.defers := by cases d <;> rfl
theorem act_put_same (a : Act) (t : Nat) (v : Value) (h : t < a.tmps.size) : (a.put (some t) v).tmps.getD t undef = v := by
  simp [Act.put, Array.getD_eq_getD_getElem?, Array.getElem?_setIfInBounds, h]
theorem act_put_ne (a : Act) (t u : Nat) (v : Value) (h : u ≠ t) : (a.put (some t) v).tmps.getD u undef = a.tmps.getD u undef := by
  simp [Act.put, Array.getD_eq_getD_getElem?, Array.getElem?_setIfInBounds, Ne.symm h]

/-- A step of a slot alone. -/
theorem Gm.slot (h : Gm C E σ a w) (t : Nat) (x : AV) (v : Value) (ht : t < C.nt) (hx : RdA E σ x v) : Gm C E (put σ (.s t) (.av x)) (a.put (some t) v) w := by
  have hmo : Mo E σ E (put σ (.s t) (.av x)) := Mo.same (fun o => put_ne _ _ (by simp)) (fun o => put_ne _ _ (by simp)) (fun o => put_ne _ _ (by simp)) (fun o => put_ne _ _ (by simp))
  have hO : ∀ o, put σ (.s t) (.av x) (.o o) = σ (.o o) := fun o => put_ne _ _ (by simp)
  have hK : ∀ o, put σ (.s t) (.av x) (.k o) = σ (.k o) := fun o => put_ne _ _ (by simp)
  have hCc : ∀ o i, put σ (.s t) (.av x) (.c o i) = σ (.c o i) := fun o i => put_ne _ _ (by simp)
  refine ⟨by rw [act_put_size]; exact h.sz, by rw [act_put_defers]; exact h.df, h.ms, h.fr, fun u y hy => ?_, fun o i y n h1 h2 h3 => ?_, fun o n h1 => h.ob o n (by rw [← hO]; exact h1), fun k e s T h1 => h.ro k e s T (by rw [← hK]; exact h1),
    fun o o' n n' h1 h2 => h.oo o o' n n' (by rw [← hO]; exact h1) (by rw [← hO]; exact h2), fun k k' e s T e' s' T' b h1 h2 => h.rr k k' e s T e' s' T' b (by rw [← hK]; exact h1) (by rw [← hK]; exact h2),
    fun o n k e s T h1 h2 => h.or o n k e s T (by rw [← hO]; exact h1) (by rw [← hK]; exact h2), h.pi, h.ml, h.mx,
    h.tr.beside hmo (fun o => put_ne _ _ (by simp)) (fun o => put_ne _ _ (by simp)) hO hK (fun _ _ _ _ _ _ => rfl) (fun _ _ _ _ _ _ => rfl)⟩
  · by_cases hu : u = t
    · subst hu
      rw [put_same] at hy
      cases hy
      rw [act_put_same _ _ _ (by rw [h.sz]; exact ht)]
      exact hx.mo hmo
    · rw [put_ne _ _ (by simpa using hu)] at hy
      rw [act_put_ne _ _ _ _ hu]
      exact (h.sl u y hy).mo hmo
  · obtain ⟨v, hv, hr⟩ := h.ce o i y n (by rw [← hCc]; exact h1) (by rw [← hO]; exact h2) h3
    exact ⟨v, hv, hr.mo hmo⟩
theorem Gm.heap {w' : World} (h : Gm C E σ a w) (hw : ∀ k, k < w.heap.size → w'.heap[k]? = w.heap[k]?) (hf : Chg C.D w w') : Gm C E σ a w' := by
  have hcell : ∀ b i v, w.cell? ⟨b, i, none⟩ = some v → w'.cell? ⟨b, i, none⟩ = some v := by
    intro b i v hv
    rcases Nat.lt_or_ge b w.heap.size with hb | hb
    · rw [World.cell?_of_block (w := w) (w' := w') (a := ⟨b, i, none⟩) (hw b hb)]; exact hv
    · have : w.heap[b]? = none := Array.getElem?_eq_none hb
      simp [World.cell?, this] at hv
  have hlt : ∀ k o, w.heap[k]? = some o → w'.heap[k]? = some o := fun k o hk => by
    rw [hw k (Array.getElem?_eq_some_iff.1 hk).1]; exact hk
  refine ⟨h.sz, h.df, fun b i v hv => hcell _ _ _ (h.ms b i v hv), h.fr.trans hf, h.sl, fun o i x n h1 h2 h3 => ?_, fun o n h1 => ?_, fun k e s T h1 => ?_, h.oo, h.rr, h.or, h.pi, h.ml, h.mx,
    h.tr.beside (Mo.same (fun _ => rfl) (fun _ => rfl) (fun _ => rfl) (fun _ => rfl)) (fun _ => rfl) (fun _ => rfl) (fun _ => rfl) (fun _ => rfl) (fun _ _ b _ _ hb => hw b hb) (fun b _ _ _ _ h => hw b (Array.getElem?_eq_some_iff.1 h).1)⟩
  · obtain ⟨v, hv, hr⟩ := h.ce o i x n h1 h2 h3
    exact ⟨v, hcell _ _ _ hv, hr⟩
  · obtain ⟨⟨cs, ty, h2, h3⟩, h4⟩ := h.ob o n h1
    exact ⟨⟨cs, ty, hlt _ _ h2, h3⟩, h4⟩
  · obtain ⟨h2, h3⟩ := h.ro k e s T h1
    exact ⟨own_heap h2 fun k hk => hw k (h2.lt k hk).2, h3⟩
theorem Gm.drew (h : Gm C E σ a w) : Gm C E σ a w.drew := h.heap (fun _ _ => rfl) (Chg.refl _ _).drew
theorem Gm.drawn (h : Gm C E σ a w) (n : Nat) : Gm C E σ a { w with drawn := n } := h.heap (fun _ _ => rfl) ⟨rfl, rfl, rfl, Nat.le_refl _, fun _ _ _ => rfl⟩
theorem Gm.alloc (h : Gm C E σ a w) (o : Obj) : Gm C E σ a (w.alloc o) := h.heap (fun k hk => Below.heap_alloc w o k hk) ((Chg.refl _ _).alloc o)
end

/-! ### Making an object -/
def cellsW (o : Id) : Nat → List AV → List (Pl × X)
  | _, [] => []
  | i, x :: xs => (.c o i, .av x) :: cellsW o (i + 1) xs
theorem cellsW_other (o : Id) : ∀ (xs : List AV) (i : Nat) (σ : St) (l : Pl), (∀ j, l ≠ .c o j) → puts σ (cellsW o i xs) l = σ l
  | [], _, _, _, _ => rfl
  | x :: xs, i, σ, l, h => by
    show puts (put σ (.c o i) (.av x)) (cellsW o (i + 1) xs) l = _
    rw [cellsW_other o xs (i + 1) _ l h, put_ne _ _ (h i)]
theorem cellsW_at (o : Id) : ∀ (xs : List AV) (i j : Nat) (σ : St), puts σ (cellsW o i xs) (.c o j) = if i ≤ j then (match xs[j - i]? with | some x => .av x | none => σ (.c o j)) else σ (.c o j)
  | [], i, j, σ => by simp [cellsW, puts]
  | x :: xs, i, j, σ => by
    show puts (put σ (.c o i) (.av x)) (cellsW o (i + 1) xs) (.c o j) = _
    rw [cellsW_at o xs (i + 1) j _]
    by_cases h1 : i = j
    · subst h1
      have : ¬ i + 1 ≤ i := by omega
      simp [this, put]
    · have hne : Pl.c o j ≠ Pl.c o i := by simp; omega
      by_cases h2 : i ≤ j
      · have h3 : i + 1 ≤ j := by omega
        have h4 : j - i = (j - (i + 1)) + 1 := by omega
        simp only [if_pos h2, if_pos h3, h4, List.getElem?_cons_succ, put_ne _ _ hne]
      · have h3 : ¬ i + 1 ≤ j := by omega
        simp only [if_neg h2, if_neg h3, put_ne _ _ hne]

section
variable {C : Ctx} {E : Env} {σ : St} {a : Act} {w : World}
def newW (o : Id) (G n : Nat) (xs : List AV) : List (Pl × X) := (.g o, .num (G + 1)) :: (.o o, .num n) :: cellsW o 0 xs
theorem Gm.object (h : Gm C E σ a w) (o : Id) (G : Nat) (hG : gg σ o = G) (ty : TypeId) (cs : Array Value) (xs : List AV) (hl : cs.size = xs.length)
    (hx : ∀ i (hi : i < xs.length), RdA E σ xs[i] (cs[i]'(hl ▸ hi))) (hp : C.pins o = none) (h0 : o.2 = 0) :
    ∃ E', Gm C E' (puts σ (newW o G xs.length xs)) a (w.alloc (.cells cs ty)) ∧ E'.m = E.m ∧ RdA E' (puts σ (newW o G xs.length xs)) (.ptr o (G + 1) 0) (.pointer (some ⟨w.heap.size, 0, none⟩)) := by
  have hs0 := h.fr.size
  obtain ⟨σ1, hσ1⟩ : ∃ s, s = put (put σ (.g o) (.num (G + 1))) (.o o) (.num xs.length) := ⟨_, rfl⟩
  have hσ : puts σ (newW o G xs.length xs) = puts σ1 (cellsW o 0 xs) := by rw [hσ1]; rfl
  have qg : ∀ o', puts σ1 (cellsW o 0 xs) (.g o') = if o' = o then .num (G + 1) else σ (.g o') := by
    intro o'
    rw [cellsW_other _ _ _ _ _ (by simp), hσ1, put_ne _ _ (by simp)]
    by_cases e : o' = o
    · subst e; simp [put]
    · simp [put, e]
  have qo : ∀ o', puts σ1 (cellsW o 0 xs) (.o o') = if o' = o then .num xs.length else σ (.o o') := by
    intro o'
    rw [cellsW_other _ _ _ _ _ (by simp), hσ1]
    by_cases e : o' = o
    · subst e; simp [put]
    · simp [put, e]
  have qk : ∀ k, puts σ1 (cellsW o 0 xs) (.k k) = σ (.k k) := by intro k; rw [cellsW_other _ _ _ _ _ (by simp), hσ1]; simp [put]
  have qq : ∀ k, puts σ1 (cellsW o 0 xs) (.q k) = σ (.q k) := by intro k; rw [cellsW_other _ _ _ _ _ (by simp), hσ1]; simp [put]
  have qs : ∀ t, puts σ1 (cellsW o 0 xs) (.s t) = σ (.s t) := by intro k; rw [cellsW_other _ _ _ _ _ (by simp), hσ1]; simp [put]
  have qh : ∀ k, puts σ1 (cellsW o 0 xs) (.h k) = σ (.h k) := by intro k; rw [cellsW_other _ _ _ _ _ (by simp), hσ1]; simp [put]
  have qr : ∀ k, puts σ1 (cellsW o 0 xs) (.r k) = σ (.r k) := by intro k; rw [cellsW_other _ _ _ _ _ (by simp), hσ1]; simp [put]
  have ql : ∀ k, puts σ1 (cellsW o 0 xs) (.l k) = σ (.l k) := by intro k; rw [cellsW_other _ _ _ _ _ (by simp), hσ1]; simp [put]
  have qc : ∀ o' i, o' ≠ o → puts σ1 (cellsW o 0 xs) (.c o' i) = σ (.c o' i) := by
    intro o' i e; rw [cellsW_other _ _ _ _ _ (by simp [e]), hσ1]; simp [put]
  obtain ⟨E', hE'⟩ : ∃ E' : Env, E' = { E with loc := fun o' => if o' = o then w.heap.size else E.loc o' } := ⟨_, rfl⟩
  have hm : E'.m = E.m := by rw [hE']
  have hloc : ∀ o', o' ≠ o → E'.loc o' = E.loc o' := by intro o' e; rw [hE']; simp [e]
  have hloco : E'.loc o = w.heap.size := by rw [hE']; simp
  have hrv : E'.rv = E.rv := by rw [hE']
  have hrx : E'.rx = E.rx := by rw [hE']
  have hbv : E'.bv = E.bv := by rw [hE']
  have hbf : E'.bf = E.bf := by rw [hE']
  have qco : ∀ j (hj : j < xs.length), puts σ1 (cellsW o 0 xs) (.c o j) = .av xs[j] := by
    intro j hj; rw [cellsW_at]; simp [hj]
  rw [hσ]
  clear hσ
  generalize puts σ1 (cellsW o 0 xs) = σ2 at *
  have hfresh : ∀ i, E.m w.heap.size i = none := by
    intro i
    cases hc : E.m w.heap.size i with
    | none => rfl
    | some v =>
      have := h.ms _ _ _ hc
      simp [World.cell?] at this
  have hmo : Mo E σ E' σ2 := by
    refine ⟨by rw [hm]; exact Mem.le_refl _, fun o' => ?_, fun k => ⟨Nat.le_of_eq (gq_of (qq k)).symm, fun _ e sz T h2 => ⟨T, by rw [← qk]; exact h2, Nat.le_refl _, fun _ => by rw [hrv]⟩⟩, fun k => ⟨Nat.le_of_eq (gh_of (qh k)).symm, fun _ => by rw [hbv]⟩⟩
    by_cases e : o' = o
    · subst e
      have : gg σ2 o' = G + 1 := gg_num (by rw [qg, if_pos rfl])
      exact ⟨by omega, fun e => absurd e (by omega)⟩
    · have : gg σ2 o' = gg σ o' := gg_of (by rw [qg, if_neg e])
      exact ⟨by omega, fun _ => hloc _ e⟩
  have hA := h.alloc (.cells cs ty)
  have hcell : ∀ (b i : Nat) (v : Value), w.cell? ⟨b, i, none⟩ = some v → (w.alloc (.cells cs ty)).cell? ⟨b, i, none⟩ = some v := by
    intro b i v hv
    rcases Nat.lt_or_ge b w.heap.size with hb | hb
    · rw [World.cell?_of_block (w := w) (a := ⟨b, i, none⟩) (Below.heap_alloc w _ b hb)]; exact hv
    · have : w.heap[b]? = none := Array.getElem?_eq_none hb
      simp [World.cell?, this] at hv
  have hnlt : ∀ o' n, σ (.o o') = .num n → E.loc o' < w.heap.size := by
    intro o' n h1
    obtain ⟨⟨c1, t1, h2, _⟩, _⟩ := h.ob o' n h1
    exact (Array.getElem?_eq_some_iff.1 h2).1
  refine ⟨E', ⟨h.sz, h.df, fun b i v hv => hA.ms b i v (by rw [← hm]; exact hv), hA.fr, fun t x h1 => (h.sl t x (by rw [← qs]; exact h1)).mo hmo, fun o' i x n h1 h2 h3 => ?_, fun o' n h1 => ?_, fun k e s T h1 => ?_, fun o1 o2 n n' h1 h2 h3 => ?_, fun k k' e s T e' s' T' b h1 h2 h3 h4 => ?_, fun o' n k e s T h1 h2 => ?_, fun o' b h1 => ?_, by rw [hm]; exact h.ml, by rw [hm]; exact h.mx,
    h.tr.step hmo hbv hbf (fun k x hx => by rw [← qr]; exact hx) (fun k i y hy => by rw [← ql]; exact hy) (fun k xs _ hk => hloc k (fun e => hk (by rw [e]; exact h0))) (fun k x b _ _ hb h5 => ⟨Below.heap_alloc w _ b hb, by rw [hm]; exact h5⟩)
      (fun o' n k x h1 _ _ h4 => by
        by_cases e : o' = o
        · subst e; rw [hloco] at h4; omega
        · rw [qo, if_neg e] at h1; exact ⟨n, h1, hloc _ e⟩)
      (fun k' e s T b k x h1 _ _ h4 _ => ⟨e, s, T, by rw [← qk]; exact h1, by rw [← hrv]; exact h4⟩)
      (fun o' k g s h1 => by
        by_cases e : o' = o
        · rw [qo, if_pos e] at h1; cases h1
        · rw [qo, if_neg e] at h1; exact ⟨h1, hloc _ e⟩)
      (fun b _ _ _ _ h => Below.heap_alloc w _ b (Array.getElem?_eq_some_iff.1 h).1)⟩, hm, ?_⟩
  · by_cases e : o' = o
    · subst e
      rw [qo, if_pos rfl] at h2
      cases h2
      rw [qco i h3] at h1
      cases h1
      refine ⟨cs[i]'(hl ▸ h3), ?_, (hx i h3).mo hmo⟩
      rw [hloco]
      have : (w.alloc (.cells cs ty)).heap[w.heap.size]? = some (.cells cs ty (0, 0)) := heap_alloc_new w _
      rw [cell_of_row _ _ _ _ _ _ this]
      simp [hl ▸ h3]
    · rw [qo, if_neg e] at h2
      rw [qc _ _ e] at h1
      obtain ⟨v, hv, hr⟩ := h.ce o' i x n h1 h2 h3
      exact ⟨v, by rw [hloc _ e]; exact hcell _ _ _ hv, hr.mo hmo⟩
  · by_cases e : o' = o
    · subst e
      rw [qo, if_pos rfl] at h1
      cases h1
      rw [hloco, hm]
      exact ⟨⟨cs, ty, heap_alloc_new w _, hl⟩, hfresh, .inr hs0⟩
    · rw [qo, if_neg e] at h1
      rw [hloc _ e, hm]
      exact hA.ob o' n h1
  · rw [qk] at h1
    rw [hrv, hrx, hm]
    exact hA.ro k e s T h1
  · rw [qo] at h1 h2
    by_cases e1 : o1 = o
    · by_cases e2 : o2 = o
      · rw [e1, e2]
      · rw [if_neg e2] at h2
        subst e1
        rw [hloco, hloc _ e2] at h3
        have := hnlt o2 n' h2
        omega
    · rw [if_neg e1] at h1
      by_cases e2 : o2 = o
      · subst e2
        rw [hloco, hloc _ e1] at h3
        have := hnlt o1 n h1
        omega
      · rw [if_neg e2] at h2
        rw [hloc _ e1, hloc _ e2] at h3
        exact h.oo o1 o2 n n' h1 h2 h3
  · rw [qk] at h1 h2
    rw [hrv] at h3 h4
    exact h.rr k k' e s T e' s' T' b h1 h2 h3 h4
  · rw [qk] at h2
    rw [qo] at h1
    rw [hrv]
    by_cases e1 : o' = o
    · subst e1
      rw [hloco]
      intro he
      have := ((h.ro k e s T h2).1.lt _ he).2
      omega
    · rw [if_neg e1] at h1
      rw [hloc _ e1]
      exact h.or o' n k e s T h1 h2
  · by_cases e1 : o' = o
    · subst e1; rw [hp] at h1; cases h1
    · rw [hloc _ e1]; exact h.pi o' b h1
  · have : gg σ2 o = G + 1 := gg_num (by rw [qg, if_pos rfl])
    exact ⟨by omega, fun _ => by rw [hloco]⟩

/-- A store into an object's cell. -/
theorem Gm.store (h : Gm C E σ a w) (o : Id) (n i : Nat) (ho : σ (.o o) = .num n) (hi : i < n) (x : AV) (v : Value) (hx : RdA E σ x v) :
    Gm C E (put σ (.c o i) (.av x)) a (w.setCell ⟨E.loc o, i, none⟩ v) ∧ (∃ u, w.cell? ⟨E.loc o, i, none⟩ = some u) ∧ w.frozen? ⟨E.loc o, i, none⟩ = false := by
  have hmo : Mo E σ E (put σ (.c o i) (.av x)) := Mo.same (fun o => put_ne _ _ (by simp)) (fun o => put_ne _ _ (by simp)) (fun o => put_ne _ _ (by simp)) (fun o => put_ne _ _ (by simp))
  have hO : ∀ o', put σ (.c o i) (.av x) (.o o') = σ (.o o') := fun o' => put_ne _ _ (by simp)
  have hK : ∀ o', put σ (.c o i) (.av x) (.k o') = σ (.k o') := fun o' => put_ne _ _ (by simp)
  have hS : ∀ o', put σ (.c o i) (.av x) (.s o') = σ (.s o') := fun o' => put_ne _ _ (by simp)
  obtain ⟨⟨cs, ty, hb, hn⟩, hm0, hD⟩ := h.ob o n ho
  have hcs : ∃ u, w.cell? ⟨E.loc o, i, none⟩ = some u := ⟨cs[i]'(hn ▸ hi), by simp [World.cell?, hb, hn ▸ hi]⟩
  have hself : (w.setCell ⟨E.loc o, i, none⟩ v).heap[E.loc o]? = some (.cells (cs.setIfInBounds i v) ty (0, 0)) := by
    simp [World.setCell, Array.getElem?_modify, hb]
  have hoth : ∀ k, k ≠ E.loc o → (w.setCell ⟨E.loc o, i, none⟩ v).heap[k]? = w.heap[k]? := fun k hk => heap_setCell_other w _ k v hk
  have hcell : ∀ (b j : Nat), b ≠ E.loc o → (w.setCell ⟨E.loc o, i, none⟩ v).cell? ⟨b, j, none⟩ = w.cell? ⟨b, j, none⟩ := fun b j hb => World.cell?_of_block (hoth b hb)
  refine ⟨⟨h.sz, h.df, fun b j u hu => ?_, h.fr.setCell _ _ (fun hlt => by rcases hD with hD | hD; exact hD; exact absurd hlt (by have : (⟨E.loc o, i, none⟩ : Addr).block = E.loc o := rfl; omega)), fun t y hy => (h.sl t y (by rw [← hS]; exact hy)).mo hmo, fun o' j y n' h1 h2 h3 => ?_, fun o' n' h1 => ?_, fun k e s T h1 => ?_,
    fun o1 o2 n n' h1 h2 => h.oo o1 o2 n n' (by rw [← hO]; exact h1) (by rw [← hO]; exact h2), fun k k' e s T e' s' T' b h1 h2 => h.rr k k' e s T e' s' T' b (by rw [← hK]; exact h1) (by rw [← hK]; exact h2),
    fun o n k e s T h1 h2 => h.or o n k e s T (by rw [← hO]; exact h1) (by rw [← hK]; exact h2), h.pi, h.ml, h.mx,
    h.tr.beside hmo (fun o => put_ne _ _ (by simp)) (fun o => put_ne _ _ (by simp)) hO hK (fun k x b h1 h2 _ => hoth b (fun e => h.tr.ot o n k x ho h1 (e ▸ h2))) (fun b _ _ _ _ hb' => hoth b (fun e => by rw [e, hb] at hb'; cases hb'))⟩, hcs, by simp [World.frozen?, hb]⟩
  · have hne : b ≠ E.loc o := by rintro rfl; rw [hm0] at hu; cases hu
    rw [hcell _ _ hne]
    exact h.ms b j u hu
  · rw [hO] at h2
    by_cases e : o' = o
    · subst e
      have hn' : n' = n := by rw [ho] at h2; cases h2; rfl
      subst hn'
      by_cases ei : j = i
      · subst ei
        rw [put_same] at h1
        cases h1
        exact ⟨v, by simp [World.cell?, hself, hn ▸ h3], hx.mo hmo⟩
      · rw [put_ne _ _ (by simp [ei])] at h1
        obtain ⟨u, hu, hr⟩ := h.ce o' j y n' h1 h2 h3
        refine ⟨u, ?_, hr.mo hmo⟩
        have hne : (⟨E.loc o', i, none⟩ : Addr) ≠ ⟨E.loc o', j, none⟩ := by simp [Ne.symm ei]
        rw [World.cell?_setCell_other _ _ _ _ hne]
        exact hu
    · rw [put_ne _ _ (by simp [e])] at h1
      obtain ⟨u, hu, hr⟩ := h.ce o' j y n' h1 h2 h3
      refine ⟨u, ?_, hr.mo hmo⟩
      rw [hcell _ _ (fun he => e (h.oo o' o n' n h2 ho he))]
      exact hu
  · rw [hO] at h1
    obtain ⟨⟨c1, t1, h2, h3⟩, h4⟩ := h.ob o' n' h1
    refine ⟨?_, h4⟩
    by_cases e : E.loc o' = E.loc o
    · rw [e]
      rw [e, hb] at h2
      cases h2
      exact ⟨_, _, hself, by simp [h3]⟩
    · exact ⟨c1, t1, by rw [hoth _ e]; exact h2, h3⟩
  · rw [hK] at h1
    obtain ⟨h2, h3⟩ := h.ro k e s T h1
    exact ⟨own_heap h2 fun b hb => hoth b (fun he => h.or o n k e s T ho h1 (by rw [hb, he])), h3⟩
end
end Go.Proofs.YtojcjbaimdjhoaaGreatDoor
