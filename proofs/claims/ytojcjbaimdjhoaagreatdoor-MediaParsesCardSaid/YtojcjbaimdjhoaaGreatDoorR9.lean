
/- What is taken back behind a call. -/
import Derived.Test.YtojcjbaimdjhoaaGreatDoorR8
namespace Go.Proofs.YtojcjbaimdjhoaaGreatDoor
open Go.RowKit
set_option linter.unusedVariables false
set_option linter.unusedSimpArgs false

theorem Mo.trans {E1 E2 E3 : Env} {a b c : St} (h : Mo E1 a E2 b) (k : Mo E2 b E3 c) : Mo E1 a E3 c := by
  refine ⟨Mem.le_trans h.m k.m, fun o => ⟨Nat.le_trans (h.g o).1 (k.g o).1, fun he => ?_⟩, fun q => ⟨Nat.le_trans (h.q q).1 (k.q q).1, fun he e sz T h1 => ?_⟩, fun q => ⟨Nat.le_trans (h.h q).1 (k.h q).1, fun he => ?_⟩⟩
  · have h1 := (h.g o).1; have h2 := (k.g o).1
    rw [(k.g o).2 (by omega), (h.g o).2 (by omega)]
  · have h2 := (h.q q).1; have h3 := (k.q q).1
    obtain ⟨T1, h4, h5, h6⟩ := (k.q q).2 (by omega) e sz T h1
    obtain ⟨T2, h7, h8, h9⟩ := (h.q q).2 (by omega) e sz T1 h4
    exact ⟨T2, h7, by omega, fun h10 => by rw [h6 (by omega), h9 (by omega)]⟩
  · have h1 := (h.h q).1; have h2 := (k.h q).1
    rw [(k.h q).2 (by omega), (h.h q).2 (by omega)]
theorem puts_in : ∀ (W : List (Pl × X)) (σ : St) (l : Pl), l ∈ locs W → ∃ x, (l, x) ∈ W ∧ puts σ W l = x
  | p :: W, σ, l, h => by
    by_cases hl : l ∈ locs W
    · obtain ⟨x, h1, h2⟩ := puts_in W (put σ p.1 p.2) l hl
      exact ⟨x, List.mem_cons_of_mem _ h1, h2⟩
    · have he : l = p.1 := by simp only [locs, List.map_cons, List.mem_cons] at h; exact h.resolve_right hl
      refine ⟨p.2, by rw [he]; simp, ?_⟩
      show puts (put σ p.1 p.2) W l = _
      rw [puts_out _ _ _ hl, he, put_same]
theorem locs_append (a b : List (Pl × X)) : locs (a ++ b) = locs a ++ locs b := by simp [locs]

/-! ### What is taken back behind a call -/
def lentW (σ : St) (all : List Id) (k : Id) (i ob : Nat) : List (Pl × X) :=
  match all[ob]? with
  | some o => [(.l k, .lent i (.ptr o (gg σ o) 0))]
  | none => []
def gainW (σ : St) (all : List Id) (k : Id) : CA → List (Pl × X)
  | .val _ => []
  | .own e sz es => [(.q k, .num (gq σ k + 1)), (.k k, .row e sz es.length)]
  | .hd x => treeW σ k x
  | .hdl x i ob => treeW σ k x ++ lentW σ all k i ob
def gainAV (σ : St) (k : Id) : CA → AV
  | .val x => .val x
  | .own e sz es => .own k (gq σ k + 1) e sz es
  | .hd x => treeAV σ k x
  | .hdl x _ _ => treeAV σ k x
def isHd : CA → Bool
  | .hd _ => true
  | .hdl _ _ _ => true
  | _ => false
def gains (σ : St) (all : List Id) (o : Id) : Nat → List CA → List (Pl × X) × List AV
  | _, [] => ([], [])
  | j, c :: cs => let r := gains (puts σ (gainW σ all (kid o j) c)) all o (j + 1) cs
    (gainW σ all (kid o j) c ++ r.1, gainAV σ (kid o j) c :: r.2)
def kidsOf (o : Id) : Nat → List CA → List Id
  | _, [] => []
  | j, c :: cs => if isHd c then kid o j :: kidsOf o (j + 1) cs else kidsOf o (j + 1) cs
def objGain (σ : St) (all : List Id) (o : Id) (G' : Nat) (cs : List CA) : List (Pl × X) := (gains σ all o 0 cs).1 ++ objW o G' cs.length (gains σ all o 0 cs).2
def objsW (all : List Id) : St → List Id → List (List CA) → List (Pl × X)
  | σ, o :: ids, cs :: objs => objGain σ all o (gg σ o) cs ++ objsW all (puts σ (objGain σ all o (gg σ o) cs)) ids objs
  | _, _, _ => []
def kidsAll : List Id → List (List CA) → List Id
  | o :: ids, cs :: objs => kidsOf o 0 cs ++ kidsAll ids objs
  | _, _ => []
def hoDrop (σ : St) : Ho → List (Pl × X)
  | .o i => [(.o i, .non)]
  | .k k => [(.q k, .num (gq σ k + 1)), (.k k, .non)]
  | .r k => [(.r k, .non)]
def dropW (σ : St) (ts : List Ho) : List (Pl × X) := ts.flatMap (hoDrop σ)

section
variable {P : Program} {ops : Array Oper} {C : Ctx} {E : Env} {σ : St} {a : Act} {w : World}
theorem Gm.lend (h : Gm C E σ a w) (k : Id) (x : T) (hx : σ (.r k) = .tree x) (i : Nat) (y : AV) (hy : ∃ v, slotAt w (E.bv k) i = some v ∧ RdA E σ y v) : Gm C E (put σ (.l k) (.lent i y)) a w ∧ Mo E σ E (put σ (.l k) (.lent i y)) ∧ ∀ t b, HoB E (put σ (.l k) (.lent i y)) t b → HoB E σ t b := by
  have hG : ∀ o, put σ (.l k) (.lent i y) (.g o) = σ (.g o) := fun o => put_ne _ _ (by simp)
  have hQ : ∀ o, put σ (.l k) (.lent i y) (.q o) = σ (.q o) := fun o => put_ne _ _ (by simp)
  have hK : ∀ o, put σ (.l k) (.lent i y) (.k o) = σ (.k o) := fun o => put_ne _ _ (by simp)
  have hO : ∀ o, put σ (.l k) (.lent i y) (.o o) = σ (.o o) := fun o => put_ne _ _ (by simp)
  have hH : ∀ o, put σ (.l k) (.lent i y) (.h o) = σ (.h o) := fun o => put_ne _ _ (by simp)
  have hR : ∀ o, put σ (.l k) (.lent i y) (.r o) = σ (.r o) := fun o => put_ne _ _ (by simp)
  have hS : ∀ o, put σ (.l k) (.lent i y) (.s o) = σ (.s o) := fun o => put_ne _ _ (by simp)
  have hC : ∀ o j, put σ (.l k) (.lent i y) (.c o j) = σ (.c o j) := fun o j => put_ne _ _ (by simp)
  have hmo : Mo E σ E (put σ (.l k) (.lent i y)) := Mo.same hG hQ hK hH
  refine ⟨⟨h.sz, h.df, h.ms, h.fr, fun u z hz => (h.sl u z (by rw [← hS]; exact hz)).mo hmo, fun o j z n h1 h2 h3 => ?_, fun o n h1 => h.ob o n (by rw [← hO]; exact h1), fun k e s T h1 => h.ro k e s T (by rw [← hK]; exact h1),
    fun o o' n n' h1 h2 => h.oo o o' n n' (by rw [← hO]; exact h1) (by rw [← hO]; exact h2), fun k k' e s T e' s' T' b h1 h2 => h.rr k k' e s T e' s' T' b (by rw [← hK]; exact h1) (by rw [← hK]; exact h2),
    fun o n k e s T h1 h2 => h.or o n k e s T (by rw [← hO]; exact h1) (by rw [← hK]; exact h2), h.pi, h.ml, h.mx, ?_⟩, hmo, fun t b hb => ?_⟩
  · rw [hC] at h1
    rw [hO] at h2
    obtain ⟨v, hv, hr⟩ := h.ce o j z n h1 h2 h3
    exact ⟨v, hv, hr.mo hmo⟩
  · have ht := h.tr
    refine ⟨fun k' y h1 => ht.hg k' y (by rw [← hR]; exact h1), fun k' y b h1 h2 => ht.dd k' y b (by rw [← hR]; exact h1) h2, fun k' ys h1 => ht.bx k' ys (by rw [← hR]; exact h1), fun k1 k2 x1 x2 b h1 h2 h3 h4 => ht.tt k1 k2 x1 x2 b (by rw [← hR]; exact h1) (by rw [← hR]; exact h2) h3 h4,
      fun o n k' y h1 h2 h3 => ht.ot o n k' y (by rw [← hO]; exact h1) (by rw [← hR]; exact h2) h3, fun k1 e s T k' y b h1 h2 h3 h4 => ht.tk k1 e s T k' y b (by rw [← hK]; exact h1) (by rw [← hR]; exact h2) h3 h4, fun k' z j u h1 h2 => ?_,
      fun o k' g s h1 => by
        obtain ⟨mb, n, bs, l, h3, h4, h5, h6⟩ := ht.it o k' g s (by rw [← hO]; exact h1)
        exact ⟨mb, n, bs, l, h3, h4, Nat.le_trans h5 (hmo.g k').1, fun he y hy => h6 (by have := gg_of (hG k'); omega) y (by rw [← hR]; exact hy)⟩,
      fun o o' k1 g s k2 g' s' h1 h2 h3 => ht.ii o o' k1 g s k2 g' s' (by rw [← hO]; exact h1) (by rw [← hO]; exact h2) h3⟩
    by_cases e : k' = k
    · subst e
      rw [put_same] at h2
      cases h2
      obtain ⟨v, h3, h4⟩ := hy
      exact ⟨v, h3, h4.mo hmo⟩
    · rw [put_ne _ _ (by simp [e])] at h2
      obtain ⟨v, h3, h4⟩ := ht.le k' z j u (by rw [← hR]; exact h1) h2
      exact ⟨v, h3, h4.mo hmo⟩
  · cases t with
    | o i => obtain ⟨n, h1, h2⟩ := hb; rw [hO] at h1; exact ⟨n, h1, h2⟩
    | k i => obtain ⟨e, s, T, h1, h2⟩ := hb; rw [hK] at h1; exact ⟨e, s, T, h1, h2⟩
    | r i => obtain ⟨z, h1, h2⟩ := hb; rw [hR] at h1; exact ⟨z, h1, h2⟩

/-- A cell's part is taken. -/
theorem gain_ok (hg : Gm C E σ a w) (all : List Id) (bs : List Nat) (hall : ∀ (ob : Nat) (o' : Id) (b : Nat), all[ob]? = some o' → bs[ob]? = some b → E.loc o' = b) (k : Id) (hk : k.2 ≠ 0) (c : CA) (hkid : isHd c = true → k ∉ all) (v : Value) (F : List Nat) (hc : CAok E.m w bs c v F)
    (hb : ∀ b ∈ F, (C.D b ∨ C.w0.heap.size ≤ b) ∧ ¬ LiveB E σ b) :
    ∃ E', Gm C E' (puts σ (gainW σ all k c)) a w ∧ Mo E σ E' (puts σ (gainW σ all k c)) ∧ E'.m = E.m ∧ (∀ o', (isHd c = true → o' ≠ k) → E'.loc o' = E.loc o' ∧ gg (puts σ (gainW σ all k c)) o' = gg σ o') ∧
      (∀ b, LiveB E' (puts σ (gainW σ all k c)) b → LiveB E σ b ∨ b ∈ F) ∧ RdP E' (puts σ (gainW σ all k c)) (gainAV σ k c) v := by
  have htree : ∀ x, Hg E.m w [x] [v] F → (∀ y, x ≠ .av y) → ∃ E', Gm C E' (puts σ (treeW σ k x)) a w ∧ Mo E σ E' (puts σ (treeW σ k x)) ∧ E'.m = E.m ∧ (∀ o', o' ≠ k → E'.loc o' = E.loc o' ∧ gg (puts σ (treeW σ k x)) o' = gg σ o') ∧
      (∀ b, LiveB E' (puts σ (treeW σ k x)) b → LiveB E σ b ∨ b ∈ F) ∧ RdP E' (puts σ (treeW σ k x)) (treeAV σ k x) v := fun x h1 h2 => by
    obtain ⟨E', g1, g2, g3, g4, g5, g6⟩ := hg.gainTree k x v F h2 h1 hb hk
    exact ⟨E', g1, g2, g3, fun o' ho => ⟨g4 o' ho, gg_of (by simp [treeW, puts, put, ho])⟩, g5, g6⟩
  cases c with
  | val x =>
    obtain ⟨h1, rfl⟩ := hc
    exact ⟨E, hg, Mo.same (fun _ => rfl) (fun _ => rfl) (fun _ => rfl) (fun _ => rfl), rfl, fun _ _ => ⟨rfl, rfl⟩, fun b h => .inl h, h1⟩
  | own e sz es =>
    obtain ⟨⟨h1, xs, h2, h3⟩, rfl⟩ := hc
    obtain ⟨E', g1, g2, g3, g4, g5, g6⟩ := hg.gainRow k (gq σ k + 1) (by omega) e sz es.length v xs h2 (fun b hb' => ⟨h3 b hb', hb b (by simpa using hb')⟩)
    exact ⟨E', g1, g2, g3, fun o' _ => ⟨by rw [g4], gg_of (by simp [gainW, puts, put])⟩, fun b hL => (g5 b hL).imp id fun h => by simpa using h, g6 es rfl h1⟩
  | hd x =>
    obtain ⟨h1, h2⟩ := hc
    obtain ⟨E', g1, g2, g3, g4, g5, g6⟩ := htree x h1 h2
    exact ⟨E', g1, g2, g3, fun o' ho => g4 o' (ho rfl), g5, g6⟩
  | hdl x i ob =>
    obtain ⟨⟨h1, h2⟩, b0, h3, h4⟩ := hc
    obtain ⟨E', g1, g2, g3, g4, g5, g6⟩ := htree x h1 h2
    have hkr : puts σ (treeW σ k x) (.r k) = .tree x := by simp [treeW, puts, put]
    have hbv : E'.bv k = v ∨ ∃ ys, x = .box ys := by
      cases x with
      | box ys => exact .inr ⟨ys, rfl⟩
      | av y => exact absurd rfl (h2 y)
      | row e sz es => exact .inl (g6.2 (by simp [gh, treeW, puts, put])).symm
      | rw e sz es => exact .inl (g6.2 (by simp [gh, treeW, puts, put])).symm
      | mp kvs => exact .inl (g6.2 (by simp [gh, treeW, puts, put])).symm
    rcases hbv with hbv | ⟨ys, rfl⟩
    · simp only [gainW, gainAV, lentW]
      cases ho : all[ob]? with
      | none => simp only [List.append_nil]; exact ⟨E', g1, g2, g3, fun o' ho => g4 o' (ho rfl), g5, g6⟩
      | some o' =>
        have hne : o' ≠ k := fun e => hkid rfl (e ▸ List.mem_of_getElem? ho)
        obtain ⟨q1, q2⟩ := g4 o' hne
        obtain ⟨l1, l2, l3⟩ := g1.lend k x hkr i (.ptr o' (gg σ o') 0) ⟨_, by rw [hbv]; exact h4, by rw [← q2]; exact ⟨Nat.le_refl _, fun _ => by rw [q1, hall ob o' b0 ho h3]⟩⟩
        have e0 : puts σ (treeW σ k x ++ [(Pl.l k, X.lent i (AV.ptr o' (gg σ o') 0))]) = put (puts σ (treeW σ k x)) (.l k) (.lent i (.ptr o' (gg σ o') 0)) := by rw [puts_append]; rfl
        rw [e0]
        refine ⟨E', l1, g2.trans l2, g3, fun o2 ho2 => ⟨(g4 o2 (ho2 rfl)).1, ?_⟩, fun b ⟨t, ht⟩ => g5 b ⟨t, l3 t b ht⟩, g6.mo l2⟩
        rw [← (g4 o2 (ho2 rfl)).2]
        exact gg_of (put_ne _ _ (by simp))
    · cases h1
      simp [slotAt] at h4

def AllA (E : Env) (σ : St) : List AV → List Value → Prop
  | [], [] => True
  | x :: xs, v :: vs => RdA E σ x v ∧ AllA E σ xs vs
  | _, _ => False
theorem AllA.mo {E E' : Env} {σ σ' : St} (hm : Mo E σ E' σ') : ∀ {xs : List AV} {vs : List Value}, AllA E σ xs vs → AllA E' σ' xs vs
  | [], [], _ => trivial
  | x :: xs, v :: vs, h => ⟨h.1.mo hm, AllA.mo hm h.2⟩
  | [], _ :: _, h => h.elim
  | _ :: _, [], h => h.elim
theorem AllA.get {E : Env} {σ : St} : ∀ {xs : List AV} {vs : List Value}, AllA E σ xs vs → vs.length = xs.length ∧ ∀ (i : Nat) (h1 : i < xs.length) (h2 : i < vs.length), RdA E σ xs[i] vs[i]
  | [], [], _ => ⟨rfl, fun i h => by simp at h⟩
  | x :: xs, v :: vs, h => ⟨by simp [(AllA.get h.2).1], fun i h1 h2 => by
    cases i with
    | zero => exact h.1
    | succ i => exact (AllA.get h.2).2 i (by simpa using h1) (by simpa using h2)⟩
  | [], _ :: _, h => h.elim
  | _ :: _, [], h => h.elim
theorem gains_length (all : List Id) (o : Id) : ∀ (cs : List CA) (σ : St) (j : Nat), (gains σ all o j cs).2.length = cs.length
  | [], _, _ => rfl
  | c :: cs, σ, j => by simp [gains, gains_length all o cs]
theorem gains_ok (all : List Id) (bs : List Nat) (o : Id) : ∀ (cs : List CA) (vs : List Value) (F : List Nat) (j : Nat) (E : Env) (σ : St), Gm C E σ a w → ArgsOk E.m w bs (cs.map .ca) vs F → (∀ (ob : Nat) (o' : Id) (b : Nat), all[ob]? = some o' → bs[ob]? = some b → E.loc o' = b) →
    (∀ k ∈ kidsOf o j cs, k ∉ all) → (∀ b ∈ F, (C.D b ∨ C.w0.heap.size ≤ b) ∧ ¬ LiveB E σ b) →
    ∃ E', Gm C E' (puts σ (gains σ all o j cs).1) a w ∧ Mo E σ E' (puts σ (gains σ all o j cs).1) ∧ E'.m = E.m ∧ (∀ o', o' ∉ kidsOf o j cs → E'.loc o' = E.loc o' ∧ gg (puts σ (gains σ all o j cs).1) o' = gg σ o') ∧
      (∀ b, LiveB E' (puts σ (gains σ all o j cs).1) b → LiveB E σ b ∨ b ∈ F) ∧ AllA E' (puts σ (gains σ all o j cs).1) (gains σ all o j cs).2 vs
  | [], vs, F, j, E, σ, hg, hA, _, _, _ => by
    cases hA
    exact ⟨E, hg, Mo.same (fun _ => rfl) (fun _ => rfl) (fun _ => rfl) (fun _ => rfl), rfl, fun _ _ => ⟨rfl, rfl⟩, fun b h => .inl h, trivial⟩
  | c :: cs, vs, F, j, E, σ, hg, hA, hall, hkid, hb => by
    rw [List.map_cons] at hA
    cases hA with
    | @cons _ v F1 _ vs' F2 h hs hd =>
      have hk1 : isHd c = true → kid o j ∈ kidsOf o j (c :: cs) := fun h => by simp [kidsOf, h]
      have hk2 : ∀ k, k ∈ kidsOf o (j + 1) cs → k ∈ kidsOf o j (c :: cs) := fun k h => by simp only [kidsOf]; split <;> simp [h]
      obtain ⟨E1, g1, g2, g3, g4, g5, g6⟩ := gain_ok hg all bs hall (kid o j) (kid_ne o j) c (fun h => hkid _ (hk1 h)) v F1 h (fun b h => hb b (List.mem_append_left _ h))
      obtain ⟨E', f1, f2, f3, f4, f5, f6⟩ := gains_ok all bs o cs vs' F2 (j + 1) E1 _ g1 (by rw [g3]; exact hs) (fun ob o' b h1 h2 => by
          rw [(g4 o' (fun hh e => hkid _ (hk1 hh) (e ▸ List.mem_of_getElem? h1))).1]; exact hall ob o' b h1 h2) (fun k hk => hkid k (hk2 k hk))
        (fun b h => ⟨(hb b (List.mem_append_right _ h)).1, fun hL => by
          rcases g5 b hL with h1 | h1
          · exact (hb b (List.mem_append_right _ h)).2 h1
          · exact hd b h1 h⟩)
      have e0 : puts σ (gains σ all o j (c :: cs)).1 = puts (puts σ (gainW σ all (kid o j) c)) (gains (puts σ (gainW σ all (kid o j) c)) all o (j + 1) cs).1 := by simp only [gains, puts_append]
      rw [e0]
      refine ⟨E', f1, g2.trans f2, f3.trans g3, fun o' ho => ?_, fun b hL => ?_, (g6.toA).mo f2, f6⟩
      · have h1 := f4 o' (fun h => ho (hk2 _ h))
        have h2 := g4 o' (fun hh e => ho (e ▸ hk1 hh))
        exact ⟨h1.1.trans h2.1, h1.2.trans h2.2⟩
      · rcases f5 b hL with h1 | h1
        · exact (g5 b h1).imp id fun h => List.mem_append_left _ h
        · exact .inr (List.mem_append_right _ h1)
theorem gains_out (all : List Id) (o : Id) : ∀ (cs : List CA) (σ : St) (j : Nat) (l : Pl), (∀ k, l ≠ .q k) → (∀ k, l ≠ .k k) → (∀ k, l ≠ .h k) → (∀ k, l ≠ .l k) → (∀ k, l ≠ .r k) → (∀ k ∈ kidsOf o j cs, l ≠ .g k ∧ l ≠ .o k) → puts σ (gains σ all o j cs).1 l = σ l
  | [], _, _, _, _, _, _, _, _, _ => rfl
  | c :: cs, σ, j, l, h1, h2, h3, h4, h5, h6 => by
    have hk2 : ∀ k, k ∈ kidsOf o (j + 1) cs → k ∈ kidsOf o j (c :: cs) := fun k h => by simp only [kidsOf]; split <;> simp [h]
    simp only [gains, puts_append]
    rw [gains_out all o cs _ (j + 1) l h1 h2 h3 h4 h5 (fun k hk => h6 k (hk2 k hk))]
    have hk1 : isHd c = true → kid o j ∈ kidsOf o j (c :: cs) := fun h => by simp [kidsOf, h]
    have ht : ∀ x, isHd c = true → puts σ (treeW σ (kid o j) x) l = σ l := fun x hh => by
      obtain ⟨q1, q2⟩ := h6 _ (hk1 hh)
      simp [treeW, puts, put, h3, h4, h5, q1, q2]
    cases c with
    | val => rfl
    | own => simp [gainW, puts, put, h1, h2]
    | hd x => exact ht x rfl
    | hdl x i ob =>
      simp only [gainW, puts_append]
      have : ∀ s : St, puts s (lentW σ all (kid o j) i ob) l = s l := fun s => by unfold lentW; split <;> simp [puts, put, h4]
      rw [this]; exact ht x rfl
theorem objGain_ok (hg : Gm C E σ a w) (all : List Id) (bs : List Nat) (hall : ∀ (ob : Nat) (o' : Id) (b : Nat), all[ob]? = some o' → bs[ob]? = some b → E.loc o' = b) (o : Id) (G' b : Nat) (hgg : (G' = gg σ o ∧ E.loc o = b) ∨ (gg σ o < G' ∧ C.pins o = none ∧ o.2 = 0)) (ty : TypeId) (cs : List CA) (vs : List Value) (F : List Nat)
    (hkid : ∀ k ∈ kidsOf o 0 cs, k ∉ all ∧ k ≠ o) (hblk : w.heap[b]? = some (.cells vs.toArray ty (0, 0))) (hm0 : ∀ i, E.m b i = none) (hA : ArgsOk E.m w bs (cs.map .ca) vs F) (hn : b ∉ F) (hb : ∀ i ∈ b :: F, (C.D i ∨ C.w0.heap.size ≤ i) ∧ ¬ LiveB E σ i) :
    ∃ E', Gm C E' (puts σ (objGain σ all o G' cs)) a w ∧ Mo E σ E' (puts σ (objGain σ all o G' cs)) ∧ E'.m = E.m ∧ (∀ o', o' ∉ kidsOf o 0 cs → o' ≠ o → E'.loc o' = E.loc o' ∧ gg (puts σ (objGain σ all o G' cs)) o' = gg σ o') ∧ E'.loc o = b ∧ gg (puts σ (objGain σ all o G' cs)) o = G' ∧
      (∀ b', LiveB E' (puts σ (objGain σ all o G' cs)) b' → LiveB E σ b' ∨ b' ∈ b :: F) ∧ ∀ off, RdA E' (puts σ (objGain σ all o G' cs)) (.ptr o G' off) (.pointer (some ⟨b, off, none⟩)) := by
  obtain ⟨E1, g1, g2, g3, g4, g5, g6⟩ := gains_ok all bs o cs vs F 0 E σ hg hA hall (fun k hk => (hkid k hk).1) (fun i hi => hb i (List.mem_cons_of_mem _ hi))
  have hlen := gains_length all o cs σ 0
  have e0 : puts σ (objGain σ all o G' cs) = puts (puts σ (gains σ all o 0 cs).1) (objW o G' (gains σ all o 0 cs).2.length (gains σ all o 0 cs).2) := by
    unfold objGain; rw [puts_append, hlen]
  obtain ⟨hl6, hr6⟩ := g6.get
  have hno : o ∉ kidsOf o 0 cs := fun h => (hkid o h).2 rfl
  obtain ⟨q1, q2⟩ := g4 o hno
  obtain ⟨E', h1, h2, h3, h4, h5, h6⟩ := g1.gainObj o G' b (by rw [q2, q1]; exact hgg) ty vs (gains σ all o 0 cs).2 hl6 hblk (fun i => by rw [g3]; exact hm0 i) (hb b (by simp)).1
    (fun hL => by
      rcases g5 b hL with h | h
      · exact (hb b (by simp)).2 h
      · exact hn h) (fun i hi => hr6 i hi (by omega))
  have hgo : ∀ (s : St) (o' : Id), gg (puts s (objW o G' (gains σ all o 0 cs).2.length (gains σ all o 0 cs).2)) o' = if o' = o then G' else gg s o' := fun s o' => by
    have e1 : puts s (objW o G' (gains σ all o 0 cs).2.length (gains σ all o 0 cs).2) (.g o') = if o' = o then .num G' else s (.g o') := by
      show puts (put (put s (.g o) (.num G')) (.o o) _) (cellsW o 0 _) (.g o') = _
      rw [cellsW_other _ _ _ _ _ (by simp), put_ne _ _ (by simp)]
      by_cases e : o' = o
      · subst e; simp [put]
      · simp [put, e]
    by_cases e : o' = o
    · rw [if_pos e] at e1 ⊢; exact gg_num e1
    · rw [if_neg e] at e1 ⊢; exact gg_of e1
  rw [e0]
  refine ⟨E', h1, g2.trans h2, h3.trans g3, fun o' ho hne => ⟨by rw [h4 o' hne, (g4 o' ho).1], by rw [hgo, if_neg hne, (g4 o' ho).2]⟩, ?_, by rw [hgo, if_pos rfl], fun b' hb' => ?_, h6⟩
  · have := (h6 0).2 (by rw [hgo, if_pos rfl])
    injection this with this; injection this with this; injection this with this
    exact this.symm
  · rcases h5 b' hb' with h | h
    · exact (g5 b' h).imp id fun h => List.mem_cons_of_mem _ h
    · exact .inr (by rw [h]; exact List.mem_cons_self ..)

theorem objsW_ok (all : List Id) (bs : List Nat) : ∀ (ids : List Id) (objs : List (List CA)) (bs' G : List Nat) (E : Env) (σ : St), Gm C E σ a w → ObjsOk E.m w bs bs' objs G → ids.length = objs.length → ids.Nodup → (∀ o ∈ ids, o ∈ all) →
    (∀ (ob : Nat) (o' : Id) (b : Nat), all[ob]? = some o' → bs[ob]? = some b → E.loc o' = b) → (∀ (i : Nat) (o : Id) (b : Nat), ids[i]? = some o → bs'[i]? = some b → E.loc o = b) → (∀ k ∈ kidsAll ids objs, k ∉ all) →
    (∀ b ∈ G, (C.D b ∨ C.w0.heap.size ≤ b) ∧ ¬ LiveB E σ b) →
    ∃ E', Gm C E' (puts σ (objsW all σ ids objs)) a w ∧ Mo E σ E' (puts σ (objsW all σ ids objs)) ∧ E'.m = E.m ∧ (∀ o' ∈ all, E'.loc o' = E.loc o' ∧ gg (puts σ (objsW all σ ids objs)) o' = gg σ o') ∧
      (∀ b', LiveB E' (puts σ (objsW all σ ids objs)) b' → LiveB E σ b' ∨ b' ∈ G)
  | [], objs, bs', G, E, σ, hg, hO, hl, _, _, _, _, _, _ => by
    have : objs = [] := List.eq_nil_of_length_eq_zero hl.symm
    subst this
    cases hO
    exact ⟨E, by simpa [objsW, puts] using hg, Mo.same (fun _ => rfl) (fun _ => rfl) (fun _ => rfl) (fun _ => rfl), rfl, fun _ _ => ⟨rfl, rfl⟩, fun b h => .inl h⟩
  | o :: ids, objs, bs', G, E, σ, hg, hO, hl, hn, hin, hall, hloc, hkid, hb => by
    cases hO with
    | nil => simp at hl
    | @cons b cs vs ty F bs1 objs F' hblk hm0 hA hnb hs hd =>
      have hbo : E.loc o = b := hloc 0 o b rfl rfl
      have hoa : o ∈ all := hin o (by simp)
      have hk0 : ∀ k ∈ kidsOf o 0 cs, k ∉ all ∧ k ≠ o := fun k hk => by
        have := hkid k (by simp [kidsAll, hk])
        exact ⟨this, fun e => this (e ▸ hoa)⟩
      obtain ⟨E1, g1, g2, g3, g4, g5, g6, g7, g8⟩ := objGain_ok hg all bs hall o (gg σ o) b (.inl ⟨rfl, hbo⟩) ty cs vs F hk0 hblk hm0 hA hnb (fun i hi => hb i (List.mem_append_left _ hi))
      have hsame : ∀ o' ∈ all, E1.loc o' = E.loc o' ∧ gg (puts σ (objGain σ all o (gg σ o) cs)) o' = gg σ o' := fun o' ho' => by
        by_cases e : o' = o
        · subst e; exact ⟨by rw [g5, hbo], g6⟩
        · exact g4 o' (fun h => (hk0 o' h).1 ho') e
      obtain ⟨E', f1, f2, f3, f4, f5⟩ := objsW_ok all bs ids objs bs1 F' E1 _ g1 (by rw [g3]; exact hs) (by simpa using hl) (List.nodup_cons.1 hn).2 (fun o' h => hin o' (List.mem_cons_of_mem _ h))
        (fun ob o' b' h1 h2 => by rw [(hsame o' (List.mem_of_getElem? h1)).1]; exact hall ob o' b' h1 h2)
        (fun i o' b' h1 h2 => by rw [(hsame o' (hin o' (List.mem_cons_of_mem _ (List.mem_of_getElem? h1)))).1]; exact hloc (i + 1) o' b' (by simpa using h1) (by simpa using h2))
        (fun k hk => hkid k (by simp [kidsAll, hk]))
        (fun i hi => ⟨(hb i (List.mem_append_right _ hi)).1, fun hL => by
          rcases g7 i hL with h | h
          · exact (hb i (List.mem_append_right _ hi)).2 h
          · exact hd i h hi⟩)
      have e0 : puts σ (objsW all σ (o :: ids) (cs :: objs)) = puts (puts σ (objGain σ all o (gg σ o) cs)) (objsW all (puts σ (objGain σ all o (gg σ o) cs)) ids objs) := by simp only [objsW, puts_append]
      rw [e0]
      refine ⟨E', f1, g2.trans f2, f3.trans g3, fun o' ho' => ⟨(f4 o' ho').1.trans (hsame o' ho').1, (f4 o' ho').2.trans (hsame o' ho').2⟩, fun b' hL => ?_⟩
      rcases f5 b' hL with h | h
      · rcases g7 b' h with h | h
        · exact .inl h
        · exact .inr (List.mem_append_left _ h)
      · exact .inr (List.mem_append_right _ h)

/-! ### What is handed to a call -/
theorem own_ca (hg : Gm C E σ a w) (bs : List Nat) {k : Id} {g : Nat} {e : TypeId} {sz : Nat} {es : List (List V)} {v : Value} (h : RdA E σ (.own k g e sz es) v) (hq : gq σ k = g) (hk : σ (.k k) = .row e sz es.length) : CAok E.m w bs (.own e sz es) v v.ownBlock.toList ∧ ∀ b ∈ v.ownBlock.toList, HoB E σ (.k k) b := by
  obtain ⟨h1, h2⟩ := h
  obtain ⟨_, _, h3⟩ := (h2.2 hq.symm e sz es.length hk).2 rfl
  obtain ⟨h4, h5⟩ := hg.ro k e sz es.length hk
  subst h3
  exact ⟨⟨⟨h1, E.rx k, h4, fun b hb => (h5 b hb).1⟩, rfl⟩, fun b hb => ⟨e, sz, es.length, hk, by simpa using hb⟩⟩
theorem nown_ca (e : TypeId) (sz : Nat) (bs : List Nat) {m : Mem} {v : Value} (h : Rd m (.sc (.slice none 0 0)) v) : CAok m w bs (.own e sz []) v [] := by
  have := Rd.sc_eq h
  subst this
  exact ⟨⟨Rd.nil0 sz, [], World.ownsRow_nil _ _ _ _, fun b hb => by cases hb⟩, rfl⟩
theorem margs_ok (hg : Gm C E σ a w) {ids : List Id} {xs : List AV} {args : List Arg} {ts : List Ho} (h : MArgs σ ids xs args ts) : ∀ (vs : List Value), AllA E σ xs vs → ts.Nodup → ∃ F, ArgsOk E.m w (ids.map E.loc) args vs F ∧ ∀ b ∈ F, ∃ t ∈ ts, HoB E σ t b := by
  have skip : ∀ {a : Arg} {v : Value} {as' : List Arg} {vs : List Value} {ts : List Ho}, ArgOk E.m w (ids.map E.loc) a v [] → (∃ F, ArgsOk E.m w (ids.map E.loc) as' vs F ∧ ∀ b ∈ F, ∃ t ∈ ts, HoB E σ t b) → ∃ F, ArgsOk E.m w (ids.map E.loc) (a :: as') (v :: vs) F ∧ ∀ b ∈ F, ∃ t ∈ ts, HoB E σ t b := by
    intro a v as' vs ts h1 ⟨F, h2, h3⟩
    exact ⟨[] ++ F, .cons h1 h2 (fun b h => by cases h), h3⟩
  have take : ∀ {a : Arg} {v : Value} {as' : List Arg} {vs : List Value} {t : Ho} {ts : List Ho} {F0 : List Nat}, ArgOk E.m w (ids.map E.loc) a v F0 → (∀ b ∈ F0, HoB E σ t b) → t ∉ ts → (∃ F, ArgsOk E.m w (ids.map E.loc) as' vs F ∧ ∀ b ∈ F, ∃ t ∈ ts, HoB E σ t b) →
      ∃ F, ArgsOk E.m w (ids.map E.loc) (a :: as') (v :: vs) F ∧ ∀ b ∈ F, ∃ t' ∈ t :: ts, HoB E σ t' b := by
    intro a v as' vs t ts F0 h1 h0 hn ⟨F, h2, h3⟩
    refine ⟨F0 ++ F, .cons h1 h2 (fun b hb hb' => ?_), fun b hb => ?_⟩
    · obtain ⟨t', ht', hh⟩ := h3 b hb'
      have := hg.ho_inj (h0 b hb) hh
      subst this
      exact hn ht'
    · rcases List.mem_append.1 hb with hb | hb
      · exact ⟨t, by simp, h0 b hb⟩
      · obtain ⟨t', ht', hh⟩ := h3 b hb
        exact ⟨t', List.mem_cons_of_mem _ ht', hh⟩
  induction h with
  | nil =>
    intro vs hv _
    cases vs with
    | nil => exact ⟨[], .nil, fun b h => by cases h⟩
    | cons => exact hv.elim
  | val hs _ ih =>
    intro vs hv hn
    match vs, hv with
    | v :: vs, hv => exact skip ⟨hs _ _ (plain_ok hv.1), rfl⟩ (ih vs hv.2 hn)
  | own hq hk _ ih =>
    intro vs hv hn
    match vs, hv with
    | v :: vs, hv =>
      obtain ⟨o1, o2⟩ := own_ca hg (ids.map E.loc) hv.1 hq hk
      exact take o1 o2 (List.nodup_cons.1 hn).1 (ih vs hv.2 (List.nodup_cons.1 hn).2)
  | @nown e sz _ _ _ _ ih =>
    intro vs hv hn
    match vs, hv with
    | v :: vs, hv => exact skip (nown_ca e sz (ids.map E.loc) hv.1) (ih vs hv.2 hn)
  | @ptr o g off i xs ys ts hi hgo _ ih =>
    intro vs hv hn
    match vs, hv with
    | v :: vs, hv => exact skip ⟨⟨E.loc o, by simp [hi], hv.1.2 hgo.symm⟩, rfl⟩ (ih vs hv.2 hn)
  | fn h _ ih =>
    intro vs hv hn
    match vs, hv with
    | v :: vs, hv =>
      obtain ⟨us, h1, h2, h3⟩ := hv.1
      obtain ⟨h4, h5⟩ := mFCs_ok (E := E) rfl h h2 h3
      exact skip ⟨⟨us, h1, by omega, h5⟩, rfl⟩ (ih vs hv.2 hn)
  | fn0 _ ih =>
    intro vs hv hn
    match vs, hv with
    | v :: vs, hv => exact skip ⟨⟨[], Rd.sc_eq hv.1, rfl, fun i c y h => by simp at h⟩, rfl⟩ (ih vs hv.2 hn)
  | @hd k g x xs ys ts hh hk _ ih =>
    intro vs hv hn
    match vs, hv with
    | v :: vs, hv =>
      obtain ⟨h1, h2⟩ := hg.tr.hg k x hk
      have := hv.1.2 hh.symm
      subst this
      exact take (F0 := E.bf k) ⟨h1, h2⟩ (fun b hb => ⟨x, hk, hb⟩) (List.nodup_cons.1 hn).1 (ih vs hv.2 (List.nodup_cons.1 hn).2)
  | @hdb k g us xs ys ts hh hk _ ih =>
    intro vs hv hn
    match vs, hv with
    | v :: vs, hv =>
      obtain ⟨h1, h2⟩ := hg.tr.hg k _ hk
      have := hv.1.2 hh.symm
      rw [← (hg.tr.bx k us hk).1] at this
      subst this
      exact take (F0 := E.bf k) ⟨h1, h2⟩ (fun b hb => ⟨_, hk, hb⟩) (List.nodup_cons.1 hn).1 (ih vs hv.2 (List.nodup_cons.1 hn).2)
  | @nhw e sz xs ys ts _ ih =>
    intro vs hv hn
    match vs, hv with
    | v :: vs, hv =>
      have := Rd.sc_eq hv.1
      subst this
      exact skip ⟨.rw (us := []) (F' := []) (World.ownsRow_nil _ _ _ _) (fun r h => by cases h) ⟨rfl, fun i h => by simp at h⟩ (fun b h => by cases h) .nil, fun y h => by cases h⟩ (ih vs hv.2 hn)
  | @nhd e sz xs ys ts _ ih =>
    intro vs hv hn
    match vs, hv with
    | v :: vs, hv =>
      have := Rd.sc_eq hv.1
      subst this
      exact skip ⟨.row (us := []) (F := []) (F' := []) (World.ownsRow_nil _ _ _ _) (fun r h => by cases h) (fun b h => by cases h) .nil .nil (fun i h => by cases h), fun y h => by cases h⟩ (ih vs hv.2 hn)
  | @hdl k g x i o g' ob xs ys ts hh hk hl hi hgo _ ih =>
    intro vs hv hn
    match vs, hv with
    | v :: vs, hv =>
      obtain ⟨h1, h2⟩ := hg.tr.hg k x hk
      have := hv.1.2 hh.symm
      subst this
      obtain ⟨u, hu, hr⟩ := hg.tr.le k x i _ hk hl
      have := hr.2 hgo.symm
      subst this
      exact take (F0 := E.bf k) ⟨⟨h1, h2⟩, E.loc o, by simp [hi], hu⟩ (fun b hb => ⟨x, hk, hb⟩) (List.nodup_cons.1 hn).1 (ih vs hv.2 (List.nodup_cons.1 hn).2)
end
end Go.Proofs.YtojcjbaimdjhoaaGreatDoor
