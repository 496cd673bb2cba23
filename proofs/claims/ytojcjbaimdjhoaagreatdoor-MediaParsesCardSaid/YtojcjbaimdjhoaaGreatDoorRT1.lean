
/- What is owned whole is turned. -/
import Derived.Test.YtojcjbaimdjhoaaGreatDoorRB
namespace Go.Proofs.YtojcjbaimdjhoaaGreatDoor
open Go.RowKit
set_option linter.unusedVariables false
set_option linter.unusedSimpArgs false

section
variable {P : Program} {ops : Array Oper} {C : Ctx} {E : Env} {σ : St} {a : Act} {w : World}
/-- What is owned whole is another one; all else is as it was. -/
theorem Gm.turnTree (h : Gm C E σ a w) (k : Id) (x x' : T) (v' : Value) (F' : List Nat) (w' : World) (σ' : St) (hx : σ (.r k) = .tree x) (ha : ∀ y, x' ≠ .av y) (hbx : ∀ ys, x' ≠ .box ys) (hh : Hg E.m w' [x'] [v'] F') (hF : ∀ b ∈ F', b ∈ E.bf k ∨ w.heap.size ≤ b)
    (hc : Chg (fun b => b ∈ E.bf k) w w') (qr : ∀ k', σ' (.r k') = if k' = k then .tree x' else σ (.r k')) (ql : ∀ k', k' ≠ k → σ' (.l k') = σ (.l k')) (hlk : ∀ i y, σ' (.l k) = .lent i y → ∃ v, slotAt w' v' i = some v ∧ RdA E σ y v)
    (qo : ∀ o, σ' (.o o) = σ (.o o)) (qg : ∀ k', k' ≠ k → σ' (.g k') = σ (.g k')) (qgk : gg σ k < gg σ' k) (qh : ∀ k', k' ≠ k → σ' (.h k') = σ (.h k')) (qhk : gh σ k < gh σ' k ∨ (gh σ' k = gh σ k ∧ v' = E.bv k)) (qs : ∀ t, σ' (.s t) = σ (.s t)) (qc : ∀ o i, σ' (.c o i) = σ (.c o i)) (qk : ∀ k', σ' (.k k') = σ (.k k')) (qq : ∀ k', σ' (.q k') = σ (.q k')) :
    ∃ E', Gm C E' σ' a w' ∧ Mo E σ E' σ' ∧ E'.m = E.m ∧ E'.bv k = v' ∧ (∀ k', k' ≠ k → E'.bv k' = E.bv k') := by
  have ht := h.tr
  obtain ⟨hgk, _⟩ := ht.hg k x hx
  have hmem := hgk.mem
  obtain ⟨E', hE'⟩ : ∃ E' : Env, E' = { E with bv := fun k' => if k' = k then v' else E.bv k', bf := fun k' => if k' = k then F' else E.bf k' } := ⟨_, rfl⟩
  have em : E'.m = E.m := by rw [hE']
  have eloc : E'.loc = E.loc := by rw [hE']
  have erv : E'.rv = E.rv := by rw [hE']
  have erx : E'.rx = E.rx := by rw [hE']
  have ebv : ∀ k', E'.bv k' = if k' = k then v' else E.bv k' := by intro k'; rw [hE']
  have ebf : ∀ k', E'.bf k' = if k' = k then F' else E.bf k' := by intro k'; rw [hE']
  clear hE'
  -- places beside
  have hmo : Mo E σ E' σ' := by
    refine ⟨by rw [em]; exact Mem.le_refl _, fun o => ?_, fun q => ⟨Nat.le_of_eq (gq_of (qq q)).symm, fun _ e sz T h2 => ⟨T, by rw [← qk]; exact h2, Nat.le_refl _, fun _ => by rw [erv]⟩⟩, fun q => ?_⟩
    · refine ⟨?_, fun _ => by rw [eloc]⟩
      by_cases e : o = k
      · subst e; omega
      · exact Nat.le_of_eq (gg_of (qg o e)).symm
    · by_cases e : q = k
      · subst e
        rcases qhk with q1 | ⟨q1, q2⟩
        · exact ⟨by omega, fun he => absurd he (by omega)⟩
        · exact ⟨by omega, fun _ => by rw [ebv, if_pos rfl, q2]⟩
      · exact ⟨Nat.le_of_eq (gh_of (qh q e)).symm, fun _ => by rw [ebv, if_neg e]⟩
  have hkeep : ∀ b, b < w.heap.size → b ∉ E.bf k → w'.heap[b]? = w.heap[b]? := fun b h1 h2 => hc.block b h1 h2
  have hcell : ∀ b i, b < w.heap.size → b ∉ E.bf k → w'.cell? ⟨b, i, none⟩ = w.cell? ⟨b, i, none⟩ := fun b i h1 h2 => World.cell?_of_block (hkeep b h1 h2)
  have hobj : ∀ o n, σ (.o o) = .num n → E.loc o < w.heap.size ∧ E.loc o ∉ E.bf k := fun o n h1 => by
    obtain ⟨⟨c1, t1, h2, _⟩, _⟩ := h.ob o n h1
    exact ⟨(Array.getElem?_eq_some_iff.1 h2).1, ht.ot o n k x h1 hx⟩
  have hrow : ∀ k' e s T b, σ (.k k') = .row e s T → (E.rv k').ownBlock = some b → b < w.heap.size ∧ b ∉ E.bf k := fun k' e s T b h1 h2 =>
    ⟨((h.ro k' e s T h1).1.lt b h2).2, fun hb => ht.tk k' e s T k x b h1 hx hb h2⟩
  have htree : ∀ k' y b, k' ≠ k → σ (.r k') = .tree y → b ∈ E.bf k' → b < w.heap.size ∧ b ∉ E.bf k ∧ b ∉ F' := fun k' y b hne h1 h2 => by
    have hlt := ((ht.hg k' y h1).1.mem b h2).1
    have hnk : b ∉ E.bf k := fun hb => hne (ht.tt k' k y x b h1 hx h2 hb)
    exact ⟨hlt, hnk, fun hb => by rcases hF b hb with h3 | h3; exact hnk h3; omega⟩
  have hiter : ∀ b mb n bs l, w.heap[b]? = some (Obj.mapIter mb n bs l) → w'.heap[b]? = w.heap[b]? := fun b mb n bs l h1 =>
    hkeep b (Array.getElem?_eq_some_iff.1 h1).1 (fun hb => hgk.noIt b hb _ _ _ _ h1)
  refine ⟨E', ⟨h.sz, h.df, fun b i u hu => ?_, h.fr.step hc (fun i hi he => by rcases ht.dd k x i hx he with h1 | h1; exact h1; omega), fun t y h1 => (h.sl t y (by rw [← qs]; exact h1)).mo hmo, fun o i y n h1 h2 h3 => ?_, fun o n h1 => ?_, fun k' e s T h1 => ?_, fun o o' n n' h1 h2 h3 => ?_, fun k1 k2 e s T e' s' T' b h1 h2 h3 h4 => ?_, fun o n k' e s T h1 h2 => ?_, fun o b h1 => by rw [eloc]; exact h.pi o b h1, by rw [em]; exact h.ml, by rw [em]; exact h.mx,
    ⟨fun k' y h1 => ?_, fun k' y b h1 h2 => ?_, fun k' ys h1 => ?_, fun k1 k2 y1 y2 b h1 h2 h3 h4 => ?_, fun o n k' y h1 h2 h3 => ?_, fun k1 e s T k' y b h1 h2 h3 h4 => ?_, fun k' y i z h1 h2 => ?_, fun o k' g s h1 => ?_, fun o o' k1 g s k2 g' s' h1 h2 h3 => ?_⟩⟩, hmo, em, by rw [ebv, if_pos rfl], fun k' e => by rw [ebv, if_neg e]⟩
  · rw [em] at hu
    have h1 := h.ms b i u hu
    have hlt := World.block_lt_of_cell? w _ h1
    rw [hcell b i hlt (fun hb => by rw [(hmem b hb).2 i] at hu; cases hu)]
    exact h1
  · rw [qc] at h1
    rw [qo] at h2
    obtain ⟨u, hu, hr⟩ := h.ce o i y n h1 h2 h3
    obtain ⟨h4, h5⟩ := hobj o n h2
    exact ⟨u, by rw [eloc, hcell _ _ h4 h5]; exact hu, hr.mo hmo⟩
  · rw [qo] at h1
    obtain ⟨h4, h5⟩ := hobj o n h1
    rw [eloc, em, hkeep _ h4 h5]
    exact h.ob o n h1
  · rw [qk] at h1
    rw [erv, erx, em]
    obtain ⟨h2, h3⟩ := h.ro k' e s T h1
    exact ⟨own_heap h2 fun b hb => hkeep b (hrow k' e s T b h1 hb).1 (hrow k' e s T b h1 hb).2, h3⟩
  · rw [qo] at h1 h2
    rw [eloc] at h3
    exact h.oo o o' n n' h1 h2 h3
  · rw [qk] at h1 h2
    rw [erv] at h3 h4
    exact h.rr k1 k2 e s T e' s' T' b h1 h2 h3 h4
  · rw [qo] at h1
    rw [qk] at h2
    rw [erv, eloc]
    exact h.or o n k' e s T h1 h2
  · rw [qr] at h1
    rw [ebv, ebf, em]
    by_cases e : k' = k
    · rw [if_pos e] at h1 ⊢
      rw [if_pos e]
      cases h1
      exact ⟨hh, ha⟩
    · rw [if_neg e] at h1 ⊢
      rw [if_neg e]
      obtain ⟨h2, h3⟩ := ht.hg k' y h1
      exact ⟨h2.mono (Mem.le_refl _) fun b hb => ⟨hkeep b (htree k' y b e h1 hb).1 (htree k' y b e h1 hb).2.1, fun _ => rfl⟩, h3⟩
  · rw [ebf] at h2
    rw [qr] at h1
    by_cases e : k' = k
    · rw [if_pos e] at h2
      rcases hF b h2 with h3 | h3
      · exact ht.dd k x b hx h3
      · have := h.fr.size; exact .inr (by omega)
    · rw [if_neg e] at h1 h2
      exact ht.dd k' y b h1 h2
  · rw [qr] at h1
    by_cases e : k' = k
    · rw [if_pos e] at h1; cases h1; exact absurd rfl (hbx ys)
    · rw [if_neg e] at h1
      rw [ebv, if_neg e, eloc]
      exact ht.bx k' ys h1
  · rw [qr] at h1 h2
    rw [ebf] at h3 h4
    by_cases e1 : k1 = k
    · by_cases e2 : k2 = k
      · rw [e1, e2]
      · rw [if_pos e1] at h3
        rw [if_neg e2] at h2 h4
        exact absurd h3 (htree k2 y2 b e2 h2 h4).2.2
    · rw [if_neg e1] at h1 h3
      by_cases e2 : k2 = k
      · rw [if_pos e2] at h4
        exact absurd h4 (htree k1 y1 b e1 h1 h3).2.2
      · rw [if_neg e2] at h2 h4
        exact ht.tt k1 k2 y1 y2 b h1 h2 h3 h4
  · rw [qo] at h1
    rw [qr] at h2
    rw [eloc, ebf] at h3
    by_cases e : k' = k
    · rw [if_pos e] at h3
      obtain ⟨h4, h5⟩ := hobj o n h1
      rcases hF _ h3 with h6 | h6
      · exact h5 h6
      · omega
    · rw [if_neg e] at h2 h3
      exact ht.ot o n k' y h1 h2 h3
  · rw [qk] at h1
    rw [qr] at h2
    rw [ebf] at h3
    rw [erv] at h4
    by_cases e1 : k' = k
    · rw [if_pos e1] at h3
      obtain ⟨h5, h6⟩ := hrow k1 e s T b h1 h4
      rcases hF _ h3 with h7 | h7
      · exact h6 h7
      · omega
    · rw [if_neg e1] at h2 h3
      exact ht.tk k1 e s T k' y b h1 h2 h3 h4
  · rw [qr] at h1
    rw [ebv]
    by_cases e : k' = k
    · subst e
      rw [if_pos rfl]
      obtain ⟨u, h3, h4⟩ := hlk i z h2
      exact ⟨u, h3, h4.mo hmo⟩
    · rw [if_neg e] at h1 ⊢
      rw [ql k' e] at h2
      obtain ⟨u, h3, h4⟩ := ht.le k' y i z h1 h2
      refine ⟨u, ?_, h4.mo hmo⟩
      rw [slotAt_of (fun b hb => ?_)]
      · exact h3
      · have := (ht.hg k' y h1).1.head (ht.hg k' y h1).2 b hb
        exact hkeep b (htree k' y b e h1 this).1 (htree k' y b e h1 this).2.1
  · rw [qo] at h1
    obtain ⟨mb, n, bs, l, h3, h4, h5, h6⟩ := ht.it o k' g s h1
    have hgl := (hmo.g k').1
    refine ⟨mb, n, bs, l, by rw [eloc, hiter _ _ _ _ _ h3]; exact h3, by rw [eloc]; exact h4, by omega, fun he y hy => ?_⟩
    by_cases e : k' = k
    · subst e; omega
    · rw [qr, if_neg e] at hy
      rcases h6 (by have := gg_of (qg k' e); omega) y hy with ⟨q1, q2⟩ | ⟨r, ents, clock, q1, q2, q3, q4⟩
      · exact .inl ⟨q1, by rw [ebv, if_neg e]; exact q2⟩
      · have := (ht.hg k' y hy).1.head (ht.hg k' y hy).2 r (.inr q2)
        exact .inr ⟨r, ents, clock, q1, by rw [ebv, if_neg e]; exact q2, by rw [hkeep r (htree k' y r e hy this).1 (htree k' y r e hy this).2.1]; exact q3, q4⟩
  · rw [qo] at h1 h2
    rw [eloc] at h3
    exact ht.ii o o' k1 g s k2 g' s' h1 h2 h3

/-- Another one in the same place. -/
def setTW (σ : St) (k : Id) (x : T) : List (Pl × X) := [(.g k, .num (gg σ k + 1)), (.r k, .tree x)]
/-- Another one. -/
def newTW (σ : St) (k : Id) (x : T) : List (Pl × X) := [(.g k, .num (gg σ k + 1)), (.h k, .num (gh σ k + 1)), (.l k, .non), (.r k, .tree x)]
/-- Not an object. -/
theorem Gm.setT (h : Gm C E σ a w) (k : Id) (x x' : T) (F' : List Nat) (w' : World) (hx : σ (.r k) = .tree x) (hb : ∀ ys, x ≠ .box ys) (ha : ∀ y, x' ≠ .av y) (hbx : ∀ ys, x' ≠ .box ys) (hh : Hg E.m w' [x'] [E.bv k] F') (hF : ∀ b ∈ F', b ∈ E.bf k ∨ w.heap.size ≤ b)
    (hc : Chg (fun b => b ∈ E.bf k) w w') (hl : ∀ i y, σ (.l k) = .lent i y → slotAt w' (E.bv k) i = slotAt w (E.bv k) i) :
    ∃ E', Gm C E' (puts σ (setTW σ k x')) a w' ∧ Mo E σ E' (puts σ (setTW σ k x')) ∧ E'.m = E.m ∧ E'.bv k = E.bv k := by
  have q : ∀ l, puts σ (setTW σ k x') l = if l = .r k then .tree x' else if l = .g k then .num (gg σ k + 1) else σ l := fun l => by
    show put (put σ (.g k) _) (.r k) _ l = _
    unfold put; rfl
  have qg : gg (puts σ (setTW σ k x')) k = gg σ k + 1 := gg_num (by rw [q]; simp)
  obtain ⟨E', g1, g2, g3, g4, _⟩ := h.turnTree k x x' (E.bv k) F' w' (puts σ (setTW σ k x')) hx ha hbx hh hF hc (fun k' => by rw [q]; simp) (fun k' e => by rw [q]; simp) (fun i y h1 => by
      rw [q] at h1
      simp at h1
      obtain ⟨v, h2, h3⟩ := h.tr.le k x i y hx h1
      exact ⟨v, by rw [hl i y h1]; exact h2, h3⟩) (fun o => by rw [q]; simp) (fun k' e => by rw [q]; simp [e]) (by omega) (fun k' e => by rw [q]; simp) (.inr ⟨gh_of (by rw [q]; simp), rfl⟩) (fun t => by rw [q]; simp) (fun o i => by rw [q]; simp) (fun k' => by rw [q]; simp) (fun k' => by rw [q]; simp)
  exact ⟨E', g1, g2, g3, g4⟩
theorem Gm.newT (h : Gm C E σ a w) (k : Id) (x x' : T) (v' : Value) (F' : List Nat) (w' : World) (hx : σ (.r k) = .tree x) (ha : ∀ y, x' ≠ .av y) (hbx : ∀ ys, x' ≠ .box ys) (hh : Hg E.m w' [x'] [v'] F') (hF : ∀ b ∈ F', b ∈ E.bf k ∨ w.heap.size ≤ b)
    (hc : Chg (fun b => b ∈ E.bf k) w w') :
    ∃ E', Gm C E' (puts σ (newTW σ k x')) a w' ∧ Mo E σ E' (puts σ (newTW σ k x')) ∧ E'.m = E.m ∧ RdA E' (puts σ (newTW σ k x')) (.ref k (gh σ k + 1)) v' := by
  have q : ∀ l, puts σ (newTW σ k x') l = if l = .r k then .tree x' else if l = .l k then .non else if l = .h k then .num (gh σ k + 1) else if l = .g k then .num (gg σ k + 1) else σ l := fun l => by
    show put (put (put (put σ (.g k) _) (.h k) _) (.l k) _) (.r k) _ l = _
    unfold put; rfl
  have qh : gh (puts σ (newTW σ k x')) k = gh σ k + 1 := gh_num (by rw [q]; simp)
  have qg : gg (puts σ (newTW σ k x')) k = gg σ k + 1 := gg_num (by rw [q]; simp)
  obtain ⟨E', g1, g2, g3, g4, _⟩ := h.turnTree k x x' v' F' w' (puts σ (newTW σ k x')) hx ha hbx hh hF hc (fun k' => by rw [q]; simp) (fun k' e => by rw [q]; simp [e]) (fun i y h1 => by
      rw [q] at h1; simp at h1) (fun o => by rw [q]; simp) (fun k' e => by rw [q]; simp [e]) (by omega) (fun k' e => by rw [q]; simp [e]) (.inl (by omega)) (fun t => by rw [q]; simp) (fun o i => by rw [q]; simp) (fun k' => by rw [q]; simp) (fun k' => by rw [q]; simp)
  exact ⟨E', g1, g2, g3, ⟨by omega, fun _ => g4.symm⟩⟩
end
end Go.Proofs.YtojcjbaimdjhoaaGreatDoor
