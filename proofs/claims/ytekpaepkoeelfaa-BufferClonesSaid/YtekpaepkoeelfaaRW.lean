
/- A map of rows that is gone through: a row is taken out, and given back, while the iterator stays. -/
import Derived.Test.YtekpaepkoeelfaaRV
namespace Go.Proofs.Ytekpaepkoeelfaa
open Go.RowKit
set_option linter.unusedVariables false
set_option linter.unusedSimpArgs false

section
variable {P : Program} {ops : Array Oper} {C : Ctx} {E : Env} {σ : St} {a : Act} {w : World}
/-- What is owned is seen otherwise: the same value, other blocks; iterators stay. -/
theorem Gm.retree (h : Gm C E σ a w) (k : Id) (x x' : T) (F' : List Nat) (hx : σ (.r k) = .tree x) (hb : ∀ ys, x ≠ .box ys) (ha : ∀ y, x' ≠ .av y) (hbx : ∀ ys, x' ≠ .box ys) (hh : Hg E.m w [x'] [E.bv k] F') (hF : ∀ b ∈ F', b ∈ E.bf k ∨ ((C.D b ∨ C.w0.heap.size ≤ b) ∧ ¬ LiveB E σ b)) :
    ∃ E', Gm C E' (put σ (.r k) (.tree x')) a w ∧ Mo E σ E' (put σ (.r k) (.tree x')) ∧ E'.m = E.m ∧ E'.bv = E.bv ∧ (∀ t b, HoB E' (put σ (.r k) (.tree x')) t b → (t ≠ .r k ∧ HoB E σ t b) ∨ (t = .r k ∧ b ∈ F')) := by
  obtain ⟨σ', hσ'⟩ : ∃ s, s = put σ (.r k) (.tree x') := ⟨_, rfl⟩
  rw [← hσ']
  have qr : ∀ k', σ' (.r k') = if k' = k then .tree x' else σ (.r k') := fun k' => by
    rw [hσ']
    by_cases e : k' = k
    · subst e; simp [put]
    · simp [put, e]
  have q : ∀ l, (∀ k', l ≠ .r k') → σ' l = σ l := fun l hl => by rw [hσ']; exact put_ne _ _ (hl k)
  have qs : ∀ t, σ' (.s t) = σ (.s t) := fun t => q _ (by simp)
  have qc : ∀ o i, σ' (.c o i) = σ (.c o i) := fun o i => q _ (by simp)
  have qo : ∀ o, σ' (.o o) = σ (.o o) := fun o => q _ (by simp)
  have qg : ∀ o, σ' (.g o) = σ (.g o) := fun o => q _ (by simp)
  have qk : ∀ o, σ' (.k o) = σ (.k o) := fun o => q _ (by simp)
  have qq : ∀ o, σ' (.q o) = σ (.q o) := fun o => q _ (by simp)
  have qh : ∀ o, σ' (.h o) = σ (.h o) := fun o => q _ (by simp)
  have ql : ∀ o, σ' (.l o) = σ (.l o) := fun o => q _ (by simp)
  clear q hσ'
  obtain ⟨E', hE'⟩ : ∃ E' : Env, E' = { E with bf := fun k' => if k' = k then F' else E.bf k' } := ⟨_, rfl⟩
  have em : E'.m = E.m := by rw [hE']
  have eloc : E'.loc = E.loc := by rw [hE']
  have erv : E'.rv = E.rv := by rw [hE']
  have erx : E'.rx = E.rx := by rw [hE']
  have ebv : E'.bv = E.bv := by rw [hE']
  have ebf : ∀ k', E'.bf k' = if k' = k then F' else E.bf k' := by intro k'; rw [hE']
  clear hE'
  have hmo : Mo E σ E' σ' := ⟨by rw [em]; exact Mem.le_refl _, fun o => ⟨Nat.le_of_eq (gg_of (qg o)).symm, fun _ => by rw [eloc]⟩, fun k' => ⟨Nat.le_of_eq (gq_of (qq k')).symm, fun _ e sz T h2 => ⟨T, by rw [← qk]; exact h2, Nat.le_refl _, fun _ => by rw [erv]⟩⟩, fun k' => ⟨Nat.le_of_eq (gh_of (qh k')).symm, fun _ => by rw [ebv]⟩⟩
  have ht := h.tr
  have hnl : ∀ t b, HoB E σ t b → t ≠ .r k → b ∉ F' := fun t b h1 h2 h3 => by
    rcases hF b h3 with h4 | h4
    · exact h2 (h.ho_inj h1 (t' := .r k) ⟨x, hx, h4⟩)
    · exact h4.2 ⟨t, h1⟩
  refine ⟨E', ⟨h.sz, h.df, by rw [em]; exact h.ms, h.fr, fun t y h1 => (h.sl t y (by rw [← qs]; exact h1)).mo hmo, fun o i y n h1 h2 h3 => ?_, fun o n h1 => ?_, fun k' e s T h1 => ?_, fun o o' n n' h1 h2 h3 => ?_, fun k1 k2 e s T e' s' T' b h1 h2 h3 h4 => ?_, fun o n k' e s T h1 h2 => ?_, fun o b h1 => by rw [eloc]; exact h.pi o b h1, by rw [em]; exact h.ml, by rw [em]; exact h.mx,
    ⟨fun k' y h1 => ?_, fun k' y b h1 h2 => ?_, fun k' ys h1 => ?_, fun k1 k2 y1 y2 b h1 h2 h3 h4 => ?_, fun o n k' y h1 h2 h3 => ?_, fun k1 e s T k' y b h1 h2 h3 h4 => ?_, fun k' y i z h1 h2 => ?_, fun o k' g s h1 => ?_, fun o o' k1 g s k2 g' s' h1 h2 h3 => ?_⟩⟩, hmo, em, ebv, fun t b ht' => ?_⟩
  · rw [qc] at h1
    rw [qo] at h2
    obtain ⟨u, hu, hr⟩ := h.ce o i y n h1 h2 h3
    exact ⟨u, by rw [eloc]; exact hu, hr.mo hmo⟩
  · rw [qo] at h1
    rw [eloc, em]
    exact h.ob o n h1
  · rw [qk] at h1
    rw [erv, erx, em]
    exact h.ro k' e s T h1
  · rw [qo] at h1 h2
    rw [eloc] at h3
    exact h.oo o o' n n' h1 h2 h3
  · rw [qk] at h1 h2
    rw [erv] at h3 h4
    exact h.rr k1 k2 e s T e' s' T' b h1 h2 h3 h4
  · rw [qo] at h1
    rw [qk] at h2
    rw [erv, eloc]
    exact h.or o n k' e s T h1 h2
  · rw [qr] at h1
    rw [ebv, ebf, em]
    by_cases e : k' = k
    · rw [if_pos e] at h1 ⊢
      cases h1
      rw [e]
      exact ⟨hh, ha⟩
    · rw [if_neg e] at h1 ⊢
      exact ht.hg k' y h1
  · rw [qr] at h1
    rw [ebf] at h2
    by_cases e : k' = k
    · rw [if_pos e] at h2
      rcases hF b h2 with h3 | h3
      · exact ht.dd k x b hx h3
      · exact h3.1
    · rw [if_neg e] at h1 h2
      exact ht.dd k' y b h1 h2
  · rw [qr] at h1
    rw [ebv, eloc]
    by_cases e : k' = k
    · rw [if_pos e] at h1
      cases h1
      exact absurd rfl (hbx ys)
    · rw [if_neg e] at h1
      exact ht.bx k' ys h1
  · rw [qr] at h1 h2
    rw [ebf] at h3 h4
    by_cases e1 : k1 = k
    · by_cases e2 : k2 = k
      · rw [e1, e2]
      · rw [if_pos e1] at h3
        rw [if_neg e2] at h2 h4
        exact absurd h3 (hnl (.r k2) b ⟨y2, h2, h4⟩ (fun e => e2 (by injection e)))
    · rw [if_neg e1] at h1 h3
      by_cases e2 : k2 = k
      · rw [if_pos e2] at h4
        exact absurd h4 (hnl (.r k1) b ⟨y1, h1, h3⟩ (fun e => e1 (by injection e)))
      · rw [if_neg e2] at h2 h4
        exact ht.tt k1 k2 y1 y2 b h1 h2 h3 h4
  · rw [qo] at h1
    rw [qr] at h2
    rw [eloc, ebf] at h3
    by_cases e : k' = k
    · rw [if_pos e] at h3
      exact hnl (.o o) _ ⟨n, h1, rfl⟩ (by simp) h3
    · rw [if_neg e] at h2 h3
      exact ht.ot o n k' y h1 h2 h3
  · rw [qk] at h1
    rw [qr] at h2
    rw [ebf] at h3
    rw [erv] at h4
    by_cases e1 : k' = k
    · rw [if_pos e1] at h3
      exact hnl (.k k1) b ⟨e, s, T, h1, h4⟩ (by simp) h3
    · rw [if_neg e1] at h2 h3
      exact ht.tk k1 e s T k' y b h1 h2 h3 h4
  · rw [qr] at h1
    rw [ql] at h2
    rw [ebv]
    by_cases e : k' = k
    · rw [e] at h2 ⊢
      obtain ⟨u, hu, hr⟩ := ht.le k x i z hx h2
      exact ⟨u, hu, hr.mo hmo⟩
    · rw [if_neg e] at h1
      obtain ⟨u, hu, hr⟩ := ht.le k' y i z h1 h2
      exact ⟨u, hu, hr.mo hmo⟩
  · rw [qo] at h1
    rw [eloc]
    obtain ⟨mb, n, bs, l, h3, h4, h5, h6⟩ := ht.it o k' g s h1
    refine ⟨mb, n, bs, l, h3, h4, by rw [gg_of (qg k')]; exact h5, fun he y hy => ?_⟩
    rw [gg_of (qg k')] at he
    by_cases e : k' = k
    · have := h6 he x (by rw [e]; exact hx)
      unfold ItRel at this ⊢
      rw [ebv]
      exact this
    · rw [qr, if_neg e] at hy
      have := h6 he y hy
      unfold ItRel at this ⊢
      rw [ebv]
      exact this
  · rw [qo] at h1 h2
    rw [eloc] at h3
    exact ht.ii o o' k1 g s k2 g' s' h1 h2 h3
  · cases t with
    | o i =>
      obtain ⟨n, h1, h2⟩ := ht'
      rw [qo] at h1
      rw [eloc] at h2
      exact .inl ⟨by simp, n, h1, h2⟩
    | k i =>
      obtain ⟨e, s, T, h1, h2⟩ := ht'
      rw [qk] at h1
      rw [erv] at h2
      exact .inl ⟨by simp, e, s, T, h1, h2⟩
    | r i =>
      obtain ⟨y, h1, h2⟩ := ht'
      rw [qr] at h1
      rw [ebf] at h2
      by_cases e : i = k
      · rw [if_pos e] at h2; rw [e]; exact .inr ⟨rfl, h2⟩
      · rw [if_neg e] at h1 h2; exact .inl ⟨fun e2 => e (by injection e2), y, h1, h2⟩
/-- A map's row is taken out; iterators stay. -/
def takI (σ : St) (id k2 : Id) (x y : T) (j : Nat) : List (Pl × X) := (.r id, .tree x) :: (treeW σ k2 y ++ [(.l id, .lent j (.ref k2 (gh σ k2 + 1)))])
theorem set_self {α : Type} {l : List α} {j : Nat} {x : α} (h : l[j]? = some x) : l.set j x = l := by
  apply List.ext_getElem?
  intro i
  rw [List.getElem?_set]
  split
  · rename_i e; subst e
    rw [h]
    have := (List.getElem?_eq_some_iff.1 h).1
    simp [this]
  · rfl
theorem Gm.takeI (hg : Gm C E σ a w) {id k2 : Id} (hne : id ≠ k2) (hk2 : k2.2 ≠ 0) {kvs : List (Value × T)} {j : Nat} {key : Value} {e : TypeId} {sz : Nat} {es : List (List V)} (hx : σ (.r id) = .tree (.mp kvs)) (hj : kvs[j]? = some (key, .rw e sz es)) :
    ∃ v E', Gm C E' (puts σ (takI σ id k2 (.mp (kvs.set j (key, .av (.sc v)))) (.rw e sz es) j)) a w := by
  obtain ⟨hgg, _⟩ := hg.tr.hg id _ hx
  obtain ⟨b, ents, clock, F1, h1, h2, h3, h4, h5, h6, h7, h8, h9, h10⟩ := mp_inv hgg
  obtain ⟨v, Fa, Fb, r1, r2, r3, r4, r5, r6⟩ := h8.take_rw (j := j) (by rw [List.getElem?_map, hj]; rfl)
  obtain ⟨Fc, t1, t2⟩ := r3.set_av (Rd.sc v) j (by rw [List.length_set, List.length_map]; exact (List.getElem?_eq_some_iff.1 hj).1)
  rw [List.set_set, set_self r1] at t1
  have hin : ∀ b' ∈ F1, b' ∈ E.bf id := fun b' hb => by rw [h10]; exact List.mem_cons_of_mem _ hb
  have hmp : Hg E.m w [.mp (kvs.set j (key, .av (.sc v)))] [E.bv id] (b :: Fc) := by
    rw [h1]
    exact mp_mk h2 h3 (by rw [set_fst hj]; exact h4) (by rw [set_fst hj]; exact h5) h6 h7 (by rw [List.map_set]; exact t1) (fun h => h9 (r5 _ (t2 _ h)))
  obtain ⟨E1, g1, m1, e1, e2, e3⟩ := hg.retree id _ (.mp (kvs.set j (key, .av (.sc v)))) (b :: Fc) hx (fun ys h => by cases h) (fun y h => by cases h) (fun ys h => by cases h) hmp (fun b' hb => .inl (by
    rcases List.mem_cons.1 hb with rfl | hb
    · rw [h10]; simp
    · exact hin _ (r5 _ (t2 _ hb))))
  have hrw : Hg E1.m w [.rw e sz es] [v] Fa := by rw [e1]; exact r2
  obtain ⟨E2, g2, m2, f1, f2, f3, f4⟩ := g1.gainTree k2 (.rw e sz es) v Fa (fun y h => by cases h) hrw (fun b' hb => ⟨hg.tr.dd id _ b' hx (hin _ (r4 _ hb)), fun ⟨t, ht⟩ => by
    rcases e3 t b' ht with ⟨q1, q2⟩ | ⟨q1, q2⟩
    · exact q1 (hg.ho_inj q2 (t' := .r id) ⟨_, hx, hin _ (r4 _ hb)⟩)
    · rcases List.mem_cons.1 q2 with rfl | q2
      · exact h9 (r4 _ hb)
      · exact r6 _ hb (t2 _ q2)⟩) hk2
  have hgk : put σ (.r id) (.tree (.mp (kvs.set j (key, .av (.sc v))))) (.g k2) = σ (.g k2) := put_ne _ _ (by simp)
  have hhk : put σ (.r id) (.tree (.mp (kvs.set j (key, .av (.sc v))))) (.h k2) = σ (.h k2) := put_ne _ _ (by simp)
  rw [treeW_congr hhk hgk] at g2 m2 f4
  have q3 : treeAV (put σ (.r id) (.tree (.mp (kvs.set j (key, .av (.sc v)))))) k2 (.rw e sz es) = .ref k2 (gh σ k2 + 1) := by unfold treeAV; rw [gh_of hhk]
  rw [q3] at f4
  have hslot : slotAt w (E.bv id) j = some v := by
    rw [h1]
    unfold slotAt
    simp only [h2]
    rw [List.getElem?_map, Array.getElem?_toList] at r1
    exact r1
  have hbv : E2.bv id = E.bv id := by
    rw [(m2.h id).2 (gh_of (by simp [treeW, puts, put, hne])).symm, e2]
  have hh2 : puts (put σ (.r id) (.tree (.mp (kvs.set j (key, .av (.sc v)))))) (treeW σ k2 (.rw e sz es)) (.r id) = .tree (.mp (kvs.set j (key, .av (.sc v)))) := by simp [treeW, puts, put, hne]
  obtain ⟨g4, _, _⟩ := g2.lend id _ hh2 j (.ref k2 (gh σ k2 + 1)) ⟨v, by rw [hbv]; exact hslot, f4.toA⟩
  have q4 : puts σ (takI σ id k2 (.mp (kvs.set j (key, .av (.sc v)))) (.rw e sz es) j) = put (puts (put σ (.r id) (.tree (.mp (kvs.set j (key, .av (.sc v)))))) (treeW σ k2 (.rw e sz es))) (.l id) (.lent j (.ref k2 (gh σ k2 + 1))) := by
    unfold takI
    show puts (put σ _ _) (treeW σ k2 (.rw e sz es) ++ _) = _
    rw [puts_append]
    rfl
  exact ⟨v, E2, by rw [q4]; exact g4⟩
/-- A row that was taken out is given back; iterators stay. -/
def givI (id k2 : Id) (x : T) : List (Pl × X) := outW k2 ++ [(.r id, .tree x)]
theorem lent_val (hg : Gm C E σ a w) {id k2 : Id} {kvs : List (Value × T)} {j : Nat} {key v : Value} (hx : σ (.r id) = .tree (.mp kvs)) (hj : kvs[j]? = some (key, .av (.sc v))) (hl : σ (.l id) = .lent j (.ref k2 (gh σ k2))) : E.bv k2 = v := by
  obtain ⟨hgg, _⟩ := hg.tr.hg id _ hx
  obtain ⟨b, ents, clock, F1, h1, h2, h3, h4, h5, h6, h7, h8, h9, h10⟩ := mp_inv hgg
  obtain ⟨u, hu, hrd⟩ := hg.tr.le id _ j _ hx hl
  have hu2 : u = E.bv k2 := hrd.2 rfl
  obtain ⟨u', k1, k2'⟩ := h8.get_av (j := j) (x := .sc v) (by rw [List.getElem?_map, hj]; rfl)
  have := Rd.sc_eq k2'
  subst this
  rw [h1] at hu
  unfold slotAt at hu
  simp only [h2] at hu
  rw [List.getElem?_map, Array.getElem?_toList, hu] at k1
  rw [← hu2]
  exact Option.some.inj k1
theorem Gm.giveI (hg : Gm C E σ a w) {id k2 : Id} (hne : id ≠ k2) {kvs : List (Value × T)} {j : Nat} {key : Value} {x : V} {e : TypeId} {sz : Nat} {es : List (List V)} (hx : σ (.r id) = .tree (.mp kvs)) (hj : kvs[j]? = some (key, .av x)) (hl : σ (.l id) = .lent j (.ref k2 (gh σ k2))) (hy : σ (.r k2) = .tree (.rw e sz es)) :
    ∃ E', Gm C E' (puts σ (givI id k2 (.mp (kvs.set j (key, .rw e sz es))))) a w := by
  obtain ⟨hgg, _⟩ := hg.tr.hg id _ hx
  obtain ⟨b, ents, clock, F1, h1, h2, h3, h4, h5, h6, h7, h8, h9, h10⟩ := mp_inv hgg
  obtain ⟨v, hv, hrd⟩ := hg.tr.le id _ j _ hx hl
  have hv2 : v = E.bv k2 := hrd.2 rfl
  obtain ⟨hrw, _⟩ := hg.tr.hg k2 _ hy
  have hd : ∀ b' ∈ E.bf k2, b' ∉ E.bf id := fun b' h1 h2 => hne (hg.tr.tt id k2 _ _ b' hx hy h2 h1)
  obtain ⟨F', r1, r2⟩ := h8.give_rw hrw (fun b' hb h => hd b' hb (by rw [h10]; exact List.mem_cons_of_mem _ h)) (j := j) (x := x) (by rw [List.getElem?_map, hj]; rfl)
  have hvs : (ents.toList.map (·.val))[j]? = some (E.bv k2) := by
    rw [h1] at hv
    unfold slotAt at hv
    simp only [h2] at hv
    rw [List.getElem?_map, Array.getElem?_toList, hv, hv2]
  rw [set_self hvs] at r1
  obtain ⟨g1, m1, l1⟩ := hg.let_go k2
  have hxi : puts σ (outW k2) (.r id) = .tree (.mp kvs) := by simp [outW, puts, put, hne, hx]
  obtain ⟨E', g2, _⟩ := g1.retree id _ (.mp (kvs.set j (key, .rw e sz es))) (b :: F') hxi (fun ys h => by cases h) (fun y h => by cases h) (fun ys h => by cases h) (by
    rw [h1]
    exact mp_mk h2 h3 (by rw [set_fst hj]; exact h4) (by rw [set_fst hj]; exact h5) h6 h7 (by rw [List.map_set]; exact r1) (fun h => by
      rcases r2 _ h with h | h
      · exact h9 h
      · exact hd _ h (by rw [h10]; simp))) (fun b' hb => by
    rcases List.mem_cons.1 hb with rfl | hb
    · exact .inl (by rw [h10]; simp)
    · rcases r2 _ hb with h | h
      · exact .inl (by rw [h10]; exact List.mem_cons_of_mem _ h)
      · refine .inr ⟨hg.tr.dd k2 _ b' hy h, fun ⟨t, ht⟩ => ?_⟩
        obtain ⟨q1, q2⟩ := l1 t b' ht
        exact q2 (hg.ho_inj q1 (t' := .r k2) ⟨_, hy, h⟩))
  exact ⟨E', by unfold givI; rw [puts_append]; exact g2⟩
end
attribute [go_sem] takI givI
section
variable {P : Program} {C : Ctx} {σ : St} {Q : Exit → St → Prop}
/-- A row of a map that is gone through is taken out. -/
theorem tkI_s {c : Code} (id k2 : Id) (kvs : List (Value × T)) (j : Nat) (key : Value) (e : TypeId) (sz : Nat) (es : List (List V)) (hj : kvs[j]? = some (key, .rw e sz es)) (h : σ (.r id) = .tree (.mp kvs) ∧ id ≠ k2 ∧ k2.2 ≠ 0)
    (k : ∀ v, AW P C c (puts σ (takI σ id k2 (.mp (kvs.set j (key, .av (.sc v)))) (.rw e sz es) j)) Q) : AW P C c σ Q := by
  intro E a w hg
  obtain ⟨v, E', g⟩ := hg.takeI h.2.1 h.2.2 h.1 hj
  exact k v E' a w g
/-- The slot that holds its value is that row. -/
theorem snp_s {c : Code} (t : Nat) (id k2 : Id) (kvs : List (Value × T)) (j : Nat) (key v : Value) (hj : kvs[j]? = some (key, .av (.sc v))) (h : (σ (.s t) = .av (.val (.sc v)) ∧ σ (.r id) = .tree (.mp kvs) ∧ σ (.l id) = .lent j (.ref k2 (gh σ k2)) ∧ t < C.nt) ∧ AW P C c (put σ (.s t) (.av (.ref k2 (gh σ k2)))) Q) : AW P C c σ Q := by
  obtain ⟨⟨h1, h2, h3, h4⟩, k⟩ := h
  intro E a w hg
  have hv := Rd.sc_eq (hg.sl t _ h1)
  have hb := lent_val hg h2 hj h3
  exact k E a w (hg.ghost t _ h4 ⟨Nat.le_refl _, fun _ => by rw [hv, hb]⟩)
/-- It is given back. -/
theorem bkI_s {c : Code} (id k2 : Id) (kvs kvs' : List (Value × T)) (j : Nat) (key : Value) (x : V) (e : TypeId) (sz : Nat) (es : List (List V)) (hj : kvs[j]? = some (key, .av x)) (hu : kvs.set j (key, .rw e sz es) = kvs')
    (h : (σ (.r id) = .tree (.mp kvs) ∧ σ (.l id) = .lent j (.ref k2 (gh σ k2)) ∧ σ (.r k2) = .tree (.rw e sz es) ∧ id ≠ k2) ∧ AW P C c (puts σ (givI id k2 (.mp kvs'))) Q) : AW P C c σ Q := by
  subst hu
  obtain ⟨⟨h1, h2, h3, h4⟩, h6⟩ := h
  intro E a w hg
  obtain ⟨E', g1⟩ := hg.giveI h4 h1 hj h2 h3
  exact h6 E' a w g1
end
section
variable {P : Program} {ops : Array Oper} {C : Ctx} {σ : St} {K : St → List FP → Prop} {acc : List FP} {rest : List Oper} {md : Bool}
/-- A value of two cells, read as a whole, is stored. -/
theorem ok_storeW {t : TypeId} {x y : Operand} {pos : String} {ty : TypeId} {af : Array Edge} {o : Id} {g i n : Nat} {u0 u1 : Value} {T : TI} (ht : tiOf P t = some T) (hT : T.agg = true ∧ T.size = 2) (hx : ev σ x = .ptr o g i) (hy : ev σ y = .val (.sc (.agg #[u0, u1]))) (hn : σ (.o o) = .num n) (hc : gg σ o = g ∧ i + 2 ≤ n ∧ u0.oneCell' = true ∧ u1.oneCell' = true) :
    OpOk P ops C ⟨none, .store t x y, ty, pos, af, none⟩ (rds σ (rdl x ++ (rdl y ++ [.g o, .o o]))) (cellsW o i [.val (.sc u0), .val (.sc u1)]) := by
  intro E σ' a w Kt Q hd hr hg hK
  obtain ⟨h1, h2⟩ := mem_l (rds_all hr)
  obtain ⟨h2, h2'⟩ := mem_l h2
  have h3 := ev_ok hg x
  rw [ev_congr h1, hx] at h3
  have h4 := h3.2 (by rw [gg_of (h2' (.g o) (by simp))]; exact hc.1.symm)
  have h5 := ev_ok hg y
  rw [ev_congr h2, hy] at h5
  have hv : a.eval y = .agg #[u0, u1] := Rd.sc_eq h5
  obtain ⟨w', hw, hg'⟩ := store_cells (P := P) (o := o) (n := n) [u0, u1] [.sc u0, .sc u1] i 0 E σ' w hg (by rw [h2' (.o o) (by simp)]; exact hn) (by simp; omega) rfl
    (fun k h h' => by
      match k, h with
      | 0, _ => exact Rd.sc u0
      | 1, _ => exact Rd.sc u1) (fun v hv => by
      simp at hv
      rcases hv with rfl | rfl
      · exact hc.2.2.1
      · exact hc.2.2.2)
  rw [if_pos (by simp [Region.wanted])]
  have hrun : (execOp a.eval ⟨none, .store t x y, ty, pos, af, none⟩).run P w = .ok .skip w' := by
    have hsz := sizeOf_run (P := P) (t := t) (T := T) ht w
    rw [hT.2] at hsz
    have hcl : (Value.agg #[u0, u1]).cells = #[u0, u1] := rfl
    simp [execOp, h4, hv, Instr.storeAt, Instr.sureAddr, storeVar, hsz, hcl, hw]
  show Oper.upon _ _ _ _ _ _
  rw [hrun]
  exact hK _ _ E (by simpa [Act.put] using hg')
theorem stw_s {t : TypeId} {x y : Operand} {ty : TypeId} {pos : String} {af : Array Edge} {o : Id} {g i n : Nat} {u0 u1 : Value} {T : TI} (ht : tiOf P t = some T) (hT : T.agg = true ∧ T.size = 2) (hx : ev σ x = .ptr o g i) (hy : ev σ y = .val (.sc (.agg #[u0, u1]))) (hn : σ (.o o) = .num n) (hc : gg σ o = g ∧ i + 2 ≤ n ∧ u0.oneCell' = true ∧ u1.oneCell' = true)
    (k : exec P ops C md K rest (puts σ (cellsW o i [.val (.sc u0), .val (.sc u1)])) ((rdl x ++ (rdl y ++ [.g o, .o o]), locs (cellsW o i [.val (.sc u0), .val (.sc u1)])) :: acc)) : Run P ops C md K (⟨none, .store t x y, ty, pos, af, none⟩ :: rest) σ acc :=
  run_cons (ok_storeW ht hT hx hy hn hc) (exec_run k)
end
section
variable {P : Program} {C : Ctx} {σ : St} {Q : Exit → St → Prop}
/-- Something is still to be seen otherwise behind a piece of code. -/
def Later (C : Ctx) (Q : Exit → St → Prop) (e : Exit) (σ : St) : Prop := ∀ E a w, Gm C E σ a w → ∃ E' σ', Q e σ' ∧ Gm C E' σ' a w
theorem post_s {c : Code} (h : AW P C c σ (Later C Q)) : AW P C c σ Q := fun E a w hg =>
  Code.wp_mono (fun e a' w' hq => by
    obtain ⟨E', σ', h1, h2⟩ := hq
    exact h1 E' a' w' h2) (h E a w hg)
theorem bkL_s {e' : Exit} (id k2 : Id) (kvs kvs' : List (Value × T)) (j : Nat) (key : Value) (x : V) (e : TypeId) (sz : Nat) (es : List (List V)) (hj : kvs[j]? = some (key, .av x)) (hu : kvs.set j (key, .rw e sz es) = kvs')
    (h : (σ (.r id) = .tree (.mp kvs) ∧ σ (.l id) = .lent j (.ref k2 (gh σ k2)) ∧ σ (.r k2) = .tree (.rw e sz es) ∧ id ≠ k2) ∧ Q e' (puts σ (givI id k2 (.mp kvs')))) : Later C Q e' σ := by
  subst hu
  obtain ⟨⟨h1, h2, h3, h4⟩, h6⟩ := h
  intro E a w hg
  obtain ⟨E', g1⟩ := hg.giveI h4 h1 hj h2 h3
  exact ⟨E', _, h6, g1⟩
end
section
variable {P : Program} {C : Ctx} {σ : St} {Q : Exit → St → Prop}
/-- A map whose order is not told any more. -/
theorem clm_s {c : Code} (k : Id) (kvs kvs0 : List (Value × T)) (hp : kvs.Perm kvs0) (h : σ (.r k) = .tree (.mp kvs) ∧ AW P C c (puts σ [(.r k, .tree (.pm kvs0))]) Q) : AW P C c σ Q := by
  intro E a w hg
  obtain ⟨h1, h2⟩ := hg.tr.hg k _ h.1
  have hh : Hg E.m w [.pm kvs0] [E.bv k] (E.bf k) := by
    have := Hg.pm hp h1 .nil (fun i _ hi => by cases hi)
    simpa using this
  obtain ⟨E', g, _⟩ := hg.retree k _ (.pm kvs0) (E.bf k) h.1 (fun ys e => by cases e) (fun y e => by cases e) (fun ys e => by cases e) hh (fun b hb => .inl hb)
  exact h.2 E' a w g
/-- A map whose order is not told: for each order. -/
theorem opm_s {c : Code} (k : Id) (kvs : List (Value × T)) (h : σ (.r k) = .tree (.pm kvs)) (hk : ∀ kvs', kvs'.Perm kvs → AW P C c (puts σ [(.r k, .tree (.mp kvs'))]) Q) : AW P C c σ Q := by
  intro E a w hg
  obtain ⟨h1, h2⟩ := hg.tr.hg k _ h
  obtain ⟨kvs', hp, F, h3, h4⟩ : ∃ kvs', kvs'.Perm kvs ∧ ∃ F, Hg E.m w [.mp kvs'] [E.bv k] F ∧ ∀ b ∈ F, b ∈ E.bf k := by
    generalize E.bv k = v at h1
    generalize E.bf k = G at h1 ⊢
    cases h1 with
    | pm hp h hs h3 => exact ⟨_, hp, _, h, fun b hb => List.mem_append_left _ hb⟩
  obtain ⟨E', g, _⟩ := hg.retree k _ (.mp kvs') F h (fun ys e => by cases e) (fun y e => by cases e) (fun ys e => by cases e) h3 (fun b hb => .inl (h4 b hb))
  exact hk kvs' hp E' a w g
end
end Go.Proofs.Ytekpaepkoeelfaa
