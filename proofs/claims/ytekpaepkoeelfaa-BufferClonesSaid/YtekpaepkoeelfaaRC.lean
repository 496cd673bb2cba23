
/- Rows of boxes that grow: a literal of a pointer, its append; a map that is cloned. -/
import Derived.Test.YtekpaepkoeelfaaRB
namespace Go.Proofs.Ytekpaepkoeelfaa
open Go.RowKit
set_option linter.unusedVariables false
set_option linter.unusedSimpArgs false

section
variable {P : Program} {ops : Array Oper} {C : Ctx} {E : Env} {σ : St} {a : Act} {w : World} {md : Bool} {K : St → List FP → Prop} {acc : List FP} {rest : List Oper}
theorem cellL_alloc (w : World) (v : Value) (e : TypeId) : (w.alloc (.cells #[v] e)).cell? ⟨w.heap.size, 0, none⟩ = some v := by
  have := heap_alloc_new w (.cells #[v] e)
  unfold World.cell?
  dsimp only
  rw [this]
  rfl
/-- A slice of one pointer, which is lent to its object. -/
theorem ok_bldL {d : Tmp} {t e : TypeId} {x : Operand} {o : Id} {g : Nat} {T1 T2 : TI} (ht : tiOf P t = some T1) (hT : T1.sh = .slice ∧ T1.elem = e) (hte : tiOf P e = some T2) (hT2 : T2.size = 1 ∧ T2.zok = true) (hx : ev σ x = .ptr o g 0) (hgo : gg σ o = g) (hod : o ≠ (d, 1)) :
    StOk P C σ (some d) (.buildSlice t 1 #[(0, x)]) (some (True, [.h (d, 1), .g (d, 1), .g o] ++ rdl x, (treeW σ (d, 1) (.rw e 1 [[.any]]) ++ [(.l (d, 1), .lent 0 (.ptr o g 0))]) ++ [(.s d, .av (.ref (d, 1) (gh σ (d, 1) + 1)))])) := by
  refine ok_value (W0 := treeW σ (d, 1) (.rw e 1 [[.any]]) ++ [(.l (d, 1), .lent 0 (.ptr o g 0))]) fun _ ty pos af E σ' a w h1 hg hd => ?_
  obtain ⟨h1, h2⟩ := mem_l h1
  obtain ⟨it, dt, _, hdt, _, _, _, hsl, _⟩ := tiOf_some ht
  have hsl : dt = .slice e := by rw [← hT.2]; exact hsl hT.1
  subst hsl
  have hso := sizeOf_run (P := P) hte w
  rw [hT2.1] at hso
  obtain ⟨zv, hzv, _⟩ := zero_run hte hT2.2 w
  have hv := ev_ok hg x
  rw [ev_congr h2, hx] at hv
  have hgo' : gg σ' o = g := by rw [gg_of (h1 (.g o) (by simp))]; exact hgo
  have hv2 := hv.2 hgo'.symm
  have e0 : treeW σ (d, 1) (.rw e 1 [[.any]]) = treeW σ' (d, 1) (.rw e 1 [[.any]]) := (treeW_congr (h1 _ (by simp)) (h1 _ (by simp))).symm
  have e1 : gh σ (d, 1) = gh σ' (d, 1) := (gh_of (h1 (.h (d, 1)) (by simp))).symm
  rw [e0, e1]
  have hA := hg.alloc (.cells #[a.eval x] e)
  have hown : (w.alloc (.cells #[a.eval x] e)).ownsRow 0 e 1 (.slice (some ⟨w.heap.size, 0, none⟩) 1 1) 1 [a.eval x] :=
    ⟨by simp, .inr ⟨w.heap.size, 1, #[a.eval x], rfl, Nat.zero_le _, heap_alloc_new w _, Nat.le_refl _, by unfold maxLen; omega, by simp, by simp⟩⟩
  have hh : Hg E.m (w.alloc (.cells #[a.eval x] e)) [.rw e 1 [[.any]]] [.slice (some ⟨w.heap.size, 0, none⟩) 1 1] (Value.slice (some ⟨w.heap.size, 0, none⟩) 1 1).ownBlock.toList := rw_mk hown (by simp) (fun i j hi hj => by
    simp at hi
    subst hi
    simp at hj
    subst hj
    exact ⟨a.eval x, by simp, Rd.any _⟩) fun b hb i => by cases hb; exact hg.fresh (Nat.le_refl _) i
  obtain ⟨E', g1, g2, g3, g4, _, g6⟩ := hA.gainTree (d, 1) (.rw e 1 [[.any]]) (.slice (some ⟨w.heap.size, 0, none⟩) 1 1) _ (fun y h => by cases h) hh (fun b hb => by
    have hb : b = w.heap.size := by simpa [Value.ownBlock] using hb
    subst hb
    exact ⟨.inr hg.fr.size, fun ⟨t, ht⟩ => by have := (hg.ho_dd (E := E) (t := t) (by cases t <;> exact ht)).1; omega⟩) (by simp)
  have g6' : RdP E' (puts σ' (treeW σ' (d, 1) (.rw e 1 [[.any]]))) (.ref (d, 1) (gh σ' (d, 1) + 1)) (.slice (some ⟨w.heap.size, 0, none⟩) 1 1) := g6
  have hk : puts σ' (treeW σ' (d, 1) (.rw e 1 [[.any]])) (.r (d, 1)) = .tree (.rw e 1 [[.any]]) := by simp [treeW, puts, put]
  have hbv : E'.bv (d, 1) = .slice (some ⟨w.heap.size, 0, none⟩) 1 1 := by
    refine (g6'.2 ?_).symm
    have : gh (puts σ' (treeW σ' (d, 1) (.rw e 1 [[.any]]))) (d, 1) = gh σ' (d, 1) + 1 := gh_num (by simp [treeW, puts, put])
    rw [this]
  have hptr : RdA E' (puts σ' (treeW σ' (d, 1) (.rw e 1 [[.any]]))) (.ptr o g 0) (a.eval x) := (show RdP E σ' (.ptr o g 0) (a.eval x) from hv).mo g2 |>.toA
  obtain ⟨q1, q2, _⟩ := g1.lend (d, 1) _ hk 0 (.ptr o g 0) ⟨a.eval x, by rw [hbv]; simp [slotAt, addr_add], hptr⟩
  refine ⟨_, _, E', ?_, by rw [puts_append]; exact q1, by rw [puts_append]; exact (g6'.mo q2).toA⟩
  have hcells : (a.eval x).cells = #[a.eval x] := by rw [hv2]; rfl
  have hb : (Instr.buildSlice t 1 #[(0, a.eval x)]).run P w = .ok (.slice (some ⟨w.heap.size, 0, none⟩) 1 1) (w.alloc (.cells #[a.eval x] e)) := by
    unfold Instr.buildSlice
    have e2 : Array.range 1 = #[0] := by rfl
    simp [run_underlying hdt, hso, hzv, Instr.fill, e2, hcells]
    rfl
  simp [execOp, hb]
theorem bldL_s {d : Tmp} {t e : TypeId} {x : Operand} {ty : TypeId} {pos : String} {af : Array Edge} (o : Id) (g : Nat) (T1 T2 : TI) (ht : tiOf P t = some T1) (hT : T1.sh = .slice ∧ T1.elem = e) (hte : tiOf P e = some T2) (hT2 : T2.size = 1 ∧ T2.zok = true) (hx : ev σ x = .ptr o g 0) (hgo : gg σ o = g) (hod : o ≠ (d, 1))
    (k : exec P ops C md K rest (puts σ ((treeW σ (d, 1) (.rw e 1 [[.any]]) ++ [(.l (d, 1), .lent 0 (.ptr o g 0))]) ++ [(.s d, .av (.ref (d, 1) (gh σ (d, 1) + 1)))])) (([.h (d, 1), .g (d, 1), .g o] ++ rdl x, locs ((treeW σ (d, 1) (.rw e 1 [[.any]]) ++ [(.l (d, 1), .lent 0 (.ptr o g 0))]) ++ [(.s d, .av (.ref (d, 1) (gh σ (d, 1) + 1)))])) :: acc)) :
    Run P ops C md K (⟨some d, .buildSlice t 1 #[(0, x)], ty, pos, af, none⟩ :: rest) σ acc :=
  run_any (ok_bldL ht hT hte hT2 hx hgo hod) rfl trivial k
/-- Such a slice behind a row of what is owned: the place behind it is lent to the object. -/
theorem ok_appL {d : Tmp} {t tx e : TypeId} {s x : Operand} {k k2 o : Id} {g : Nat} {old : List (List T)} {T1 T2 T3 : TI} (ht : tiOf P t = some T1) (hT : T1.sh = .slice ∧ T1.elem = e) (hte : tiOf P e = some T2) (hT2 : T2.size = 1 ∧ T2.bytes = 8 ∧ T2.zok = true ∧ T2.zero.length = 1) (htx : tiOf P tx = some T3) (hT3 : T3.sh = .slice)
    (hs : ev σ s = .ref k (gh σ k)) (hr : σ (.r k) = .tree (.row e 1 old)) (hx : ev σ x = .ref k2 (gh σ k2)) (hr2 : ∃ e2, σ (.r k2) = .tree (.rw e2 1 [[.any]])) (hl2 : σ (.l k2) = .lent 0 (.ptr o g 0)) (hgo : gg σ o = g) (hn : old.length ≤ 1099511627776) (hk : k ≠ k2 ∧ o ≠ k) :
    StOk P C σ (some d) (.call { callee := .builtin .append, args := #[s, x], argTypes := #[t, tx] }) (some (True, [.h k, .g k, .r k, .h k2, .r k2, .l k2, .g o] ++ (rdl s ++ rdl x), (newTW σ k (.row e 1 (old ++ [[.av .any]])) ++ [(.l k, .lent old.length (.ptr o g 0))]) ++ [(.s d, .av (.ref k (gh σ k + 1)))])) := by
  obtain ⟨e2, hr2⟩ := hr2
  refine ok_value (W0 := newTW σ k (.row e 1 (old ++ [[.av .any]])) ++ [(.l k, .lent old.length (.ptr o g 0))]) fun _ ty pos af E σ' a w h1 hg hd => ?_
  obtain ⟨h1, h2⟩ := mem_l h1
  obtain ⟨h2, h3⟩ := mem_l h2
  obtain ⟨it, dt, _, hdt, _, _, _, hsl, _⟩ := tiOf_some ht
  have hsl : dt = .slice e := by rw [← hT.2]; exact hsl hT.1
  subst hsl
  obtain ⟨ie, de, hie, hde, hsz, hby, _, _, _, _, _, _, _, hz, _, _, _, hzk⟩ := tiOf_some hte
  rw [hT2.2.2.1] at hzk
  obtain ⟨zv, hzv⟩ := Option.isSome_iff_exists.1 hzk.symm
  have hzz : T2.zero = zv.cells.toList := by rw [hzv] at hz; exact hz
  have hr' : σ' (.r k) = .tree (.row e 1 old) := by rw [h1 _ (by simp)]; exact hr
  have hr2' : σ' (.r k2) = .tree (.rw e2 1 [[.any]]) := by rw [h1 _ (by simp)]; exact hr2
  have hl2' : σ' (.l k2) = .lent 0 (.ptr o g 0) := by rw [h1 _ (by simp)]; exact hl2
  have hgo' : gg σ' o = g := by rw [gg_of (h1 (.g o) (by simp))]; exact hgo
  have e0 : newTW σ k (.row e 1 (old ++ [[.av .any]])) = newTW σ' k (.row e 1 (old ++ [[.av .any]])) := (newTW_congr (h1 _ (by simp)) (h1 _ (by simp))).symm
  have e1 : gh σ k = gh σ' k := (gh_of (h1 (.h k) (by simp))).symm
  have e3 : gh σ k2 = gh σ' k2 := (gh_of (h1 (.h k2) (by simp))).symm
  have hvs := ev_ok hg s
  rw [ev_congr h2, hs] at hvs
  have hvs := hvs.2 e1
  have hvx := ev_ok hg x
  rw [ev_congr h3, hx] at hvx
  have hvx := hvx.2 e3
  obtain ⟨hhg, _⟩ := hg.tr.hg k _ hr'
  obtain ⟨us, F1, c1, c2, c3, c4, c5⟩ := row_inv hhg
  obtain ⟨us2, q1, q2, q3, q4, q5⟩ := tree_row hg hr2'
  obtain ⟨u, hu1, hu2⟩ := hg.tr.le k2 _ 0 _ hr2' hl2'
  have hpu : u = .pointer (some ⟨E.loc o, 0, none⟩) := hu2.2 hgo'.symm
  -- the source
  obtain ⟨b2, cap2, hb2⟩ : ∃ b2 cap2, E.bv k2 = .slice (some ⟨b2, 0, none⟩) 1 cap2 := by
    rcases q1.2 with ⟨_, h⟩ | ⟨b, cap, cur, h, _⟩
    · simp at h
    · exact ⟨b, cap, h⟩
  rw [hb2] at hu1
  have hu1 : w.cell? ⟨b2, 0, none⟩ = some u := by simpa [slotAt, addr_add] using hu1
  obtain ⟨ix, dx, _, hdx, _, _, _, hslx, _⟩ := tiOf_some htx
  have hsrc : Src P 1 tx (E.bv k2) 1 [u] w := by
    rw [hb2]
    refine Src.ofSlice w (hdx.trans (by rw [hslx hT3])) ⟨b2, 0, none⟩ 1 cap2 [u] (by simp) (fun j y h => ?_) (fun y h => ?_)
    · cases j with
      | zero => simp at h; subst h; simpa [addr_add] using hu1
      | succ j => simp at h
    · simp at h
      subst h
      rw [hpu]
      rfl
  have hzs : zv.cells.size = 1 := by
    have := hT2.2.2.2
    rw [hzz] at this
    simpa using this
  obtain ⟨v', w', r1, r2, r3, r4, _⟩ := run_append_two w t tx ty e ie zv 1 8 hdt hie hzv (hsz.symm.trans hT2.1) (hby.symm.trans hT2.2.1) hzs (by omega) (E.bv k) old.length us c1 _ _ _ hsrc (by unfold maxLen; omega) (by omega)
  have hfr : ∀ b, v'.ownBlock = some b → (∀ i, E.m b i = none) ∧ b ∉ F1 := fun b hb => by
    rcases r4 b hb with h | h
    · exact ⟨fun i => hg.fresh h i, fun hF => by
        have := (hg.tr.dd k _ b hr' ((c5 b).2 (.inr hF)))
        have h4 := (hg.ho_dd (t := .r k) ⟨_, hr', (c5 b).2 (.inr hF)⟩).1
        omega⟩
    · exact c3 b h
  have hch : Chg (fun b => b ∈ E.bf k) w w' := ⟨r3.os, r3.tape, r3.output, r3.size, fun b h5 h6 => r3.block b h5 fun h7 => by
    rcases r4 b h7 with h | h
    · omega
    · exact h6 ((c5 b).2 (.inl h))⟩
  have hkeep : Hg E.m w' old.flatten us F1 := c4.mono (Mem.le_refl _) fun b hb => ⟨r3.block b (c4.mem b hb).1 fun h7 => (hfr b h7).2 hb, fun _ => rfl⟩
  have hflat : (old ++ [[T.av .any]]).flatten = old.flatten ++ [.av .any] := by simp
  have hl : (old ++ [[T.av .any]]).length = old.length + 1 := by simp
  have hh : Hg E.m w' [.row e 1 (old ++ [[.av .any]])] [v'] (v'.ownBlock.toList ++ F1) := row_mk (us := us ++ [u]) (by rw [hl]; exact r2) (fun r h => by
    rcases List.mem_append.1 h with h | h
    · exact c2 r h
    · simp at h; subst h; rfl) hfr (by rw [hflat]; exact hkeep.push_av (Rd.any _))
  have hF : ∀ b ∈ v'.ownBlock.toList ++ F1, b ∈ E.bf k ∨ w.heap.size ≤ b := fun b hb => by
    rcases List.mem_append.1 hb with hb | hb
    · have hb : v'.ownBlock = some b := by simpa using hb
      rcases r4 b hb with h | h
      · exact .inr h
      · exact .inl ((c5 b).2 (.inl h))
    · exact .inl ((c5 b).2 (.inr hb))
  obtain ⟨E', g1, g2, g3, g4⟩ := hg.newT k _ _ v' _ w' hr' (fun y h => by cases h) (fun ys h => by cases h) hh hF hch
  have hkr : puts σ' (newTW σ' k (.row e 1 (old ++ [[.av .any]]))) (.r k) = .tree (.row e 1 (old ++ [[.av .any]])) := by simp [newTW, puts, put]
  have hghk : gh (puts σ' (newTW σ' k (.row e 1 (old ++ [[.av .any]])))) k = gh σ' k + 1 := gh_num (by simp [newTW, puts, put])
  have hbv : v' = E'.bv k := g4.2 hghk.symm
  have hus : us.length = old.length := by have := c1.1; omega
  have hslot : slotAt w' (E'.bv k) old.length = some u := by
    rw [← hbv]
    rcases r2.2 with ⟨h, h'⟩ | ⟨b, cap, cur, h, _⟩
    · omega
    · have := r2.cells (g := b) (by rw [h]; rfl) old.length u (by rw [List.getElem?_append_right (by omega), hus]; simp)
      rw [h]
      simpa [slotAt, addr_add] using this
  have hptr : RdA E' (puts σ' (newTW σ' k (.row e 1 (old ++ [[.av .any]])))) (.ptr o g 0) u := (show RdP E σ' (.ptr o g 0) u from hu2).mo g2 |>.toA
  obtain ⟨p1, p2, _⟩ := g1.lend k _ hkr old.length (.ptr o g 0) ⟨u, hslot, hptr⟩
  rw [e0, e1]
  refine ⟨v', w', E', ?_, by rw [puts_append]; exact p1, by rw [puts_append]; exact (show RdP E' _ (.ref k (gh σ' k + 1)) v' from g4).mo p2 |>.toA⟩
  simp [execOp, resolve, invoke, builtin, hvs, hvx, r1]
theorem appL_s {d : Tmp} {t tx e : TypeId} {s x : Operand} {ty : TypeId} {pos : String} {af : Array Edge} (k k2 o : Id) (g : Nat) (old : List (List T)) (T1 T2 T3 : TI) (ht : tiOf P t = some T1) (hT : T1.sh = .slice ∧ T1.elem = e) (hte : tiOf P e = some T2) (hT2 : T2.size = 1 ∧ T2.bytes = 8 ∧ T2.zok = true ∧ T2.zero.length = 1) (htx : tiOf P tx = some T3) (hT3 : T3.sh = .slice)
    (hs : ev σ s = .ref k (gh σ k)) (hr : σ (.r k) = .tree (.row e 1 old)) (hx : ev σ x = .ref k2 (gh σ k2)) (hr2 : ∃ e2, σ (.r k2) = .tree (.rw e2 1 [[.any]])) (hl2 : σ (.l k2) = .lent 0 (.ptr o g 0)) (hgo : gg σ o = g) (hn : old.length ≤ 1099511627776) (hk : k ≠ k2 ∧ o ≠ k)
    (q : exec P ops C md K rest (puts σ ((newTW σ k (.row e 1 (old ++ [[.av .any]])) ++ [(.l k, .lent old.length (.ptr o g 0))]) ++ [(.s d, .av (.ref k (gh σ k + 1)))])) (([.h k, .g k, .r k, .h k2, .r k2, .l k2, .g o] ++ (rdl s ++ rdl x), locs ((newTW σ k (.row e 1 (old ++ [[.av .any]])) ++ [(.l k, .lent old.length (.ptr o g 0))]) ++ [(.s d, .av (.ref k (gh σ k + 1)))])) :: acc)) :
    Run P ops C md K (⟨some d, .call { callee := .builtin .append, args := #[s, x], argTypes := #[t, tx] }, ty, pos, af, none⟩ :: rest) σ acc :=
  run_any (ok_appL ht hT hte hT2 htx hT3 hs hr hx hr2 hl2 hgo hn hk) rfl trivial q
/-- A map of flat values that is cloned by a function of the library. -/
def ClonesM (P : Program) (K : FuncId) : Prop := ∀ (b : Nat) (es : Array MapEntry) (clock : Nat) (w : World), w.heap[b]? = some (.map es clock) → Calls P K #[.map (some b)] w fun e w' => e = .returned (.map (some w.heap.size)) ∧ w' = w.alloc (.map es clock)
theorem hg_flat {m : Mem} {xs : List T} {vs : List Value} {F : List Nat} (h : Hg m w xs vs F) : (∀ x ∈ xs, ∃ y, x = .av y) → Hg m w xs vs [] := by
  induction h with
  | nil => intro _; exact .nil
  | av h _ ih => intro q; exact .av h (ih fun x hx => q x (List.mem_cons_of_mem _ hx))
  | _ => intro q; obtain ⟨y, hy⟩ := q _ (List.mem_cons_self ..); cases hy
theorem ok_clM {d : Tmp} {F : FuncId} (hK : ∀ args w, (callFunc F args).run P w = .ok (.enter F args) w) (hcl : ClonesM P F) {x : Operand} {tys : Array TypeId} {k : Id} {kvs : List (Value × T)} (hx : ev σ x = .ref k (gh σ k)) (hr : σ (.r k) = .tree (.mp kvs)) (hav : ∀ p ∈ kvs, ∃ y, p.2 = .av y) (ty : TypeId) (pos : String) (af : Array Edge) :
    OpOk P ops C ⟨some d, .call { callee := .value (.func F), args := #[x], argTypes := tys }, ty, pos, af, none⟩ (rds σ ([.h (d, 1), .g (d, 1), .h k, .r k] ++ rdl x)) (treeW σ (d, 1) (.mp kvs) ++ [(.s d, .av (.ref (d, 1) (gh σ (d, 1) + 1)))]) := by
  intro E σ' a w Kt Q hd h1 hg hK'
  have hd0 := hd d rfl
  obtain ⟨h1, h2⟩ := mem_l (rds_all h1)
  have hr' : σ' (.r k) = .tree (.mp kvs) := by rw [h1 _ (by simp)]; exact hr
  have e0 : treeW σ (d, 1) (.mp kvs) = treeW σ' (d, 1) (.mp kvs) := (treeW_congr (h1 _ (by simp)) (h1 _ (by simp))).symm
  have e1 : gh σ (d, 1) = gh σ' (d, 1) := (gh_of (h1 (.h (d, 1)) (by simp))).symm
  have e2 : gh σ k = gh σ' k := (gh_of (h1 (.h k) (by simp))).symm
  rw [e0, e1] at hK'
  have hv := ev_ok hg x
  rw [ev_congr h2, hx] at hv
  have hv := hv.2 e2
  obtain ⟨hhg, _⟩ := hg.tr.hg k _ hr'
  obtain ⟨b, ents, clock, F1, q1, q2, q3, q4, q5, q6, q7, q8, q9, q10⟩ := mp_inv hhg
  have hA := hg.alloc (.map ents clock)
  have hlt : w.heap.size < (w.alloc (.map ents clock)).heap.size := by simp
  have hh : Hg E.m (w.alloc (.map ents clock)) [.mp kvs] [.map (some w.heap.size)] [w.heap.size] :=
    mp_mk (F := []) (heap_alloc_new w _) (fun i => hg.fresh (Nat.le_refl _) i) q4 q5 q6 q7 ((hg_flat q8 fun x hx => by
      obtain ⟨p, hp, rfl⟩ := List.mem_map.1 hx
      exact hav p hp).mono (Mem.le_refl _) fun b hb => by cases hb) (by simp)
  obtain ⟨E', g1, g2, g3, g4, _, g6⟩ := hA.gainTree (d, 1) (.mp kvs) (.map (some w.heap.size)) [w.heap.size] (fun y h => by cases h) hh (fun b hb => by
    simp at hb
    subst hb
    exact ⟨.inr hg.fr.size, fun ⟨t, ht⟩ => by have := (hg.ho_dd (E := E) (t := t) (by cases t <;> exact ht)).1; omega⟩) (by simp)
  rw [if_pos (by simp [Region.wanted])]
  show Oper.upon _ _ _ _ _ _
  rw [show (execOp a.eval ⟨some d, .call { callee := .value (.func F), args := #[x], argTypes := tys }, ty, pos, af, none⟩).run P w = .ok (.enter F #[a.eval x]) w by simp [execOp, resolve, Act.eval, Deferred.ofValue, invoke, hK]]
  show Calls _ _ _ _ _
  rw [hv, q1]
  refine (hcl b ents clock w q2).mono ?_
  rintro e w' ⟨rfl, rfl⟩
  show Kt (a.put (some d) _) _
  refine hK' _ _ E' ?_
  rw [puts_append]
  exact g1.slot d _ _ hd0 g6.toA
theorem clM_s {d : Tmp} {F : FuncId} (hK : ∀ args w, (callFunc F args).run P w = .ok (.enter F args) w) (hcl : ClonesM P F) {x : Operand} {tys : Array TypeId} {ty : TypeId} {pos : String} {af : Array Edge} (k : Id) (kvs : List (Value × T)) (hx : ev σ x = .ref k (gh σ k)) (hr : σ (.r k) = .tree (.mp kvs)) (hav : ∀ p ∈ kvs, ∃ y, p.2 = .av y)
    (q : exec P ops C md K rest (puts σ (treeW σ (d, 1) (.mp kvs) ++ [(.s d, .av (.ref (d, 1) (gh σ (d, 1) + 1)))])) (([.h (d, 1), .g (d, 1), .h k, .r k] ++ rdl x, locs (treeW σ (d, 1) (.mp kvs) ++ [(.s d, .av (.ref (d, 1) (gh σ (d, 1) + 1)))])) :: acc)) :
    Run P ops C md K (⟨some d, .call { callee := .value (.func F), args := #[x], argTypes := tys }, ty, pos, af, none⟩ :: rest) σ acc :=
  run_cons (ok_clM hK hcl hx hr hav ty pos af) (exec_run q)
/-- A struct that holds places or rows is loaded, and stored. -/
theorem ok_ldA {d : Tmp} {t : TypeId} {x : Operand} {o : Id} {g n : Nat} {T1 : TI} (ht : tiOf P t = some T1) (hT : T1.agg = true) (hx : ev σ x = .ptr o g 0) (hn : σ (.o o) = .num n) (hc : gg σ o = g ∧ T1.size ≤ n) (hp : ∀ y ∈ cellAVs σ o 0 T1.size, (match y with | .ag _ => False | .fn _ _ => False | _ => True)) :
    StOk P C σ (some d) (.load t x) (some (True, rdl x ++ (.g o :: .o o :: cellsL o 0 T1.size), [(.s d, .av (.ag (cellAVs σ o 0 T1.size)))])) := by
  refine ok_pure fun _ ty pos af E σ' a w hr hg => ?_
  obtain ⟨h1, h2⟩ := mem_l hr
  have h3 := ev_ok hg x
  rw [ev_congr h1, hx] at h3
  have h4 := h3.2 (by rw [gg_of (h2 (.g o) (by simp))]; exact hc.1.symm)
  have hcs : cellAVs σ' o 0 T1.size = cellAVs σ o 0 T1.size := cellAVs_congr fun l hl => h2 l (by simp [hl])
  have hcell : ∀ j, j < T1.size → ∃ v, w.cell? ⟨E.loc o, 0 + j, none⟩ = some v ∧ RdA E σ' (cellAV σ' o (0 + j)) v := fun j hj => cellAV_ok hg (by rw [h2 (.o o) (by simp)]; exact hn) (by omega)
  obtain ⟨f, hf⟩ : ∃ f : Nat → Value, ∀ j, j < T1.size → w.cell? ⟨E.loc o, 0 + j, none⟩ = some (f j) ∧ RdA E σ' (cellAV σ' o (0 + j)) (f j) :=
    ⟨fun j => if h : j < T1.size then (hcell j h).choose else undef, fun j h => by simp only [dif_pos h]; exact (hcell j h).choose_spec⟩
  have hl := run_loadCells (P := P) w ⟨E.loc o, 0, none⟩ T1.size f (fun j hj => by rw [addr_add]; exact (hf j hj).1)
  refine ⟨.agg ((List.range T1.size).map f).toArray, by simp [execOp, h4, Instr.loadAt, Instr.sureAddr, loadVar, isAgg_run ht, hT, sizeOf_run ht, hl], ?_⟩
  rw [← hcs] at hp ⊢
  refine ⟨(List.range T1.size).map f, rfl, by simp [cellAVs_length], fun j j1 j2 => ?_⟩
  rw [cellAVs_length] at j1
  have h5 := cellAVs_get σ' o T1.size 0 j j1
  have h6 : (cellAVs σ' o 0 T1.size)[j]'(by rw [cellAVs_length]; exact j1) = cellAV σ' o (0 + j) := by
    rw [List.getElem?_eq_getElem (by rw [cellAVs_length]; exact j1)] at h5
    exact Option.some.inj h5
  rw [h6]
  have h7 := (hf j j1).2
  have h8 := hp (cellAV σ' o (0 + j)) (List.mem_of_getElem? h5)
  simp only [List.getElem_map, List.getElem_range]
  generalize cellAV σ' o (0 + j) = y at h7 h8 ⊢
  cases y with
  | ag => exact h8.elim
  | fn => exact h8.elim
  | _ => exact h7
theorem store_cellsA {o : Id} {n : Nat} : ∀ (vs : List Value) (xs : List AV) (i j : Nat) (E : Env) (σ : St) (w : World), Gm C E σ a w → σ (.o o) = .num n → i + j + vs.length ≤ n → vs.length = xs.length →
    (∀ k (h : k < vs.length) (h' : k < xs.length), RdP E σ xs[k] vs[k]) → (∀ v ∈ vs, v.oneCell' = true) → ∃ w', (storeCells ⟨E.loc o, i, none⟩ vs j).run P w = .ok () w' ∧ Gm C E (puts σ (cellsW o (i + j) xs)) a w'
  | [], [], i, j, E, σ, w, hg, ho, _, _, _, _ => ⟨w, by simp [storeCells], hg⟩
  | v :: vs, y :: xs, i, j, E, σ, w, hg, ho, hn, hl, hr, h1 => by
    have h0 := hr 0 (by simp) (by simp)
    simp at h0
    obtain ⟨hs, ⟨u, hu⟩, hf⟩ := hg.store o n (i + j) ho (by simp at hn; omega) y v h0.toA
    have hmo : Mo E σ E (put σ (.c o (i + j)) (.av y)) := Mo.same (fun _ => put_ne _ _ (by simp)) (fun _ => put_ne _ _ (by simp)) (fun _ => put_ne _ _ (by simp)) (fun _ => put_ne _ _ (by simp))
    obtain ⟨w', hw, hg'⟩ := store_cellsA vs xs i (j + 1) E _ _ hs (by rw [put_ne _ _ (by simp)]; exact ho) (by simp at hn; omega) (by simpa using hl)
      (fun k h h' => by have := hr (k + 1) (by simpa using h) (by simpa using h'); simpa using this.mo hmo) (fun v hv => h1 v (by simp [hv]))
    refine ⟨w', ?_, hg'⟩
    simp only [storeCells, addr_add, Sem.run_bind, run_store_one (h1 v (by simp)) hu hf, Result.andThen_ok]
    exact hw
def onesA (σ : St) : List AV → Prop
  | [] => True
  | x :: xs => oneA σ x ∧ onesA σ xs
def livesA : List AV → List Pl
  | [] => []
  | x :: xs => liveL x ++ livesA xs
theorem onesA_at {σ' : St} : ∀ {xs : List AV}, (∀ l ∈ livesA xs, σ' l = σ l) → onesA σ xs → ∀ x ∈ xs, oneA σ' x
  | [], _, _, x, h => by cases h
  | y :: xs, hl, ho, x, h => by
    obtain ⟨l1, l2⟩ := mem_l (L := liveL y) (M := livesA xs) hl
    rcases List.mem_cons.1 h with rfl | h
    · exact oneA_congr l1 ho.1
    · exact onesA_at l2 ho.2 x h
theorem ok_stA {t : TypeId} {x y : Operand} {o : Id} {g n : Nat} {T1 : TI} {xs : List AV} (ht : tiOf P t = some T1) (hx : ev σ x = .ptr o g 0) (hy : ev σ y = .ag xs) (hn : σ (.o o) = .num n) (hc : gg σ o = g ∧ T1.size ≤ n ∧ xs.length = T1.size ∧ onesA σ xs) :
    StOk P C σ none (.store t x y) (some (True, rdl x ++ (rdl y ++ (.g o :: .o o :: livesA xs)), cellsW o 0 xs)) := by
  intro c' L' W' he hc' ops ty pos af E σ' a w K Q hd hr hg hK
  simp only [Option.some.injEq, Prod.mk.injEq] at he
  obtain ⟨rfl, rfl, rfl⟩ := he
  obtain ⟨h1, h2⟩ := mem_l (rds_all hr)
  obtain ⟨h2, h2'⟩ := mem_l h2
  obtain ⟨c1, c2, c3, c4⟩ := hc
  have h3 := ev_ok hg x
  rw [ev_congr h1, hx] at h3
  have h4 := h3.2 (by rw [gg_of (h2' (.g o) (by simp))]; exact c1.symm)
  have h5 := ev_ok hg y
  rw [ev_congr h2, hy] at h5
  obtain ⟨ys, e1, e2, e3⟩ := h5
  have hon := onesA_at (σ' := σ') (fun l hl => h2' l (List.mem_cons_of_mem _ (List.mem_cons_of_mem _ hl))) c4
  obtain ⟨w', hw, hg'⟩ := store_cellsA (P := P) (o := o) (n := n) ys xs 0 0 E σ' w hg (by rw [h2' (.o o) (by simp)]; exact hn) (by omega) e2 (fun k h h' => e3 k h' h) (fun v hv => by
    obtain ⟨k, hk, rfl⟩ := List.getElem_of_mem hv
    exact oneA_ok hg (e3 k (by omega) hk).toA (hon _ (List.getElem_mem _)))
  rw [if_pos (by simp [Region.wanted])]
  have hrun : (execOp a.eval ⟨none, .store t x y, ty, pos, af, none⟩).run P w = .ok .skip w' := by
    have hsz := sizeOf_run (P := P) ht w
    have hcl : (Value.agg ys.toArray).cells = ys.toArray := rfl
    simp [execOp, h4, e1, Instr.storeAt, Instr.sureAddr, storeVar, hsz, hcl, e2, c3, hw]
  show Oper.upon _ _ _ _ _ _
  rw [hrun]
  exact hK _ _ E (by simpa [Act.put] using hg')
theorem ldA_s {d : Tmp} {t : TypeId} {x : Operand} {ty : TypeId} {pos : String} {af : Array Edge} (o : Id) (g n : Nat) (T1 : TI) (ht : tiOf P t = some T1) (hT : T1.agg = true) (hx : ev σ x = .ptr o g 0) (hn : σ (.o o) = .num n) (hc : gg σ o = g ∧ T1.size ≤ n) (xs : List AV) (hxs : cellAVs σ o 0 T1.size = xs) (hp : ∀ y ∈ xs, (match y with | .ag _ => False | .fn _ _ => False | _ => True))
    (q : exec P ops C md K rest (put σ (.s d) (.av (.ag xs))) ((rdl x ++ (.g o :: .o o :: cellsL o 0 T1.size), [.s d]) :: acc)) : Run P ops C md K (⟨some d, .load t x, ty, pos, af, none⟩ :: rest) σ acc := by
  subst hxs
  exact run_any (ok_ldA ht hT hx hn hc hp) rfl trivial q
theorem stA_s {t : TypeId} {x y : Operand} {ty : TypeId} {pos : String} {af : Array Edge} (o : Id) (g n : Nat) (T1 : TI) (xs : List AV) (ht : tiOf P t = some T1) (hx : ev σ x = .ptr o g 0) (hy : ev σ y = .ag xs) (hn : σ (.o o) = .num n) (hc : gg σ o = g ∧ T1.size ≤ n ∧ xs.length = T1.size ∧ onesA σ xs)
    (q : exec P ops C md K rest (puts σ (cellsW o 0 xs)) ((rdl x ++ (rdl y ++ (.g o :: .o o :: livesA xs)), locs (cellsW o 0 xs)) :: acc)) : Run P ops C md K (⟨none, .store t x y, ty, pos, af, none⟩ :: rest) σ acc :=
  run_any (ok_stA ht hx hy hn hc) rfl trivial q
/-- A region, its operations by hand. -/
theorem aw_regR {C : Ctx} {σ : St} {Q : Exit → St → Prop} {id : Nat} {l : List Oper} {n : Nat} (hC : C.nt = n) (hds : dstsOk n l = true) (h : Run P l.toArray C true (fun σ' _ => Q .normal σ') l σ []) : AW P C (.region id l.toArray false) σ Q := fun E a w hg =>
  wp_region_lit (h.list (by rw [hC]; exact hds) (fun σ' fp E a w hk hg => ⟨E, σ', hk, hg⟩) E a w hg)
theorem run_1 {d : Option Tmp} {op : Op} {ty : TypeId} {pos : String} {af : Array Edge} {c : Prop} {L : List Pl} {W : List (Pl × X)} (hs : stepU P σ d op = some (c, L, W)) (hc : c) (k : Run P ops C md K rest (puts σ W) ((L, locs W) :: acc)) :
    Run P ops C md K (⟨d, op, ty, pos, af, none⟩ :: rest) σ acc := run_cons (stepU_ok d op c L W hs hc ops ty pos af) k
theorem run_e {l : List Oper} (h : exec P ops C md K l σ acc) : Run P ops C md K l σ acc := exec_run h
attribute [go_sem] onesA livesA
end
section
variable {P : Program} {C : Ctx} {σ : St} {Q : Exit → St → Prop}
/-- A row without elements may take on what is owned. -/
theorem rwN_s {c : Code} (k : Id) (e : TypeId) (sz : Nat) (h : σ (.r k) = .tree (.rw e sz []) ∧ AW P C c (puts σ [(.r k, .tree (.row e sz []))]) Q) : AW P C c σ Q := by
  intro E a w hg
  obtain ⟨hr, _⟩ := hg.tr.hg k _ h.1
  obtain ⟨us, q1, q2, q3, q4, q5⟩ := rw_inv hr
  have hn : us = [] := List.eq_nil_of_length_eq_zero (by have := q1.1; simpa using this)
  subst hn
  obtain ⟨E1, g2, _⟩ := hg.retree k _ (.row e sz []) _ h.1 (fun ys h => by cases h) (fun y h => by cases h) (fun ys h => by cases h) (row_mk (F1 := []) q1 (by simp) (fun b hb => ⟨q4 b hb, by simp⟩) .nil) (fun b hb => .inl (by rw [q5]; simpa using hb))
  exact h.2 E1 a w g2
end
end Go.Proofs.Ytekpaepkoeelfaa
