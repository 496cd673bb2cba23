
/- Rules that run nothing: a row's room named; a part from the beginning taken as the row. -/
import Derived.Test.YtekpaepkoeelfaaRM
import Derived.Lib.Overlaps
namespace Go.Proofs.Ytekpaepkoeelfaa
open Go.RowKit
set_option linter.unusedVariables false
set_option linter.unusedSimpArgs false

section
variable {P : Program} {ops : Array Oper} {C : Ctx} {E : Env} {σ : St} {a : Act} {w : World} {Q : Exit → St → Prop}
theorem act_put_id (a : Act) (t : Nat) : a.put (some t) (a.tmps.getD t undef) = a := by
  have : a.tmps.setIfInBounds t (a.tmps.getD t undef) = a.tmps := by
    by_cases h : t < a.tmps.size
    · apply Array.ext'
      apply List.ext_getElem?
      intro i
      by_cases hi : t = i
      · subst hi; simp [Array.getD, h]
      · simp [Array.toList_setIfInBounds, List.getElem?_set_ne hi]
    · exact Array.setIfInBounds_eq_of_size_le (by omega)
  unfold Act.put
  simp only
  rw [this]
theorem Gm.ghost (hg : Gm C E σ a w) (t : Nat) (x : AV) (ht : t < C.nt) (hx : RdA E σ x (a.tmps.getD t undef)) : Gm C E (put σ (.s t) (.av x)) a w := by
  have := hg.slot t x _ ht hx
  rwa [act_put_id] at this
@[go_sem] def capW (k : Id) (g c : Nat) (ts : List Nat) : List (Pl × X) := ts.map fun t => (.s t, .av (.cp k g c))
theorem Gm.caps (k : Id) : ∀ (ts : List Nat) (σ : St), Gm C E σ a w → (∀ t ∈ ts, t < C.nt) → Gm C E (puts σ (capW k (gh σ k) (capOf (E.bv k)) ts)) a w
  | [], σ, hg, _ => hg
  | t :: ts, σ, hg, ht => by
    have h1 := hg.ghost t (.cp k (gh σ k) (capOf (E.bv k))) (ht t (List.mem_cons_self ..)) ⟨Nat.le_refl _, fun _ => rfl⟩
    have h2 := Gm.caps k ts _ h1 fun u hu => ht u (List.mem_cons_of_mem _ hu)
    have h3 : gh (put σ (.s t) (.av (.cp k (gh σ k) (capOf (E.bv k))))) k = gh σ k := gh_of (put_ne _ _ (by simp))
    rw [h3] at h2
    exact h2
/-- A row's room is named, in slots that are not used yet. -/
theorem cap_s {c : Code} (k : Id) (ts : List Nat) (e : TypeId) (sz : Nat) (es : List (List V)) (h : (σ (.r k) = .tree (.rw e sz es) ∧ ∀ t ∈ ts, t < C.nt) ∧ ∀ n, es.length ≤ n → n ≤ maxLen → AW P C c (puts σ (capW k (gh σ k) n ts)) Q) : AW P C c σ Q := by
  obtain ⟨⟨h1, h2⟩, h3⟩ := h
  intro E a w hg
  obtain ⟨us, q1, _⟩ := tree_row hg h1
  refine h3 (capOf (E.bv k)) ?_ ?_ E a w (Gm.caps k ts σ hg h2)
  · rcases own_bv q1 with ⟨p1, p2⟩ | ⟨b, cap, p1, p2⟩
    · rw [p2]; exact Nat.zero_le _
    · rw [p1]; exact p2
  · rcases q1.2 with ⟨p1, p2⟩ | ⟨g, cap, cur, p1, _, _, _, p2, _⟩
    · rw [p1]; exact Nat.zero_le _
    · rw [p1]; exact p2
/-- Slots that are not used yet are marked. -/
theorem mark_s {c : Code} (k : Id) (ts : List Nat) (h : (∀ t ∈ ts, t < C.nt) ∧ ∀ n, AW P C c (puts σ (capW k (gh σ k) n ts)) Q) : AW P C c σ Q := by
  intro E a w hg
  exact h.2 _ E a w (Gm.caps k ts σ hg h.1)
/-- A walk may stop ahead of a region. -/
theorem stop_at (n : Nat) {l : Array Oper} {d : Bool} {y : Code} {Q : Exit → St → Prop} (h : AW P C (.seq (.region n l d) y) σ Q) : AW P C (.seq (.region n l d) y) σ Q := h
theorem stop_l (n : Nat) {l : Array Oper} {d : Bool} {Q : Exit → St → Prop} (h : AW P C (.region n l d) σ Q) : AW P C (.region n l d) σ Q := h
/-- A part from the beginning is taken as the row. -/
theorem shr_s {c : Code} (t : Nat) (k : Id) (len : Nat) (e : TypeId) (sz : Nat) (es : List (List V)) (h : (σ (.s t) = .av (.vw k (gh σ k) sz 0 len) ∧ σ (.r k) = .tree (.rw e sz es) ∧ len ≤ es.length ∧ t < C.nt) ∧
    AW P C c (puts σ (newTW σ k (.rw e sz (es.take len)) ++ [(.s t, .av (.ref k (gh σ k + 1)))])) Q) : AW P C c σ Q := by
  obtain ⟨⟨h1, h2, h3, h4⟩, h5⟩ := h
  intro E a w hg
  have hv := (hg.sl t _ h1).2 rfl
  obtain ⟨us, q1, q2, q3, q4, q5⟩ := tree_row hg h2
  obtain ⟨A, cc, hA, hcap, hA2, hown⟩ := own_take (b := 0) q1 h3
  have hval : a.tmps.getD t undef = .slice A len cc := by
    rcases hv with ⟨r1, r2, r3, r4⟩ | ⟨b, n, cap, o, r1, r2, r3, r4⟩
    · rw [r1] at hA; injection hA with x1 x2 x3; rw [r2, r3, ← x1, ← x3]
    · rw [r1] at hA; injection hA with x1 x2 x3; have h0 := r4 rfl; rw [r2, ← x1, ← x3, h0]; rfl
  have hob : (Value.slice A len cc).ownBlock = (E.bv k).ownBlock := by rw [hA]; rcases hA2 with rfl | ⟨b, rfl⟩ <;> rfl
  have hlen : (es.take len).length = len := by rw [List.length_take]; omega
  have hh : Hg E.m w [.rw e sz (es.take len)] [.slice A len cc] (Value.slice A len cc).ownBlock.toList := rw_mk (by rw [hlen]; exact hown) (fun r h => q2 r (List.mem_of_mem_take h)) (fun i j hi hj => by
    have hi2 : i < es.length := by omega
    have e2 : (es.take len)[i] = es[i] := by simp
    have hj2 : j < es[i].length := by rw [← e2]; exact hj
    obtain ⟨u, r1, r2⟩ := q3 i j hi2 hj2
    have hjs : j < sz := by rw [← q2 _ (List.getElem_mem hi2)]; exact hj2
    have hlt : i * sz + j < len * sz := by
      have : (i + 1) * sz ≤ len * sz := Nat.mul_le_mul_right _ (by omega)
      rw [Nat.add_mul] at this; omega
    exact ⟨u, by rw [List.getElem?_take, if_pos hlt]; exact r1, by simp only [e2]; exact r2⟩) (fun b hb => by rw [hob] at hb; exact q4 b hb)
  obtain ⟨E', g1, g2, g3, g4⟩ := hg.newT k _ _ (.slice A len cc) _ w h2 (fun y h => by cases h) (fun ys h => by cases h) hh (fun b hb => .inl (by rw [q5, ← hob]; exact hb)) (Chg.refl _ _)
  have g5 := g1.ghost t _ h4 (by rw [hval]; exact g4)
  rw [puts_append] at h5
  exact h5 E' a w g5
/-- A row and a part of another one lie apart. -/
theorem ok_ovl {d : Tmp} {F : FuncId} {x y : Operand} {tys : Array TypeId} {tS tR e : TypeId} {sz : Nat} {kx k : Id} {ex e' : TypeId} {g off len : Nat} {vs es : List (List V)}
    (hF : ∀ u v w w', (Extern.SlicesOverlaps.overlaps #[tS, tS] #[tR] #[u, v]).run P w = .ok (.bool false) w' → (callFunc F #[u, v]).run P w = .ok (.value (.bool false)) w')
    (ht : P.underlying tS = some (.slice e)) (hz : (tiOf P e).map (·.size) = some sz) (hs : 0 < sz) (hx : ev σ x = .own kx (gq σ kx) ex sz vs) (hk : σ (.k kx) = .row ex sz vs.length) (hv0 : 0 < vs.length)
    (hy : vwOf σ (ev σ y) = some (k, gh σ k, sz, off, len)) (hr : σ (.r k) = .tree (.rw e' sz es)) (he : 0 < es.length) :
    StOk P C σ (some d) (.call { callee := .value (.func F), args := #[x, y], argTypes := tys }) (some (True, [.q kx, .k kx, .h k, .r k] ++ (vwL (ev σ y) ++ (rdl x ++ rdl y)), [(.s d, .av (.val (.sc (.bool false))))])) := by
  refine ok_pure fun _ ty pos af E σ' a w hr0 hg => ⟨.bool false, ?_, Rd.sc _⟩
  obtain ⟨h1, h2⟩ := mem_l hr0
  obtain ⟨h2, h3⟩ := mem_l h2
  obtain ⟨h3, h4⟩ := mem_l h3
  have hk' : σ' (.k kx) = .row ex sz vs.length := by rw [h1 _ (by simp)]; exact hk
  have hr' : σ' (.r k) = .tree (.rw e' sz es) := by rw [h1 _ (by simp)]; exact hr
  have hgh : gh σ' k = gh σ k := gh_of (h1 (.h k) (by simp))
  have hgq : gq σ' kx = gq σ kx := gq_of (h1 (.q kx) (by simp))
  have vx := ev_ok hg x
  rw [ev_congr h3, hx] at vx
  have vy := ev_ok hg y
  rw [ev_congr h4] at vy
  obtain ⟨us, q1, q2, q3, q4, q5, q6⟩ := vw_val hg vy (by rw [vwOf_congr h2]; exact hy) hgh hr'
  have hxv : a.eval x = E.rv kx := (((vx.2.2 hgq.symm) _ _ _ hk').2 rfl).2.2
  have ⟨p1, p2⟩ := hg.ro kx _ _ _ hk'
  have hse : ∀ w, (sizeOf e).run P w = .ok sz w := fun w => by
    cases hte : tiOf P e with
    | none => rw [hte] at hz; cases hz
    | some T => rw [hte] at hz; simp at hz; rw [sizeOf_run hte, hz]
  rcases p1.2 with ⟨_, r2⟩ | ⟨bx, cx, curx, r1, _, r3, r4, r5, r6, r7⟩
  · omega
  rcases q6 with ⟨_, s2, _⟩ | ⟨b, cap, o, s1, s2, s3, s4, s5⟩
  · omega
  rcases q1.2 with ⟨_, t2⟩ | ⟨b', cap', cur, t1, _, t3, t4, t5, t6, t7⟩
  · omega
  rw [t1] at s1
  injection s1 with x1 x2 x3
  injection x1 with x1
  injection x1 with x1
  subst x1 x3
  have hne : bx ≠ b' := fun h => by
    subst h
    exact hg.tr.tk kx _ _ _ k _ bx hk' hr' (by rw [q5, t1]; simp [Value.ownBlock]) (by rw [r1]; rfl)
  have hcap : 0 < cap' := by omega
  have hrun := Lib.run_overlaps_apart (P := P) w tS tR e ht sz hse ⟨bx, 0, none⟩ ⟨b', o, none⟩ vs.length cx len (cap' - off) hne ex e' curx.size cur.size (by simp [World.shape?, r3]) (by simp [World.shape?, t3]) (by rw [t6]; exact Nat.ne_of_gt (Nat.mul_pos hcap hs)) (by simp [World.frozen?, r3]) (by simp [World.frozen?, r3])
  have hrun2 := hF _ _ _ _ hrun
  rw [r1] at hxv
  simp [execOp, resolve, Act.eval, Deferred.ofValue, invoke] at hxv s3 ⊢
  simp [hxv, s3, hrun2]
end
section
variable {P : Program} {ops : Array Oper} {C : Ctx} {σ : St} {md : Bool} {K : St → List FP → Prop} {acc : List FP} {rest : List Oper}
theorem ovl_s {d : Tmp} {F : FuncId} {x y : Operand} {tys : Array TypeId} {ty : TypeId} {pos : String} {af : Array Edge} {tS tR e : TypeId} {sz : Nat} (kx k : Id) {ex e' : TypeId} {off len : Nat} {vs es : List (List V)}
    (hF : ∀ u v w w', (Extern.SlicesOverlaps.overlaps #[tS, tS] #[tR] #[u, v]).run P w = .ok (.bool false) w' → (callFunc F #[u, v]).run P w = .ok (.value (.bool false)) w')
    (ht : P.underlying tS = some (.slice e)) (hz : (tiOf P e).map (·.size) = some sz) (hs : 0 < sz) (hx : ev σ x = .own kx (gq σ kx) ex sz vs) (hk : σ (.k kx) = .row ex sz vs.length) (hv0 : 0 < vs.length)
    (hy : vwOf σ (ev σ y) = some (k, gh σ k, sz, off, len)) (hr : σ (.r k) = .tree (.rw e' sz es)) (he : 0 < es.length)
    (h : exec P ops C md K rest (puts σ [(.s d, .av (.val (.sc (.bool false))))]) (([.q kx, .k kx, .h k, .r k] ++ (vwL (ev σ y) ++ (rdl x ++ rdl y)), [.s d]) :: acc)) :
    Run P ops C md K (⟨some d, .call { callee := .value (.func F), args := #[x, y], argTypes := tys }, ty, pos, af, none⟩ :: rest) σ acc :=
  run_any (ok_ovl (g := 0) hF ht hz hs hx hk hv0 hy hr he) rfl trivial h
end
section
variable {P : Program} {ops : Array Oper} {C : Ctx} {σ : St} {md : Bool} {K : St → List FP → Prop} {acc : List FP} {rest : List Oper}
/-- Rows without memory. -/
def flatR (es : List (List V)) : Prop := ∀ r ∈ es, ∀ y ∈ r, flat2 y
theorem ok_pcallT {d : Tmp} {F : FuncId} (hK : ∀ args w, (callFunc F args).run P w = .ok (.enter F args) w) {xs : List Operand} {tys : Array TypeId} {args : List Arg} {e : TypeId} {sz : Nat} {es : List (List V)} (hspec : Spec P F args [] (.ca (.hd (.rw e sz es))) []) (hfl : flatR es)
    (h : pArgs σ (xs.map (ev σ)) args) (ty : TypeId) (pos : String) (af : Array Edge) :
    OpOk P ops C ⟨some d, .call { callee := .value (.func F), args := xs.toArray, argTypes := tys }, ty, pos, af, none⟩ (rds σ ([.h (d, 1), .g (d, 1)] ++ (opndsL xs ++ pArgsL σ (xs.map (ev σ))))) (treeW σ (d, 1) (.rw e sz es) ++ [(.s d, .av (.ref (d, 1) (gh σ (d, 1) + 1)))]) := by
  intro E σ' a w Kt Q hd hr hg hK'
  have hr := rds_all hr
  have hd0 := hd d rfl
  obtain ⟨hr0, hr⟩ := mem_l hr
  obtain ⟨hr1, hr2⟩ := mem_l hr
  have h' := pArgs_congr (σ' := σ') hr2 h
  rw [← evs_congr hr1] at h'
  have hall : AllA E σ' (xs.map (ev σ')) (xs.map a.eval) := allA_of (by simp) fun j x v q1 q2 => by
    rw [List.getElem?_map] at q1 q2
    cases hx : xs[j]? with
    | none => rw [hx] at q1; cases q1
    | some y => rw [hx] at q1 q2; cases q1; cases q2; exact ev_ok hg _
  have hH : Holds (cellsOf w) w (xs.map a.eval) args [] [] [] [] := ⟨fun b i v h => h, pArgs_ok hg h' hall, .nil, fun b hb => by cases hb⟩
  have hcall := hspec (cellsOf w) w _ [] [] [] hH
  rw [if_pos (by simp [Region.wanted])]
  show Oper.upon _ _ _ _ _ _
  have hrun : (execOp a.eval ⟨some d, .call { callee := .value (.func F), args := xs.toArray, argTypes := tys }, ty, pos, af, none⟩).run P w = .ok (.enter F (xs.map a.eval).toArray) w := by
    simp [execOp, resolve, Act.eval, Deferred.ofValue, invoke, hK]
  rw [hrun]
  show Calls _ _ _ _ _
  refine hcall.mono ?_
  rintro e' w' ⟨v, m', bs', F', G', rfl, hH', hmle, hchg, hbs', hmk, hnew⟩
  show Kt (a.put (some d) v) w'
  have hres := hH'.ar
  cases hres with
  | @cons _ _ F0 _ _ F1 q1 q2 q3 =>
    obtain ⟨p1, p2⟩ := q1
    obtain ⟨us, u1, u2, u3, u4, u5⟩ := rw_inv p1
    have hnew2 : ∀ b, v.ownBlock = some b → w.heap.size ≤ b := fun b hb => by
      have := hnew b (List.mem_append_left _ (List.mem_append_left _ (by rw [u5, hb]; simp)))
      rcases this with r | r
      · simp at r
      · exact r
    have hc1 : Chg (fun b => v.ownBlock = some b) w w' := ⟨hchg.os, hchg.tape, hchg.output, hchg.size, fun b h1 h2 => hchg.block b h1 fun h3 => by simp at h3⟩
    obtain ⟨E', g1, g2⟩ := hg.treeAt (d, 1) (by simp) hc1 hnew2 u1 u2 (fun i j hi hj => by
      obtain ⟨u, z1, z2⟩ := u3 i j hi hj
      exact ⟨u, z1, flat2_ok (hfl _ (List.getElem_mem hi) _ (List.getElem_mem hj)) z2⟩)
    have e0 : treeW σ (d, 1) (.rw e sz es) = treeW σ' (d, 1) (.rw e sz es) := (treeW_congr (hr0 _ (by simp)) (hr0 _ (by simp))).symm
    have e1 : gh σ (d, 1) = gh σ' (d, 1) := (gh_of (hr0 (.h (d, 1)) (by simp))).symm
    refine hK' _ _ E' ?_
    rw [e0, e1, puts_append]
    exact Gm.slot g1 d _ v hd0 g2
/-- A call of a function that only reads, and makes a row. -/
theorem pcallT_u {d : Tmp} {F : FuncId} (hK : ∀ args w, (callFunc F args).run P w = .ok (.enter F args) w) {xs : List Operand} {tys : Array TypeId} {args : List Arg} {e : TypeId} {sz : Nat} {es : List (List V)} {ty : TypeId} {pos : String} {af : Array Edge} {g : Option (Nat × Bool)} (hspec : Spec P F args [] (.ca (.hd (.rw e sz es))) []) (hfl : flatR es)
    (h : gOk ops σ g ∧ pArgs σ (xs.map (ev σ)) args)
    (k : exec P ops C md K rest (puts σ (treeW σ (d, 1) (.rw e sz es) ++ [(.s d, .av (.ref (d, 1) (gh σ (d, 1) + 1)))])) ((gL ops g ++ ([.h (d, 1), .g (d, 1)] ++ (opndsL xs ++ pArgsL σ (xs.map (ev σ)))), locs (treeW σ (d, 1) (.rw e sz es) ++ [(.s d, .av (.ref (d, 1) (gh σ (d, 1) + 1)))])) :: acc)) :
    Run P ops C md K (⟨some d, .call { callee := .value (.func F), args := xs.toArray, argTypes := tys }, ty, pos, af, g⟩ :: rest) σ acc := by
  obtain ⟨h2, h3⟩ := h
  cases g with
  | none => exact run_cons (ok_pcallT hK hspec hfl h3 ty pos af) (exec_run k)
  | some g =>
    obtain ⟨j, b⟩ := g
    exact run_cons (ok_guard h2.1 h2.2 (ok_pcallT hK hspec hfl h3 ty pos af)) (exec_run k)
end
section
variable {P : Program} {ops : Array Oper} {C : Ctx} {σ : St} {md : Bool} {K : St → List FP → Prop} {acc : List FP} {rest : List Oper}
/-- An object's pointer, as it is now. -/
def ptrC (σ : St) : AV → Prop
  | .ptr o g _ => gg σ o = g
  | _ => False
def ptrL : AV → List Pl
  | .ptr o _ _ => [.g o]
  | _ => []
theorem ok_pnil {d : Tmp} {op : BinOp} {t t' : TypeId} {x : Operand} (hop : op = .eql ∨ op = .neq) (ht : (tiOf P t).map (·.sh) = some .ptr) (hx : ptrC σ (ev σ x)) :
    StOk P C σ (some d) (.binOp op t x (.const (.pointer none)) t') (some (True, rdl x ++ ptrL (ev σ x), [(.s d, .av (.val (.sc (.bool (if op = .eql then false else true)))))])) := by
  refine ok_pure fun _ ty pos af E σ' a w hr hg => ⟨_, ?_, Rd.sc _⟩
  obtain ⟨h1, h2⟩ := mem_l hr
  have hv := ev_ok hg x
  rw [ev_congr h1] at hv
  cases he : ev σ x with
  | ptr o g off =>
    rw [he] at hx hv h2
    have hgo : gg σ' o = g := by rw [gg_of (h2 (.g o) (by simp [ptrL]))]; exact hx
    have hv := hv.2 hgo.symm
    have hc : a.eval (.const (.pointer none)) = .pointer none := rfl
    obtain ⟨te, hte⟩ : ∃ te, P.underlying t = some (.pointer te) := by
      cases hq : tiOf P t with
      | none => rw [hq] at ht; cases ht
      | some T =>
        rw [hq] at ht
        simp at ht
        obtain ⟨it, dt, _, hdt, _, _, _, _, _, _, _, _, _, _, _, hp, _⟩ := tiOf_some hq
        exact ⟨_, by rw [hdt, hp ht]⟩
    have hq : ∀ n A, (Op.equalIn (n + 1) t (.pointer (some A)) (.pointer none)).run P w = .ok false w := fun n A => by
      simp [Op.equalIn, run_underlying hte]
    have hb : ∀ A, (binOp op t (.pointer (some A)) (.pointer none)).run P w = .ok (.bool (if op = .eql then false else true)) w := fun A => by
      have h2 := hq 9999 A
      rcases hop with rfl | rfl <;> simp [binOp, Op.equal, Op.maxDepth, h2]
    have hg2 : ∀ A, (eqGuard op t x (.const (.pointer none)) (.pointer (some A)) (.pointer none)).run P w = .ok () w := fun A => by
      unfold eqGuard
      rcases hop with rfl | rfl <;> simp
    simp [execOp, hc, hv, hg2, hb]
  | _ => rw [he] at hx; exact hx.elim
/-- An object isn't nil. -/
theorem pnil_u {d : Tmp} {op : BinOp} {t t' : TypeId} {x : Operand} {ty : TypeId} {pos : String} {af : Array Edge} {g : Option (Nat × Bool)} (hop : op = .eql ∨ op = .neq) (h : gOk ops σ g ∧ (tiOf P t).map (·.sh) = some .ptr ∧ ptrC σ (ev σ x))
    (k : exec P ops C md K rest (put σ (.s d) (.av (.val (.sc (.bool (if op = .eql then false else true)))))) ((gL ops g ++ (rdl x ++ ptrL (ev σ x)), [.s d]) :: acc)) :
    Run P ops C md K (⟨some d, .binOp op t x (.const (.pointer none)) t', ty, pos, af, g⟩ :: rest) σ acc := by
  obtain ⟨h1, h2, h3⟩ := h
  cases g with
  | none => exact run_cons (ok_pnil hop h2 h3 _ _ _ rfl trivial ops ty pos af) (exec_run k)
  | some g =>
    obtain ⟨j, b⟩ := g
    exact run_cons (ok_guard h1.1 h1.2 (ok_pnil hop h2 h3 _ _ _ rfl trivial ops ty pos af)) (exec_run k)
attribute [go_sem] ptrC ptrL
end
section
variable {P : Program} {C : Ctx} {σ : St} {Q Q2 : Exit → St → Prop}
/-- Where the ways out of a loop meet. -/
theorem meetB_s {α : Type} {id : Nat} {x y : Code} (I : α → List (Pl × X)) (h1 : AW P C x σ (blockQ id (thenQ (MeetS I) Q2))) (h2 : ∀ a, AW P C y (mkSt (I a)) Q) : AW P C x σ (blockQ id (thenQ (fun σ' => AW P C y σ' Q) Q2)) :=
  fun E a w hg => by
    refine Code.wp_mono (fun e a' w' hq => ?_) (h1 E a w hg)
    obtain ⟨E', σ', h3, h4⟩ := hq
    refine ⟨E', σ', ?_, h4⟩
    have key : ∀ e, thenQ (MeetS I) Q2 e σ' → thenQ (fun σ' => AW P C y σ' Q) Q2 e σ' := fun e h => by
      cases e with
      | normal => obtain ⟨z, h5⟩ := h; exact aw_weak (I z) (weakF_ok h5) (h2 z)
      | _ => exact h
    cases e with
    | exit i =>
      simp only [blockQ] at h3 ⊢
      split at h3
      · rename_i hi; rw [if_pos hi]; exact key _ h3
      · rename_i hi; rw [if_neg hi]; exact key _ h3
    | normal => exact key .normal h3
    | _ => exact h3
end
section
variable {P : Program} {C : Ctx} {E : Env} {σ : St} {a : Act} {w : World} {Q : Exit → St → Prop}
/-- What is owned whole gets another name. -/
theorem Gm.rename (hg : Gm C E σ a w) (k k' : Id) (hk' : k'.2 ≠ 0) {e : TypeId} {sz : Nat} {es : List (List V)} (hr : σ (.r k) = .tree (.rw e sz es)) :
    ∃ E', Gm C E' (puts σ ([(.r k, .non), (.l k, .non)] ++ treeW σ k' (.rw e sz es))) a w ∧
      RdA E' (puts σ ([(.r k, .non), (.l k, .non)] ++ treeW σ k' (.rw e sz es))) (.ref k' (gh σ k' + 1)) (E.bv k) := by
  obtain ⟨us, q1, q2, q3, q4, q5⟩ := tree_row hg hr
  have q : ∀ l, puts σ [(.r k, .non), (.l k, .non)] l = if l = .l k then .non else if l = .r k then .non else σ l := fun l => by
    show put (put σ (.r k) _) (.l k) _ l = _
    unfold put; rfl
  obtain ⟨σ1, hσ1⟩ : ∃ s, s = puts σ [(.r k, .non), (.l k, .non)] := ⟨_, rfl⟩
  rw [← hσ1] at q
  obtain ⟨g1, g2, g3⟩ := hg.drop σ1 (fun t => by rw [q]; simp) (fun o i => by rw [q]; simp) (fun o => by rw [q]; simp) (fun o n h => by rw [q] at h; simpa using h) (fun k' e sz T h => by rw [q] at h; simpa using h) (fun k' => .inl (by rw [q]; simp))
    (fun k' x h => by rw [q] at h; by_cases e : k' = k <;> simp [e] at h; exact h) (fun k' i y h => by rw [q] at h; by_cases e : k' = k <;> simp [e] at h; exact h) (fun k' => by rw [q]; simp) (fun o k' g s h => by rw [q] at h; simpa using h)
  have hfree : ∀ b, (E.bv k).ownBlock = some b → ¬ LiveB E σ1 b := fun b hb ⟨t, ht⟩ => by
    have h1 := g3 t b ht
    have h2 : HoB E σ (.r k) b := ⟨_, hr, by rw [q5, hb]; simp⟩
    have h3 := hg.ho_inj h1 h2
    subst h3
    obtain ⟨x, h4, _⟩ := ht
    rw [q] at h4; simp at h4
  have hdd : ∀ b, (E.bv k).ownBlock = some b → C.D b ∨ C.w0.heap.size ≤ b := fun b hb => hg.tr.dd k _ b hr (by rw [q5, hb]; simp)
  have hh : Hg E.m w [.rw e sz es] [E.bv k] (E.bv k).ownBlock.toList := rw_mk q1 q2 q3 q4
  obtain ⟨E', f1, f2, f3, f4, f5, f6⟩ := g1.gainTree k' (.rw e sz es) (E.bv k) _ (fun y h => by cases h) hh (fun b hb => by
    have hb : (E.bv k).ownBlock = some b := by simpa using hb
    exact ⟨hdd b hb, hfree b hb⟩) hk'
  have e1 : treeW σ1 k' (.rw e sz es) = treeW σ k' (.rw e sz es) := treeW_congr (by rw [q]; simp) (by rw [q]; simp)
  have e2 : gh σ1 k' = gh σ k' := gh_of (by rw [q]; simp)
  rw [e1] at f1 f6
  rw [puts_append, ← hσ1]
  refine ⟨E', f1, ?_⟩
  rw [← e2]
  exact f6.toA
theorem ren_s {c : Code} (t : Nat) (k k' : Id) (e : TypeId) (sz : Nat) (es : List (List V)) (hk' : k'.2 ≠ 0) (h : (σ (.s t) = .av (.ref k (gh σ k)) ∧ σ (.r k) = .tree (.rw e sz es) ∧ t < C.nt) ∧
    AW P C c (puts σ (([(.r k, .non), (.l k, .non)] ++ treeW σ k' (.rw e sz es)) ++ [(.s t, .av (.ref k' (gh σ k' + 1)))])) Q) : AW P C c σ Q := by
  intro E a w hg
  obtain ⟨⟨h1, h2, h4⟩, h3⟩ := h
  obtain ⟨E', g1, g2⟩ := hg.rename k k' hk' h2
  have hv := (hg.sl t _ h1).2 rfl
  rw [puts_append] at h3
  exact h3 E' a w (g1.knows t _ _ h4 rfl (by rw [hv]; exact g2))
end
section
variable {P : Program} {ops : Array Oper} {C : Ctx} {σ : St} {md : Bool} {K : St → List FP → Prop} {acc : List FP} {rest : List Oper}
/-- A field's type and place. -/
def fieldAt (P : Program) (t : TypeId) (f : Nat) : Option (TypeId × Nat) := match P.underlying t with
  | some (.struct fs) => (fs[f]?).map fun x => (x.type, x.offset)
  | _ => none
/-- A part of a value of several cells. -/
def partT (T : TI) (off : Nat) (xs : List V) : Option V :=
  if T.agg then (if off + T.size ≤ xs.length then some (.agg ((xs.drop off).take T.size)) else none) else xs[off]?
theorem ok_fld {d : Tmp} {t ft : TypeId} {x : Operand} {f off : Nat} {xs : List V} {y : V} {T : TI} (hf : fieldAt P t f = some (ft, off)) (hT : tiOf P ft = some T) (hx : ev σ x = .val (.agg xs)) (hy : partT T off xs = some y) :
    StOk P C σ (some d) (.field t x f) (some (True, rdl x, [(.s d, .av (.val y))])) := by
  refine ok_pure fun _ ty pos af E σ' a w hr hg => ?_
  have hv := ev_ok hg x
  rw [ev_congr hr, hx] at hv
  have hv : Rd E.m (.agg xs) (a.eval x) := hv
  generalize hav : a.eval x = v at hv
  unfold fieldAt at hf
  split at hf
  · rename_i fs hu
    cases hfs : fs[f]? with
    | none => rw [hfs] at hf; cases hf
    | some F =>
      rw [hfs] at hf
      simp only [Option.map_some, Option.some.injEq, Prod.mk.injEq] at hf
      obtain ⟨rfl, rfl⟩ := hf
      cases hv with
      | agg _ ys hl h =>
        unfold partT at hy
        split at hy
        · rename_i hag
          split at hy
          · rename_i hle
            cases hy
            refine ⟨.agg (ys.extract F.offset (F.offset + T.size)), ?_, .agg _ _ ?_ fun i hi => ?_⟩
            · simp [execOp, hav, Instr.field, run_underlying hu, hfs, asAgg, part, isAgg_run hT, hag, sizeOf_run hT]
            · simp; omega
            · have hi2 : F.offset + i < xs.length := by simp at hi; omega
              have := h (F.offset + i) hi2
              simpa using this
          · cases hy
        · rename_i hag
          have hag : T.agg = false := by simpa using hag
          obtain ⟨h1, h2⟩ := List.getElem?_eq_some_iff.1 hy
          have h3 := h _ h1
          rw [h2] at h3
          refine ⟨ys[F.offset]'(hl ▸ h1), ?_, h3⟩
          have h4 : ys[F.offset]? = some (ys[F.offset]'(hl ▸ h1)) := Array.getElem?_eq_getElem (hl ▸ h1)
          simp [execOp, hav, Instr.field, run_underlying hu, hfs, asAgg, part, isAgg_run hT, hag, h4]
  · cases hf
/-- A field of a value is taken. -/
theorem fld_s {d : Tmp} {t : TypeId} {x : Operand} {f : Nat} {ty : TypeId} {pos : String} {af : Array Edge} (ft : TypeId) (off : Nat) (T : TI) (xs : List V) (y : V) (hf : fieldAt P t f = some (ft, off)) (hT : tiOf P ft = some T) (hx : ev σ x = .val (.agg xs)) (hy : partT T off xs = some y)
    (k : exec P ops C md K rest (put σ (.s d) (.av (.val y))) ((rdl x, [.s d]) :: acc)) : Run P ops C md K (⟨some d, .field t x f, ty, pos, af, none⟩ :: rest) σ acc :=
  run_any (ok_fld hf hT hx hy) rfl trivial k
theorem stepU_fld {d : Tmp} {t : TypeId} {x : Operand} {f : Nat} : stepU P σ (some d) (.field t x f) = none := rfl
attribute [go_sem] stepU_fld
end
end Go.Proofs.Ytekpaepkoeelfaa
