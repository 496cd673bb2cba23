/- Rules that run nothing: a row's room named; a part from the beginning taken as the row. -/
import Derived.Test.YtkclmofjlmeolaaGreatDoorRMz
import Derived.Lib.Overlaps
namespace Go.Proofs.YtkclmofjlmeolaaGreatDoor
open Go.RowKit
set_option linter.unusedVariables false
set_option linter.unusedSimpArgs false

section
variable {P : Program} {ops : Array Oper} {C : Ctx} {E : Env} {σ : St} {a : Act} {w : World} {Q : Exit → St → Prop}
theorem act_put_id (a : Act) (t : Nat) : a.put (some t) (a.tmps.getD t undef) = a := by
  have : a.tmps.setIfInBounds t (a.tmps.getD t undef) = a.tmps := by
    by_cases h : t < a.tmps.size
    · apply Array.ext'
      apply List.ext_getElem?
      intro i
      by_cases hi : t = i
      · subst hi; simp [Array.getD, h]
      · simp [Array.toList_setIfInBounds, List.getElem?_set_ne hi]
    · exact Array.setIfInBounds_eq_of_size_le (by omega)
  unfold Act.put
  simp only
  rw [this]
theorem Gm.ghost (hg : Gm C E σ a w) (t : Nat) (x : AV) (ht : t < C.nt) (hx : RdA E σ x (a.tmps.getD t undef)) : Gm C E (put σ (.s t) (.av x)) a w := by
  have := hg.slot t x _ ht hx
  rwa [act_put_id] at this
@[go_sem] def capW (k : Id) (g c : Nat) (ts : List Nat) : List (Pl × X) := ts.map fun t => (.s t, .av (.cp k g c))
theorem Gm.caps (k : Id) : ∀ (ts : List Nat) (σ : St), Gm C E σ a w → (∀ t ∈ ts, t < C.nt) → Gm C E (puts σ (capW k (gh σ k) (capOf (E.bv k)) ts)) a w
  | [], σ, hg, _ => hg
  | t :: ts, σ, hg, ht => by
    have h1 := hg.ghost t (.cp k (gh σ k) (capOf (E.bv k))) (ht t (List.mem_cons_self ..)) ⟨Nat.le_refl _, fun _ => rfl⟩
    have h2 := Gm.caps k ts _ h1 fun u hu => ht u (List.mem_cons_of_mem _ hu)
    have h3 : gh (put σ (.s t) (.av (.cp k (gh σ k) (capOf (E.bv k))))) k = gh σ k := gh_of (put_ne _ _ (by simp))
    rw [h3] at h2
    exact h2
/-- A row's room is named, in slots that are not used yet. -/
theorem cap_s {c : Code} (k : Id) (ts : List Nat) (e : TypeId) (sz : Nat) (es : List (List V)) (h : (σ (.r k) = .tree (.rw e sz es) ∧ ∀ t ∈ ts, t < C.nt) ∧ ∀ n, es.length ≤ n → n ≤ maxLen → AW P C c (puts σ (capW k (gh σ k) n ts)) Q) : AW P C c σ Q := by
  obtain ⟨⟨h1, h2⟩, h3⟩ := h
  intro E a w hg
  obtain ⟨us, q1, _⟩ := tree_row hg h1
  refine h3 (capOf (E.bv k)) ?_ ?_ E a w (Gm.caps k ts σ hg h2)
  · rcases own_bv q1 with ⟨p1, p2⟩ | ⟨b, cap, p1, p2⟩
    · rw [p2]; exact Nat.zero_le _
    · rw [p1]; exact p2
  · rcases q1.2 with ⟨p1, p2⟩ | ⟨g, cap, cur, p1, _, _, _, p2, _⟩
    · rw [p1]; exact Nat.zero_le _
    · rw [p1]; exact p2
/-- A walk may stop ahead of a region. -/
theorem stop_at (n : Nat) {l : Array Oper} {d : Bool} {y : Code} {Q : Exit → St → Prop} (h : AW P C (.seq (.region n l d) y) σ Q) : AW P C (.seq (.region n l d) y) σ Q := h
theorem stop_l (n : Nat) {l : Array Oper} {d : Bool} {Q : Exit → St → Prop} (h : AW P C (.region n l d) σ Q) : AW P C (.region n l d) σ Q := h
/-- A part from the beginning is taken as the row. -/
theorem shr_s {c : Code} (t : Nat) (k : Id) (len : Nat) (e : TypeId) (sz : Nat) (es : List (List V)) (h : (σ (.s t) = .av (.vw k (gh σ k) sz 0 len) ∧ σ (.r k) = .tree (.rw e sz es) ∧ len ≤ es.length ∧ t < C.nt) ∧
    AW P C c (puts σ (newTW σ k (.rw e sz (es.take len)) ++ [(.s t, .av (.ref k (gh σ k + 1)))])) Q) : AW P C c σ Q := by
  obtain ⟨⟨h1, h2, h3, h4⟩, h5⟩ := h
  intro E a w hg
  have hv := (hg.sl t _ h1).2 rfl
  obtain ⟨us, q1, q2, q3, q4, q5⟩ := tree_row hg h2
  obtain ⟨A, cc, hA, hcap, hA2, hown⟩ := own_take (b := 0) q1 h3
  have hval : a.tmps.getD t undef = .slice A len cc := by
    rcases hv with ⟨r1, r2, r3, r4⟩ | ⟨b, n, cap, o, r1, r2, r3, r4⟩
    · rw [r1] at hA; injection hA with x1 x2 x3; rw [r2, r3, ← x1, ← x3]
    · rw [r1] at hA; injection hA with x1 x2 x3; have h0 := r4 rfl; rw [r2, ← x1, ← x3, h0]; rfl
  have hob : (Value.slice A len cc).ownBlock = (E.bv k).ownBlock := by rw [hA]; rcases hA2 with rfl | ⟨b, rfl⟩ <;> rfl
  have hlen : (es.take len).length = len := by rw [List.length_take]; omega
  have hh : Hg E.m w [.rw e sz (es.take len)] [.slice A len cc] (Value.slice A len cc).ownBlock.toList := rw_mk (by rw [hlen]; exact hown) (fun r h => q2 r (List.mem_of_mem_take h)) (fun i j hi hj => by
    have hi2 : i < es.length := by omega
    have e2 : (es.take len)[i] = es[i] := by simp
    have hj2 : j < es[i].length := by rw [← e2]; exact hj
    obtain ⟨u, r1, r2⟩ := q3 i j hi2 hj2
    have hjs : j < sz := by rw [← q2 _ (List.getElem_mem hi2)]; exact hj2
    have hlt : i * sz + j < len * sz := by
      have : (i + 1) * sz ≤ len * sz := Nat.mul_le_mul_right _ (by omega)
      rw [Nat.add_mul] at this; omega
    exact ⟨u, by rw [List.getElem?_take, if_pos hlt]; exact r1, by simp only [e2]; exact r2⟩) (fun b hb => by rw [hob] at hb; exact q4 b hb)
  obtain ⟨E', g1, g2, g3, g4⟩ := hg.newT k _ _ (.slice A len cc) _ w h2 (fun y h => by cases h) (fun ys h => by cases h) hh (fun b hb => .inl (by rw [q5, ← hob]; exact hb)) (Chg.refl _ _)
  have g5 := g1.ghost t _ h4 (by rw [hval]; exact g4)
  rw [puts_append] at h5
  exact h5 E' a w g5
/-- A row and a part of another one lie apart. -/
theorem ok_ovl {d : Tmp} {F : FuncId} {x y : Operand} {tys : Array TypeId} {tS tR e : TypeId} {sz : Nat} {kx k : Id} {ex e' : TypeId} {g off len : Nat} {vs es : List (List V)}
    (hF : ∀ u v w w', (Extern.SlicesOverlaps.overlaps #[tS, tS] #[tR] #[u, v]).run P w = .ok (.bool false) w' → (callFunc F #[u, v]).run P w = .ok (.value (.bool false)) w')
    (ht : P.underlying tS = some (.slice e)) (hz : (tiOf P e).map (·.size) = some sz) (hs : 0 < sz) (hx : ev σ x = .own kx (gq σ kx) ex sz vs) (hk : σ (.k kx) = .row ex sz vs.length) (hv0 : 0 < vs.length)
    (hy : vwOf σ (ev σ y) = some (k, gh σ k, sz, off, len)) (hr : σ (.r k) = .tree (.rw e' sz es)) (he : 0 < es.length) :
    StOk P C σ (some d) (.call { callee := .value (.func F), args := #[x, y], argTypes := tys }) (some (True, [.q kx, .k kx, .h k, .r k] ++ (vwL (ev σ y) ++ (rdl x ++ rdl y)), [(.s d, .av (.val (.sc (.bool false))))])) := by
  refine ok_pure fun _ ty pos af E σ' a w hr0 hg => ⟨.bool false, ?_, Rd.sc _⟩
  obtain ⟨h1, h2⟩ := mem_l hr0
  obtain ⟨h2, h3⟩ := mem_l h2
  obtain ⟨h3, h4⟩ := mem_l h3
  have hk' : σ' (.k kx) = .row ex sz vs.length := by rw [h1 _ (by simp)]; exact hk
  have hr' : σ' (.r k) = .tree (.rw e' sz es) := by rw [h1 _ (by simp)]; exact hr
  have hgh : gh σ' k = gh σ k := gh_of (h1 (.h k) (by simp))
  have hgq : gq σ' kx = gq σ kx := gq_of (h1 (.q kx) (by simp))
  have vx := ev_ok hg x
  rw [ev_congr h3, hx] at vx
  have vy := ev_ok hg y
  rw [ev_congr h4] at vy
  obtain ⟨us, q1, q2, q3, q4, q5, q6⟩ := vw_val hg vy (by rw [vwOf_congr h2]; exact hy) hgh hr'
  have hxv : a.eval x = E.rv kx := (((vx.2.2 hgq.symm) _ _ _ hk').2 rfl).2.2
  have ⟨p1, p2⟩ := hg.ro kx _ _ _ hk'
  have hse : ∀ w, (sizeOf e).run P w = .ok sz w := fun w => by
    cases hte : tiOf P e with
    | none => rw [hte] at hz; cases hz
    | some T => rw [hte] at hz; simp at hz; rw [sizeOf_run hte, hz]
  rcases p1.2 with ⟨_, r2⟩ | ⟨bx, cx, curx, r1, _, r3, r4, r5, r6, r7⟩
  · omega
  rcases q6 with ⟨_, s2, _⟩ | ⟨b, cap, o, s1, s2, s3, s4, s5⟩
  · omega
  rcases q1.2 with ⟨_, t2⟩ | ⟨b', cap', cur, t1, _, t3, t4, t5, t6, t7⟩
  · omega
  rw [t1] at s1
  injection s1 with x1 x2 x3
  injection x1 with x1
  injection x1 with x1
  subst x1 x3
  have hne : bx ≠ b' := fun h => by
    subst h
    exact hg.tr.tk kx _ _ _ k _ bx hk' hr' (by rw [q5, t1]; simp [Value.ownBlock]) (by rw [r1]; rfl)
  have hcap : 0 < cap' := by omega
  have hrun := Lib.run_overlaps_apart (P := P) w tS tR e ht sz hse ⟨bx, 0, none⟩ ⟨b', o, none⟩ vs.length cx len (cap' - off) hne ex e' curx.size cur.size (by simp [World.shape?, r3]) (by simp [World.shape?, t3]) (by rw [t6]; exact Nat.ne_of_gt (Nat.mul_pos hcap hs)) (by simp [World.frozen?, r3]) (by simp [World.frozen?, r3])
  have hrun2 := hF _ _ _ _ hrun
  rw [r1] at hxv
  simp [execOp, resolve, Act.eval, Deferred.ofValue, invoke] at hxv s3 ⊢
  simp [hxv, s3, hrun2]
end
section
variable {P : Program} {ops : Array Oper} {C : Ctx} {σ : St} {md : Bool} {K : St → List FP → Prop} {acc : List FP} {rest : List Oper}
theorem ovl_s {d : Tmp} {F : FuncId} {x y : Operand} {tys : Array TypeId} {ty : TypeId} {pos : String} {af : Array Edge} {tS tR e : TypeId} {sz : Nat} (kx k : Id) {ex e' : TypeId} {off len : Nat} {vs es : List (List V)}
    (hF : ∀ u v w w', (Extern.SlicesOverlaps.overlaps #[tS, tS] #[tR] #[u, v]).run P w = .ok (.bool false) w' → (callFunc F #[u, v]).run P w = .ok (.value (.bool false)) w')
    (ht : P.underlying tS = some (.slice e)) (hz : (tiOf P e).map (·.size) = some sz) (hs : 0 < sz) (hx : ev σ x = .own kx (gq σ kx) ex sz vs) (hk : σ (.k kx) = .row ex sz vs.length) (hv0 : 0 < vs.length)
    (hy : vwOf σ (ev σ y) = some (k, gh σ k, sz, off, len)) (hr : σ (.r k) = .tree (.rw e' sz es)) (he : 0 < es.length)
    (h : exec P ops C md K rest (puts σ [(.s d, .av (.val (.sc (.bool false))))]) (([.q kx, .k kx, .h k, .r k] ++ (vwL (ev σ y) ++ (rdl x ++ rdl y)), [.s d]) :: acc)) :
    Run P ops C md K (⟨some d, .call { callee := .value (.func F), args := #[x, y], argTypes := tys }, ty, pos, af, none⟩ :: rest) σ acc :=
  run_any (ok_ovl (g := 0) hF ht hz hs hx hk hv0 hy hr he) rfl trivial h
end
section
variable {P : Program} {ops : Array Oper} {C : Ctx} {σ : St} {md : Bool} {K : St → List FP → Prop} {acc : List FP} {rest : List Oper}
end
section
variable {P : Program} {ops : Array Oper} {C : Ctx} {σ : St} {md : Bool} {K : St → List FP → Prop} {acc : List FP} {rest : List Oper}
/-- An object's pointer, as it is now. -/
def ptrC (σ : St) : AV → Prop
  | .ptr o g _ => gg σ o = g
  | _ => False
def ptrL : AV → List Pl
  | .ptr o _ _ => [.g o]
  | _ => []
theorem ok_pnil {d : Tmp} {op : BinOp} {t t' : TypeId} {x : Operand} (hop : op = .eql ∨ op = .neq) (ht : (tiOf P t).map (·.sh) = some .ptr) (hx : ptrC σ (ev σ x)) :
    StOk P C σ (some d) (.binOp op t x (.const (.pointer none)) t') (some (True, rdl x ++ ptrL (ev σ x), [(.s d, .av (.val (.sc (.bool (if op = .eql then false else true)))))])) := by
  refine ok_pure fun _ ty pos af E σ' a w hr hg => ⟨_, ?_, Rd.sc _⟩
  obtain ⟨h1, h2⟩ := mem_l hr
  have hv := ev_ok hg x
  rw [ev_congr h1] at hv
  cases he : ev σ x with
  | ptr o g off =>
    rw [he] at hx hv h2
    have hgo : gg σ' o = g := by rw [gg_of (h2 (.g o) (by simp [ptrL]))]; exact hx
    have hv := hv.2 hgo.symm
    have hc : a.eval (.const (.pointer none)) = .pointer none := rfl
    obtain ⟨te, hte⟩ : ∃ te, P.underlying t = some (.pointer te) := by
      cases hq : tiOf P t with
      | none => rw [hq] at ht; cases ht
      | some T =>
        rw [hq] at ht
        simp at ht
        obtain ⟨it, dt, _, hdt, _, _, _, _, _, _, _, _, _, _, _, hp, _⟩ := tiOf_some hq
        exact ⟨_, by rw [hdt, hp ht]⟩
    have hq : ∀ n A, (Op.equalIn (n + 1) t (.pointer (some A)) (.pointer none)).run P w = .ok false w := fun n A => by
      simp [Op.equalIn, run_underlying hte]
    have hb : ∀ A, (binOp op t (.pointer (some A)) (.pointer none)).run P w = .ok (.bool (if op = .eql then false else true)) w := fun A => by
      have h2 := hq 9999 A
      rcases hop with rfl | rfl <;> simp [binOp, Op.equal, Op.maxDepth, h2]
    have hg2 : ∀ A, (eqGuard op t x (.const (.pointer none)) (.pointer (some A)) (.pointer none)).run P w = .ok () w := fun A => by
      unfold eqGuard
      rcases hop with rfl | rfl <;> simp
    simp [execOp, hc, hv, hg2, hb]
  | _ => rw [he] at hx; exact hx.elim
/-- An object isn't nil. -/
theorem pnil_u {d : Tmp} {op : BinOp} {t t' : TypeId} {x : Operand} {ty : TypeId} {pos : String} {af : Array Edge} {g : Option (Nat × Bool)} (hop : op = .eql ∨ op = .neq) (h : gOk ops σ g ∧ (tiOf P t).map (·.sh) = some .ptr ∧ ptrC σ (ev σ x))
    (k : exec P ops C md K rest (put σ (.s d) (.av (.val (.sc (.bool (if op = .eql then false else true)))))) ((gL ops g ++ (rdl x ++ ptrL (ev σ x)), [.s d]) :: acc)) :
    Run P ops C md K (⟨some d, .binOp op t x (.const (.pointer none)) t', ty, pos, af, g⟩ :: rest) σ acc := by
  obtain ⟨h1, h2, h3⟩ := h
  cases g with
  | none => exact run_cons (ok_pnil hop h2 h3 _ _ _ rfl trivial ops ty pos af) (exec_run k)
  | some g =>
    obtain ⟨j, b⟩ := g
    exact run_cons (ok_guard h1.1 h1.2 (ok_pnil hop h2 h3 _ _ _ rfl trivial ops ty pos af)) (exec_run k)
attribute [go_sem] ptrC ptrL
end
section
variable {P : Program} {C : Ctx} {σ : St} {Q Q2 : Exit → St → Prop}
/-- Where the ways out of a loop meet. -/
theorem meetB_s {α : Type} {id : Nat} {x y : Code} (I : α → List (Pl × X)) (h1 : AW P C x σ (blockQ id (thenQ (MeetS I) Q2))) (h2 : ∀ a, AW P C y (mkSt (I a)) Q) : AW P C x σ (blockQ id (thenQ (fun σ' => AW P C y σ' Q) Q2)) :=
  fun E a w hg => by
    refine Code.wp_mono (fun e a' w' hq => ?_) (h1 E a w hg)
    obtain ⟨E', σ', h3, h4⟩ := hq
    refine ⟨E', σ', ?_, h4⟩
    have key : ∀ e, thenQ (MeetS I) Q2 e σ' → thenQ (fun σ' => AW P C y σ' Q) Q2 e σ' := fun e h => by
      cases e with
      | normal => obtain ⟨z, h5⟩ := h; exact aw_weak (I z) (weakF_ok h5) (h2 z)
      | _ => exact h
    cases e with
    | exit i =>
      simp only [blockQ] at h3 ⊢
      split at h3
      · rename_i hi; rw [if_pos hi]; exact key _ h3
      · rename_i hi; rw [if_neg hi]; exact key _ h3
    | normal => exact key .normal h3
    | _ => exact h3
end
section
variable {P : Program} {C : Ctx} {E : Env} {σ : St} {a : Act} {w : World} {Q : Exit → St → Prop}
end
section
variable {P : Program} {ops : Array Oper} {C : Ctx} {σ : St} {md : Bool} {K : St → List FP → Prop} {acc : List FP} {rest : List Oper}
/-- A field's type and place. -/
def fieldAt (P : Program) (t : TypeId) (f : Nat) : Option (TypeId × Nat) := match P.underlying t with
  | some (.struct fs) => (fs[f]?).map fun x => (x.type, x.offset)
  | _ => none
/-- A part of a value of several cells. -/
def partT (T : TI) (off : Nat) (xs : List V) : Option V :=
  if T.agg then (if off + T.size ≤ xs.length then some (.agg ((xs.drop off).take T.size)) else none) else xs[off]?
theorem ok_fld {d : Tmp} {t ft : TypeId} {x : Operand} {f off : Nat} {xs : List V} {y : V} {T : TI} (hf : fieldAt P t f = some (ft, off)) (hT : tiOf P ft = some T) (hx : ev σ x = .val (.agg xs)) (hy : partT T off xs = some y) :
    StOk P C σ (some d) (.field t x f) (some (True, rdl x, [(.s d, .av (.val y))])) := by
  refine ok_pure fun _ ty pos af E σ' a w hr hg => ?_
  have hv := ev_ok hg x
  rw [ev_congr hr, hx] at hv
  have hv : Rd E.m (.agg xs) (a.eval x) := hv
  generalize hav : a.eval x = v at hv
  unfold fieldAt at hf
  split at hf
  · rename_i fs hu
    cases hfs : fs[f]? with
    | none => rw [hfs] at hf; cases hf
    | some F =>
      rw [hfs] at hf
      simp only [Option.map_some, Option.some.injEq, Prod.mk.injEq] at hf
      obtain ⟨rfl, rfl⟩ := hf
      cases hv with
      | agg _ ys hl h =>
        unfold partT at hy
        split at hy
        · rename_i hag
          split at hy
          · rename_i hle
            cases hy
            refine ⟨.agg (ys.extract F.offset (F.offset + T.size)), ?_, .agg _ _ ?_ fun i hi => ?_⟩
            · simp [execOp, hav, Instr.field, run_underlying hu, hfs, asAgg, part, isAgg_run hT, hag, sizeOf_run hT]
            · simp; omega
            · have hi2 : F.offset + i < xs.length := by simp at hi; omega
              have := h (F.offset + i) hi2
              simpa using this
          · cases hy
        · rename_i hag
          have hag : T.agg = false := by simpa using hag
          obtain ⟨h1, h2⟩ := List.getElem?_eq_some_iff.1 hy
          have h3 := h _ h1
          rw [h2] at h3
          refine ⟨ys[F.offset]'(hl ▸ h1), ?_, h3⟩
          have h4 : ys[F.offset]? = some (ys[F.offset]'(hl ▸ h1)) := Array.getElem?_eq_getElem (hl ▸ h1)
          simp [execOp, hav, Instr.field, run_underlying hu, hfs, asAgg, part, isAgg_run hT, hag, h4]
  · cases hf
/-- A field of a value is taken. -/
theorem fld_s {d : Tmp} {t : TypeId} {x : Operand} {f : Nat} {ty : TypeId} {pos : String} {af : Array Edge} (ft : TypeId) (off : Nat) (T : TI) (xs : List V) (y : V) (hf : fieldAt P t f = some (ft, off)) (hT : tiOf P ft = some T) (hx : ev σ x = .val (.agg xs)) (hy : partT T off xs = some y)
    (k : exec P ops C md K rest (put σ (.s d) (.av (.val y))) ((rdl x, [.s d]) :: acc)) : Run P ops C md K (⟨some d, .field t x f, ty, pos, af, none⟩ :: rest) σ acc :=
  run_any (ok_fld hf hT hx hy) rfl trivial k
theorem stepU_fld {d : Tmp} {t : TypeId} {x : Operand} {f : Nat} : stepU P σ (some d) (.field t x f) = none := rfl
attribute [go_sem] stepU_fld
end
end Go.Proofs.YtkclmofjlmeolaaGreatDoor

namespace Go.Proofs.YtkclmofjlmeolaaGreatDoor
open Go.RowKit
set_option linter.unusedVariables false
set_option linter.unusedSimpArgs false

def regW (σ : St) (k : Id) (x : T) : List (Pl × X) := [(.g k, .num (gg σ k + 1)), (.o k, .non), (.l k, .non), (.r k, .tree x)]
section
variable {P : Program} {ops : Array Oper} {C : Ctx} {E : Env} {σ : St} {a : Act} {w : World}
end
section
variable {m : Mem} {w : World}
theorem Hg.erase {xs : List T} {vs : List Value} {F : List Nat} (h : Hg m w xs vs F) : ∀ j, ∃ F', Hg m w (xs.eraseIdx j) (vs.eraseIdx j) F' ∧ ∀ b ∈ F', b ∈ F := by
  induction h with
  | nil => intro j; exact ⟨_, .nil, fun b h => h⟩
  | av h0 hs ih =>
    intro j
    cases j with
    | zero => exact ⟨_, hs, fun b h => h⟩
    | succ j => obtain ⟨F', h1, h2⟩ := ih j; exact ⟨F', .av h0 h1, h2⟩
  | box a1 a2 a3 hs a5 a6 a7 _ ih =>
    intro j
    cases j with
    | zero => exact ⟨_, hs, fun b h => by simp [h]⟩
    | succ j =>
      obtain ⟨F', h1, h2⟩ := ih j
      refine ⟨_, .box a1 a2 a3 h1 a5 (fun h => a6 (h2 _ h)) (fun i hi hF => a7 i hi (h2 _ hF)), fun b h => ?_⟩
      rcases List.mem_cons.1 h with rfl | h
      · simp
      · rcases List.mem_append.1 h with h | h
        · simp [h]
        · simp [h2 b h]
  | row a1 a2 a3 a4 hs a6 _ ih =>
    intro j
    cases j with
    | zero => exact ⟨_, hs, fun b h => by simp [h]⟩
    | succ j =>
      obtain ⟨F', h1, h2⟩ := ih j
      refine ⟨_, .row a1 a2 (fun b hb => ⟨(a3 b hb).1, (a3 b hb).2.1, fun h => (a3 b hb).2.2 (h2 _ h)⟩) a4 h1 (fun i hi hF => a6 i hi (h2 _ hF)), fun b h => ?_⟩
      rcases List.mem_append.1 h with h | h
      · exact List.mem_append_left _ h
      · rcases List.mem_append.1 h with h | h
        · exact List.mem_append_right _ (List.mem_append_left _ h)
        · exact List.mem_append_right _ (List.mem_append_right _ (h2 _ h))
  | rw a1 a2 a3 a4 hs ih =>
    intro j
    cases j with
    | zero => exact ⟨_, hs, fun b h => by simp [h]⟩
    | succ j =>
      obtain ⟨F', h1, h2⟩ := ih j
      refine ⟨_, .rw a1 a2 a3 (fun b hb => ⟨(a4 b hb).1, fun h => (a4 b hb).2 (h2 _ h)⟩) h1, fun b h => ?_⟩
      rcases List.mem_append.1 h with h | h
      · exact List.mem_append_left _ h
      · exact List.mem_append_right _ (h2 _ h)
  | mp a1 a2 a3 a4 a5 a6 a7 hs a9 a10 a11 _ ih =>
    intro j
    cases j with
    | zero => exact ⟨_, hs, fun b h => by simp [h]⟩
    | succ j =>
      obtain ⟨F', h1, h2⟩ := ih j
      refine ⟨_, .mp a1 a2 a3 a4 a5 a6 a7 h1 a9 (fun h => a10 (h2 _ h)) (fun i hi hF => a11 i hi (h2 _ hF)), fun b h => ?_⟩
      rcases List.mem_cons.1 h with rfl | h
      · simp
      · rcases List.mem_append.1 h with h | h
        · simp [h]
        · simp [h2 b h]
  | pm a1 a2 hs a4 _ ih =>
    intro j
    cases j with
    | zero => exact ⟨_, hs, fun b h => by simp [h]⟩
    | succ j =>
      obtain ⟨F', h1, h2⟩ := ih j
      refine ⟨_, .pm a1 a2 h1 (fun i hi hF => a4 i hi (h2 _ hF)), fun b h => ?_⟩
      rcases List.mem_append.1 h with h | h
      · simp [h]
      · simp [h2 b h]
  | bag a2 hs a4 _ ih =>
    intro j
    cases j with
    | zero => exact ⟨_, hs, fun b h => by simp [h]⟩
    | succ j =>
      obtain ⟨F', h1, h2⟩ := ih j
      refine ⟨_, .bag a2 h1 (fun i hi hF => a4 i hi (h2 _ hF)), fun b h => ?_⟩
      rcases List.mem_append.1 h with h | h
      · simp [h]
      · simp [h2 b h]
end

section
variable {P : Program} {ops : Array Oper} {C : Ctx} {E : Env} {σ : St} {a : Act} {w : World}
/-- Trees are let go. -/
def outW (id : Id) : List (Pl × X) := [(.l id, .non), (.r id, .non)]
theorem Gm.let_go (h : Gm C E σ a w) (id : Id) : Gm C E (puts σ (outW id)) a w ∧ Mo E σ E (puts σ (outW id)) ∧ (∀ t b, HoB E (puts σ (outW id)) t b → HoB E σ t b ∧ t ≠ .r id) := by
  have q : ∀ l, puts σ (outW id) l = if l = .r id then .non else if l = .l id then .non else σ l := fun l => by
    show put (put σ (.l id) _) (.r id) _ l = _
    unfold put; rfl
  obtain ⟨h1, h2, h3⟩ := h.drop (puts σ (outW id)) (fun t => by rw [q]; simp) (fun o i => by rw [q]; simp) (fun o => by rw [q]; simp) (fun o n h => by rw [q] at h; simpa using h) (fun k e sz T h => by rw [q] at h; simpa using h)
    (fun k => .inl (by rw [q]; simp)) (fun k x h => by rw [q] at h; by_cases e : k = id; (subst e; simp at h); simpa [e] using h) (fun k i y h => by rw [q] at h; by_cases e : k = id; (subst e; simp at h); simpa [e] using h) (fun k => by rw [q]; simp) (fun o k g s h => by rw [q] at h; simpa using h)
  refine ⟨h1, h2, fun t b hb => ⟨h3 t b hb, fun e => ?_⟩⟩
  subst e
  obtain ⟨x, hx, _⟩ := hb
  rw [q] at hx
  simp at hx
/-- A map's row is taken out, and has a name of its own. -/
def takW (σ : St) (id k2 : Id) (x y : T) (j : Nat) : List (Pl × X) := outW id ++ (regW σ id x ++ (treeW σ k2 y ++ [(.l id, .lent j (.ref k2 (gh σ k2 + 1)))]))
def putW (σ : St) (id k2 : Id) (x : T) : List (Pl × X) := outW k2 ++ (outW id ++ regW σ id x)
theorem map_erase {α β : Type} (f : α → β) : ∀ (l : List α) (j : Nat), (l.eraseIdx j).map f = (l.map f).eraseIdx j
  | [], _ => rfl
  | _ :: _, 0 => rfl
  | x :: l, j + 1 => congrArg (f x :: ·) (map_erase f l j)
end
/-! ### A call beside pointers to its objects -/
section
variable {P : Program} {ops : Array Oper} {C : Ctx} {E : Env} {σ : St} {a : Act} {w : World}
def hasId : List Id → Id → Bool
  | [], _ => false
  | x :: l, o => if x.1 = o.1 ∧ x.2 = o.2 then true else hasId l o
def isG (ids : List Id) : Pl → Bool
  | .g o => hasId ids o
  | _ => false
def noG (ids : List Id) : List (Pl × X) → List (Pl × X)
  | [] => []
  | p :: W => match isG ids p.1 with | true => noG ids W | false => p :: noG ids W
def okG1 (σ : St) : Pl → X → Prop
  | .g o, x => x = .num (gg σ o)
  | _, _ => True
/-- What is left out says nothing new. -/
def okG (σ : St) (ids : List Id) : List (Pl × X) → Prop
  | [] => True
  | p :: W => (match isG ids p.1 with | true => okG1 σ p.1 p.2 | false => True) ∧ okG σ ids W
end
section
variable {P : Program} {ops : Array Oper} {C : Ctx} {σ : St} {md : Bool} {K : St → List FP → Prop} {acc : List FP} {rest : List Oper}
end
attribute [go_sem] noG isG okG okG1 hasId
attribute [go_sem] takW outW regW putW
section
variable {P : Program} {ops : Array Oper} {C : Ctx} {σ : St} {md : Bool} {K : St → List FP → Prop} {acc : List FP} {rest : List Oper} {Q : Exit → St → Prop}
/-- A walk may stop ahead of a return. -/
theorem stop_ret (h : AW P C .ret σ Q) : AW P C .ret σ Q := h
end
end Go.Proofs.YtkclmofjlmeolaaGreatDoor

namespace Go.Proofs.YtkclmofjlmeolaaGreatDoor
open Go.RowKit
set_option linter.unusedVariables false
set_option linter.unusedSimpArgs false

section
variable {P : Program} {ops : Array Oper} {C : Ctx} {σ : St}
end
section
variable {P : Program} {ops : Array Oper} {C : Ctx} {σ : St} {K : St → List FP → Prop} {acc : List FP} {rest : List Oper}
end
section
variable {P : Program} {ops : Array Oper} {C : Ctx} {E : Env} {σ : St} {a : Act} {w : World}
def retQE {α : Type} (P : Program) (rs : List ResultVar) (n : Nat) (ok : α → Prop) (res : α → Arg) (objs' : α → List (List CA)) : Exit → St → Prop
  | .ret, σ => ∃ y, ok y ∧ RetOk P σ rs n (res y) (objs' y)
  | .normal, σ => ∃ y, ok y ∧ RetOk P σ rs n (res y) (objs' y)
  | _, _ => False
theorem retQE_r {α : Type} {rs : List ResultVar} {n : Nat} {ok : α → Prop} {res : α → Arg} {objs : α → List (List CA)} : retQE P rs n ok res objs .ret σ = ∃ y, ok y ∧ RetOk P σ rs n (res y) (objs y) := rfl
theorem retQE_n {α : Type} {rs : List ResultVar} {n : Nat} {ok : α → Prop} {res : α → Arg} {objs : α → List (List CA)} : retQE P rs n ok res objs .normal σ = ∃ y, ok y ∧ RetOk P σ rs n (res y) (objs y) := rfl
attribute [go_sem] retQE_r retQE_n
end
end Go.Proofs.YtkclmofjlmeolaaGreatDoor

namespace Go.Proofs.YtkclmofjlmeolaaGreatDoor
open Go.RowKit
set_option linter.unusedVariables false
set_option linter.unusedSimpArgs false

section
variable {P : Program} {ops : Array Oper} {C : Ctx} {E : Env} {σ : St} {a : Act} {w : World}
/-- What is owned is seen otherwise: the same value, other blocks; iterators stay. -/
theorem Gm.retree (h : Gm C E σ a w) (k : Id) (x x' : T) (F' : List Nat) (hx : σ (.r k) = .tree x) (hb : ∀ ys, x ≠ .box ys) (ha : ∀ y, x' ≠ .av y) (hbx : ∀ ys, x' ≠ .box ys) (hh : Hg E.m w [x'] [E.bv k] F') (hF : ∀ b ∈ F', b ∈ E.bf k ∨ ((C.D b ∨ C.w0.heap.size ≤ b) ∧ ¬ LiveB E σ b)) :
    ∃ E', Gm C E' (put σ (.r k) (.tree x')) a w ∧ Mo E σ E' (put σ (.r k) (.tree x')) ∧ E'.m = E.m ∧ E'.bv = E.bv ∧ (∀ t b, HoB E' (put σ (.r k) (.tree x')) t b → (t ≠ .r k ∧ HoB E σ t b) ∨ (t = .r k ∧ b ∈ F')) := by
  obtain ⟨σ', hσ'⟩ : ∃ s, s = put σ (.r k) (.tree x') := ⟨_, rfl⟩
  rw [← hσ']
  have qr : ∀ k', σ' (.r k') = if k' = k then .tree x' else σ (.r k') := fun k' => by
    rw [hσ']
    by_cases e : k' = k
    · subst e; simp [put]
    · simp [put, e]
  have q : ∀ l, (∀ k', l ≠ .r k') → σ' l = σ l := fun l hl => by rw [hσ']; exact put_ne _ _ (hl k)
  have qs : ∀ t, σ' (.s t) = σ (.s t) := fun t => q _ (by simp)
  have qc : ∀ o i, σ' (.c o i) = σ (.c o i) := fun o i => q _ (by simp)
  have qo : ∀ o, σ' (.o o) = σ (.o o) := fun o => q _ (by simp)
  have qg : ∀ o, σ' (.g o) = σ (.g o) := fun o => q _ (by simp)
  have qk : ∀ o, σ' (.k o) = σ (.k o) := fun o => q _ (by simp)
  have qq : ∀ o, σ' (.q o) = σ (.q o) := fun o => q _ (by simp)
  have qh : ∀ o, σ' (.h o) = σ (.h o) := fun o => q _ (by simp)
  have ql : ∀ o, σ' (.l o) = σ (.l o) := fun o => q _ (by simp)
  clear q hσ'
  obtain ⟨E', hE'⟩ : ∃ E' : Env, E' = { E with bf := fun k' => if k' = k then F' else E.bf k' } := ⟨_, rfl⟩
  have em : E'.m = E.m := by rw [hE']
  have eloc : E'.loc = E.loc := by rw [hE']
  have erv : E'.rv = E.rv := by rw [hE']
  have erx : E'.rx = E.rx := by rw [hE']
  have ebv : E'.bv = E.bv := by rw [hE']
  have ebf : ∀ k', E'.bf k' = if k' = k then F' else E.bf k' := by intro k'; rw [hE']
  clear hE'
  have hmo : Mo E σ E' σ' := ⟨by rw [em]; exact Mem.le_refl _, fun o => ⟨Nat.le_of_eq (gg_of (qg o)).symm, fun _ => by rw [eloc]⟩, fun k' => ⟨Nat.le_of_eq (gq_of (qq k')).symm, fun _ e sz T h2 => ⟨T, by rw [← qk]; exact h2, Nat.le_refl _, fun _ => by rw [erv]⟩⟩, fun k' => ⟨Nat.le_of_eq (gh_of (qh k')).symm, fun _ => by rw [ebv]⟩⟩
  have ht := h.tr
  have hnl : ∀ t b, HoB E σ t b → t ≠ .r k → b ∉ F' := fun t b h1 h2 h3 => by
    rcases hF b h3 with h4 | h4
    · exact h2 (h.ho_inj h1 (t' := .r k) ⟨x, hx, h4⟩)
    · exact h4.2 ⟨t, h1⟩
  refine ⟨E', ⟨h.sz, h.df, by rw [em]; exact h.ms, h.fr, fun t y h1 => (h.sl t y (by rw [← qs]; exact h1)).mo hmo, fun o i y n h1 h2 h3 => ?_, fun o n h1 => ?_, fun k' e s T h1 => ?_, fun o o' n n' h1 h2 h3 => ?_, fun k1 k2 e s T e' s' T' b h1 h2 h3 h4 => ?_, fun o n k' e s T h1 h2 => ?_, fun o b h1 => by rw [eloc]; exact h.pi o b h1, by rw [em]; exact h.ml, by rw [em]; exact h.mx,
    ⟨fun k' y h1 => ?_, fun k' y b h1 h2 => ?_, fun k' ys h1 => ?_, fun k1 k2 y1 y2 b h1 h2 h3 h4 => ?_, fun o n k' y h1 h2 h3 => ?_, fun k1 e s T k' y b h1 h2 h3 h4 => ?_, fun k' y i z h1 h2 => ?_, fun o k' g s h1 => ?_, fun o o' k1 g s k2 g' s' h1 h2 h3 => ?_⟩⟩, hmo, em, ebv, fun t b ht' => ?_⟩
  · rw [qc] at h1
    rw [qo] at h2
    obtain ⟨u, hu, hr⟩ := h.ce o i y n h1 h2 h3
    exact ⟨u, by rw [eloc]; exact hu, hr.mo hmo⟩
  · rw [qo] at h1
    rw [eloc, em]
    exact h.ob o n h1
  · rw [qk] at h1
    rw [erv, erx, em]
    exact h.ro k' e s T h1
  · rw [qo] at h1 h2
    rw [eloc] at h3
    exact h.oo o o' n n' h1 h2 h3
  · rw [qk] at h1 h2
    rw [erv] at h3 h4
    exact h.rr k1 k2 e s T e' s' T' b h1 h2 h3 h4
  · rw [qo] at h1
    rw [qk] at h2
    rw [erv, eloc]
    exact h.or o n k' e s T h1 h2
  · rw [qr] at h1
    rw [ebv, ebf, em]
    by_cases e : k' = k
    · rw [if_pos e] at h1 ⊢
      cases h1
      rw [e]
      exact ⟨hh, ha⟩
    · rw [if_neg e] at h1 ⊢
      exact ht.hg k' y h1
  · rw [qr] at h1
    rw [ebf] at h2
    by_cases e : k' = k
    · rw [if_pos e] at h2
      rcases hF b h2 with h3 | h3
      · exact ht.dd k x b hx h3
      · exact h3.1
    · rw [if_neg e] at h1 h2
      exact ht.dd k' y b h1 h2
  · rw [qr] at h1
    rw [ebv, eloc]
    by_cases e : k' = k
    · rw [if_pos e] at h1
      cases h1
      exact absurd rfl (hbx ys)
    · rw [if_neg e] at h1
      exact ht.bx k' ys h1
  · rw [qr] at h1 h2
    rw [ebf] at h3 h4
    by_cases e1 : k1 = k
    · by_cases e2 : k2 = k
      · rw [e1, e2]
      · rw [if_pos e1] at h3
        rw [if_neg e2] at h2 h4
        exact absurd h3 (hnl (.r k2) b ⟨y2, h2, h4⟩ (fun e => e2 (by injection e)))
    · rw [if_neg e1] at h1 h3
      by_cases e2 : k2 = k
      · rw [if_pos e2] at h4
        exact absurd h4 (hnl (.r k1) b ⟨y1, h1, h3⟩ (fun e => e1 (by injection e)))
      · rw [if_neg e2] at h2 h4
        exact ht.tt k1 k2 y1 y2 b h1 h2 h3 h4
  · rw [qo] at h1
    rw [qr] at h2
    rw [eloc, ebf] at h3
    by_cases e : k' = k
    · rw [if_pos e] at h3
      exact hnl (.o o) _ ⟨n, h1, rfl⟩ (by simp) h3
    · rw [if_neg e] at h2 h3
      exact ht.ot o n k' y h1 h2 h3
  · rw [qk] at h1
    rw [qr] at h2
    rw [ebf] at h3
    rw [erv] at h4
    by_cases e1 : k' = k
    · rw [if_pos e1] at h3
      exact hnl (.k k1) b ⟨e, s, T, h1, h4⟩ (by simp) h3
    · rw [if_neg e1] at h2 h3
      exact ht.tk k1 e s T k' y b h1 h2 h3 h4
  · rw [qr] at h1
    rw [ql] at h2
    rw [ebv]
    by_cases e : k' = k
    · rw [e] at h2 ⊢
      obtain ⟨u, hu, hr⟩ := ht.le k x i z hx h2
      exact ⟨u, hu, hr.mo hmo⟩
    · rw [if_neg e] at h1
      obtain ⟨u, hu, hr⟩ := ht.le k' y i z h1 h2
      exact ⟨u, hu, hr.mo hmo⟩
  · rw [qo] at h1
    rw [eloc]
    obtain ⟨mb, n, bs, l, h3, h4, h5, h6⟩ := ht.it o k' g s h1
    refine ⟨mb, n, bs, l, h3, h4, by rw [gg_of (qg k')]; exact h5, fun he y hy => ?_⟩
    rw [gg_of (qg k')] at he
    by_cases e : k' = k
    · have := h6 he x (by rw [e]; exact hx)
      unfold ItRel at this ⊢
      rw [ebv]
      exact this
    · rw [qr, if_neg e] at hy
      have := h6 he y hy
      unfold ItRel at this ⊢
      rw [ebv]
      exact this
  · rw [qo] at h1 h2
    rw [eloc] at h3
    exact ht.ii o o' k1 g s k2 g' s' h1 h2 h3
  · cases t with
    | o i =>
      obtain ⟨n, h1, h2⟩ := ht'
      rw [qo] at h1
      rw [eloc] at h2
      exact .inl ⟨by simp, n, h1, h2⟩
    | k i =>
      obtain ⟨e, s, T, h1, h2⟩ := ht'
      rw [qk] at h1
      rw [erv] at h2
      exact .inl ⟨by simp, e, s, T, h1, h2⟩
    | r i =>
      obtain ⟨y, h1, h2⟩ := ht'
      rw [qr] at h1
      rw [ebf] at h2
      by_cases e : i = k
      · rw [if_pos e] at h2; rw [e]; exact .inr ⟨rfl, h2⟩
      · rw [if_neg e] at h1 h2; exact .inl ⟨fun e2 => e (by injection e2), y, h1, h2⟩
/-- A map's row is taken out; iterators stay. -/
def takI (σ : St) (id k2 : Id) (x y : T) (j : Nat) : List (Pl × X) := (.r id, .tree x) :: (treeW σ k2 y ++ [(.l id, .lent j (.ref k2 (gh σ k2 + 1)))])
theorem set_self {α : Type} {l : List α} {j : Nat} {x : α} (h : l[j]? = some x) : l.set j x = l := by
  apply List.ext_getElem?
  intro i
  rw [List.getElem?_set]
  split
  · rename_i e; subst e
    rw [h]
    have := (List.getElem?_eq_some_iff.1 h).1
    simp [this]
  · rfl
/-- A row that was taken out is given back; iterators stay. -/
def givI (id k2 : Id) (x : T) : List (Pl × X) := outW k2 ++ [(.r id, .tree x)]
end
attribute [go_sem] takI givI
section
variable {P : Program} {C : Ctx} {σ : St} {Q : Exit → St → Prop}
end
section
variable {P : Program} {ops : Array Oper} {C : Ctx} {σ : St} {K : St → List FP → Prop} {acc : List FP} {rest : List Oper} {md : Bool}
end
section
variable {P : Program} {C : Ctx} {σ : St} {Q : Exit → St → Prop}
end
section
variable {P : Program} {C : Ctx} {σ : St} {Q : Exit → St → Prop}
/-- A map whose order is not told any more. -/
theorem clm_s {c : Code} (k : Id) (kvs kvs0 : List (Value × T)) (hp : kvs.Perm kvs0) (h : σ (.r k) = .tree (.mp kvs) ∧ AW P C c (puts σ [(.r k, .tree (.pm kvs0))]) Q) : AW P C c σ Q := by
  intro E a w hg
  obtain ⟨h1, h2⟩ := hg.tr.hg k _ h.1
  have hh : Hg E.m w [.pm kvs0] [E.bv k] (E.bf k) := by
    have := Hg.pm hp h1 .nil (fun i _ hi => by cases hi)
    simpa using this
  obtain ⟨E', g, _⟩ := hg.retree k _ (.pm kvs0) (E.bf k) h.1 (fun ys e => by cases e) (fun y e => by cases e) (fun ys e => by cases e) hh (fun b hb => .inl hb)
  exact h.2 E' a w g
/-- A map whose order is not told: for each order. -/
theorem opm_s {c : Code} (k : Id) (kvs : List (Value × T)) (h : σ (.r k) = .tree (.pm kvs)) (hk : ∀ kvs', kvs'.Perm kvs → AW P C c (puts σ [(.r k, .tree (.mp kvs'))]) Q) : AW P C c σ Q := by
  intro E a w hg
  obtain ⟨h1, h2⟩ := hg.tr.hg k _ h
  obtain ⟨kvs', hp, F, h3, h4⟩ : ∃ kvs', kvs'.Perm kvs ∧ ∃ F, Hg E.m w [.mp kvs'] [E.bv k] F ∧ ∀ b ∈ F, b ∈ E.bf k := by
    generalize E.bv k = v at h1
    generalize E.bf k = G at h1 ⊢
    cases h1 with
    | pm hp h hs h3 => exact ⟨_, hp, _, h, fun b hb => List.mem_append_left _ hb⟩
  obtain ⟨E', g, _⟩ := hg.retree k _ (.mp kvs') F h (fun ys e => by cases e) (fun y e => by cases e) (fun ys e => by cases e) h3 (fun b hb => .inl (h4 b hb))
  exact hk kvs' hp E' a w g
end
end Go.Proofs.YtkclmofjlmeolaaGreatDoor

