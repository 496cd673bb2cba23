/- Rules by which a walk reckons. -/
import Derived.Test.YtkclmofjlmeolaaGreatDoorRDz
namespace Go.Proofs.YtkclmofjlmeolaaGreatDoor
open Go.RowKit
set_option linter.unusedVariables false
set_option linter.unusedSimpArgs false

section
variable {P : Program} {ops : Array Oper} {C : Ctx} {md : Bool} {K : St → List FP → Prop} {σ : St} {acc : List FP} {rest : List Oper}
/-- What a step leaves. -/
def stpK (P : Program) (ops : Array Oper) (C : Ctx) (md : Bool) (K : St → List FP → Prop) (o : Oper) (rest : List Oper) (σ : St) (acc : List FP) (g : List Pl) : Stp → Prop
  | some (c, L, W) => c ∧ exec P ops C md K rest (puts σ W) ((g ++ L, locs W) :: acc)
  | none => Run P ops C md K (o :: rest) σ acc
theorem stpK_some {o : Oper} {g : List Pl} {c : Prop} {L : List Pl} {W : List (Pl × X)} : stpK P ops C md K o rest σ acc g (some (c, L, W)) = (c ∧ exec P ops C md K rest (puts σ W) ((g ++ L, locs W) :: acc)) := rfl
theorem stpK_none {o : Oper} {g : List Pl} : stpK P ops C md K o rest σ acc g none = Run P ops C md K (o :: rest) σ acc := rfl
theorem exec_nil : exec P ops C md K [] σ acc = K σ acc.reverse := rfl
theorem exec_none {d : Option Tmp} {op : Op} {ty : TypeId} {pos : String} {af : Array Edge} : exec P ops C md K (⟨d, op, ty, pos, af, none⟩ :: rest) σ acc = stpK P ops C md K ⟨d, op, ty, pos, af, none⟩ rest σ acc [] (stepU P σ d op) := by
  conv => lhs; unfold exec
  cases stepU P σ d op with
  | none => rfl
  | some r => rfl
/-- What a guard's value does. -/
def grdK (P : Program) (ops : Array Oper) (C : Ctx) (md : Bool) (K : St → List FP → Prop) (d : Tmp) (b : Bool) (g : Nat) (o : Oper) (rest : List Oper) (σ : St) (acc : List FP) (st : Stp) : AV → Prop
  | .val (.sc (.bool b')) => (b' = b → stpK P ops C md K o rest σ acc [.s g] st) ∧ (b' = !b → exec P ops C md K rest (put σ (.s d) (.av (.val (.sc undef)))) (([.s g], [.s d]) :: acc))
  | .val (.sc (.tuple _)) => exec P ops C md K rest (put σ (.s d) (.av (.val (.sc undef)))) (([.s g], [.s d]) :: acc)
  | _ => False
theorem exec_some {d : Tmp} {op : Op} {ty : TypeId} {pos : String} {af : Array Edge} {j : Nat} {b : Bool} : exec P ops C md K (⟨some d, op, ty, pos, af, some (j, b)⟩ :: rest) σ acc = (((ops[j]?).bind (·.dst)).isSome = true ∧ grdK P ops C md K d b (gslot ops j) ⟨some d, op, ty, pos, af, some (j, b)⟩ rest σ acc (stepU P σ (some d) op) (match σ (.s (gslot ops j)) with | .av x => x | _ => .val .any)) := by
  conv => lhs; unfold exec
  cases hx : σ (.s (gslot ops j)) with
  | av x =>
    cases x with
    | val y =>
      cases y with
      | sc v =>
        cases v with
        | bool b' =>
          simp only [grdK]
          cases hs : stepU P σ (some d) op <;> rfl
        | tuple vs => simp only [grdK]
        | _ => simp [grdK]
      | _ => simp [grdK]
    | _ => simp [grdK]
  | _ => simp [grdK]
theorem grdK_same {d : Tmp} {b : Bool} {g : Nat} {o : Oper} {st : Stp} : grdK P ops C md K d b g o rest σ acc st (.val (.sc (.bool b))) = stpK P ops C md K o rest σ acc [.s g] st := by
  simp only [grdK, forall_const]
  cases b <;> simp
theorem grdK_tf {d : Tmp} {g : Nat} {o : Oper} {st : Stp} : grdK P ops C md K d true g o rest σ acc st (.val (.sc (.bool false))) = exec P ops C md K rest (put σ (.s d) (.av (.val (.sc undef)))) (([.s g], [.s d]) :: acc) := by simp [grdK]
theorem grdK_ft {d : Tmp} {g : Nat} {o : Oper} {st : Stp} : grdK P ops C md K d false g o rest σ acc st (.val (.sc (.bool true))) = exec P ops C md K rest (put σ (.s d) (.av (.val (.sc undef)))) (([.s g], [.s d]) :: acc) := by simp [grdK]
theorem grdK_undef {d : Tmp} {b : Bool} {g : Nat} {o : Oper} {st : Stp} : grdK P ops C md K d b g o rest σ acc st (.val (.sc undef)) = exec P ops C md K rest (put σ (.s d) (.av (.val (.sc undef)))) (([.s g], [.s d]) :: acc) := rfl

section
variable {d : Tmp} {x y c : Operand} {t t' : TypeId}
theorem stepU_move : stepU P σ (some d) (.move x) = stMove σ d x := rfl
theorem stepU_assign : stepU P σ (some d) (.assign x) = stMove σ d x := rfl
theorem stepU_pick : stepU P σ (some d) (.pick c x y) = stPick σ d c x y := rfl
theorem stepU_bin {op : BinOp} : stepU P σ (some d) (.binOp op t x y t') = orStp (stBin σ d op x y) (stBinB P σ d op t x y) := rfl
theorem stepU_un {op : UnOp} : stepU P σ (some d) (.unOp op t x) = stUn σ d op x := rfl
theorem stepU_conv : stepU P σ (some d) (.convert t t' x) = stConv P σ d t t' x := rfl
theorem stepU_ext {i : Nat} : stepU P σ (some d) (.extract x i) = stExt σ d x i := rfl
theorem stepU_fieldA {i : Nat} : stepU P σ (some d) (.fieldAddr t x i) = orStp (stFieldA P σ d t x i) (stFieldAT P σ d t x i) := rfl
theorem stepU_load : stepU P σ (some d) (.load t x) = orStp (stLoad P σ d t x) (orStp (stLoadP P σ d t x) (stLoadT P σ d t x)) := rfl
theorem stepU_nil : stepU P σ (some d) (.nilCheck x) = stNil σ d x := rfl
theorem stepU_store : stepU P σ none (.store t x y) = orStp (stStore P σ t x y) (stStoreT P σ t x y) := rfl
theorem stepU_alloc : stepU P σ (some d) (.alloc t) = stAlloc P σ d t := rfl
theorem stepU_box : stepU P σ (some d) (.box t x) = stBox σ d x := rfl
theorem stepU_build {ps : List (Nat × Operand)} : stepU P σ (some d) (.build t ps.toArray) = stBuild P σ d t ps := rfl
theorem stepU_buildS {n : Nat} {ps : List (Nat × Operand)} : stepU P σ (some d) (.buildSlice t n ps.toArray) = orStp (stBuildT P σ d t n ps) (stBuildS P σ d t n ps) := rfl
theorem stepU_index : stepU P σ (some d) (.index t x y) = stIndex P σ d t x y := rfl
theorem stepU_indexA : stepU P σ (some d) (.indexAddr t x y) = orStp (stIndexA P σ d t x y) (orStp (stIndexAT P σ d t x y) (orStp (stIndexAV P σ d t x y) (stIndexR P σ d t x y))) := rfl
theorem stepU_slice {lo hi mx : Option Operand} : stepU P σ (some d) (.slice t x lo hi mx) = orStp (stSliceX P σ d t x lo hi mx) (orStp (stSlice P σ d t x lo hi mx) (orStp (stSliceV P σ d t x lo hi mx) (stSlice3 P σ d t x lo hi mx))) := rfl
theorem stepU_len : stepU P σ (some d) (.call { callee := .builtin .len, args := #[x], argTypes := #[t] }) = orStp (stLen P σ d t x) (orStp (stLenT P σ d t x) (stLenV P σ d t x)) := rfl
theorem stepU_max : stepU P σ (some d) (.call { callee := .builtin .max, args := #[x, y], argTypes := #[t, t'] }) = stMM σ d true x y := rfl
theorem stepU_min : stepU P σ (some d) (.call { callee := .builtin .min, args := #[x, y], argTypes := #[t, t'] }) = stMM σ d false x y := rfl
theorem stepU_append : stepU P σ (some d) (.call { callee := .builtin .append, args := #[x, y], argTypes := #[t, t'] }) = orStp (orStp (stAppendZ P σ d t t' x y) (stAppendI P σ d t t' x y)) (orStp (stAppend P σ d t t' x y) (orStp (stAppendT P σ d t t' x y) (orStp (stAppendV P σ d t t' x y) (stAppendO P σ d t t' x y)))) := rfl
theorem stepU_copy : stepU P σ (some d) (.call { callee := .builtin .copy, args := #[x, y], argTypes := #[t, t'] }) = orStp (stCopyX P σ d t t' x y) (orStp (stCopyT P σ d t t' x y) (stCopyV P σ d t t' x y)) := rfl
theorem stepU_cap : stepU P σ (some d) (.call { callee := .builtin .cap, args := #[x], argTypes := #[t] }) = stCap P σ d t x := rfl
theorem stepU_clearN : stepU P σ none (.call { callee := .builtin .clear, args := #[x], argTypes := #[t] }) = stClearN P σ t x := rfl
theorem stepU_clear : stepU P σ (some d) (.call { callee := .builtin .clear, args := #[x], argTypes := #[t] }) = stClearV P σ d t x := rfl
theorem stepU_makeMap : stepU P σ (some d) (.makeMap t none) = stMakeMap σ d := rfl
theorem stepU_insert {k : Operand} : stepU P σ none (.insert t x k y) = stInsert P σ t x k y := rfl
theorem stepU_mapUpdate {k : Operand} : stepU P σ none (.mapUpdate t x k y) = stInsert P σ t x k y := rfl
theorem stepU_lookup {ok : Bool} : stepU P σ (some d) (.lookup t x y ok) = stLookup P σ d t x y ok := rfl
theorem stepU_range : stepU P σ (some d) (.range t x) = stRange P σ d t x := rfl
theorem stepU_entry : stepU P σ (some d) (.entry x) = stEntry σ d x := rfl
theorem stepU_next {b : Bool} : stepU P σ (some d) (.next x b) = none := rfl
theorem stepU_mkFn {F : FuncId} {xs : List Operand} : stepU P σ (some d) (.makeFunc (.func F) #[] xs.toArray) = stMkFn σ d F xs := rfl
theorem stepU_call {f : Operand} {xs : Array Operand} {ts : Array TypeId} : stepU P σ (some d) (.call { callee := .value f, args := xs, argTypes := ts }) = none := rfl
end

/-! ### Places -/
theorem put_at (σ : St) (l : Pl) (x : X) (l' : Pl) : put σ l x l' = if l' = l then x else σ l' := rfl
theorem puts_nil : puts σ [] = σ := rfl
theorem puts_cons {p : Pl} {x : X} {W : List (Pl × X)} : puts σ ((p, x) :: W) = puts (put σ p x) W := rfl
def xnum : X → Nat
  | .num n => n
  | _ => 0
theorem gg_put {l : Pl} {x : X} {o : Id} : gg (put σ l x) o = if l = .g o then xnum x else gg σ o := by
  by_cases h : l = .g o
  · rw [if_pos h]; subst h; unfold gg; rw [put_same]; cases x <;> rfl
  · rw [if_neg h]; exact gg_of (put_ne _ _ fun e => h e.symm)
theorem gq_put {l : Pl} {x : X} {o : Id} : gq (put σ l x) o = if l = .q o then xnum x else gq σ o := by
  by_cases h : l = .q o
  · rw [if_pos h]; subst h; unfold gq; rw [put_same]; cases x <;> rfl
  · rw [if_neg h]; exact gq_of (put_ne _ _ fun e => h e.symm)
theorem gh_put {l : Pl} {x : X} {o : Id} : gh (put σ l x) o = if l = .h o then xnum x else gh σ o := by
  by_cases h : l = .h o
  · rw [if_pos h]; subst h; unfold gh; rw [put_same]; cases x <;> rfl
  · rw [if_neg h]; exact gh_of (put_ne _ _ fun e => h e.symm)
theorem gh_base {o : Id} : gh base o = 0 := rfl
theorem gg_base {o : Id} : gg base o = 0 := rfl
theorem gq_base {o : Id} : gq base o = 0 := rfl
theorem base_at {l : Pl} : base l = .non := rfl
theorem thenQ_n {k : St → Prop} {Q : Exit → St → Prop} : thenQ k Q .normal σ = k σ := rfl
theorem thenQ_r {k : St → Prop} {Q : Exit → St → Prop} : thenQ k Q .ret σ = Q .ret σ := rfl
theorem thenQ_e {k : St → Prop} {Q : Exit → St → Prop} {i : Nat} : thenQ k Q (.exit i) σ = Q (.exit i) σ := rfl
theorem blockQ_n {i : Nat} {Q : Exit → St → Prop} : blockQ i Q .normal σ = Q .normal σ := rfl
theorem blockQ_r {i : Nat} {Q : Exit → St → Prop} : blockQ i Q .ret σ = Q .ret σ := rfl
theorem blockQ_e {i j : Nat} {Q : Exit → St → Prop} : blockQ i Q (.exit j) σ = if j = i then Q .normal σ else Q (.exit j) σ := rfl
end

/-! ### Matching, reckoned -/
mutual
/-- Whatever reads as the first reads as the second. -/
def SubF : V → V → Prop
  | .agg xs, .agg ys => SubsF xs ys
  | .tup xs, .tup ys => SubsF xs ys
  | .sc (.slice none 0 0), .lst _ es => es = []
  | .sc u, .sc v => u = v
  | .lst s es, .lst s' es' => s' = s ∧ es' = es
  | .ifc t x, .ifc t' y => t' = t ∧ SubF x y
  | _, .any => True
  | x, y => x = y
def SubsF : List V → List V → Prop
  | [], [] => True
  | x :: xs, y :: ys => SubF x y ∧ SubsF xs ys
  | _, _ => False
end
mutual
theorem subF_ok : ∀ (x y : V), SubF x y → Sub x y
  | .agg xs, y, h => by
    cases y with
    | agg ys => exact Sub.agg' (subsF_ok xs ys (by simpa [SubF] using h))
    | any => exact Sub.any _
    | _ => simp [SubF] at h
  | .tup xs, y, h => by
    cases y with
    | tup ys => exact Sub.tup' (subsF_ok xs ys (by simpa [SubF] using h))
    | any => exact Sub.any _
    | _ => simp [SubF] at h
  | .ifc t x, y, h => by
    cases y with
    | ifc t' y' =>
      have h : t' = t ∧ SubF x y' := by simpa [SubF] using h
      obtain ⟨rfl, h2⟩ := h
      have h3 := subF_ok x y' h2
      intro m v hr
      cases hr with
      | ifc _ _ u hu => exact Rd.ifc _ _ _ (h3 _ _ hu)
    | any => exact Sub.any _
    | _ => simp [SubF] at h
  | .sc u, y, h => by
    cases y with
    | sc v => have h : u = v := by simpa [SubF] using h
              subst h; exact Sub.rfl _
    | any => exact Sub.any _
    | lst sz es =>
      unfold SubF at h
      split at h
      all_goals (first | (subst h; rename_i he _; cases he; exact Sub.nil sz) | (rename_i he _; simp_all) | simp_all)
      exact Sub.nil _
    | _ => simp [SubF] at h
  | .lst s es, y, h => by
    cases y with
    | lst s' es' => have h : s' = s ∧ es' = es := by simpa [SubF] using h
                    obtain ⟨rfl, rfl⟩ := h; exact Sub.rfl _
    | any => exact Sub.any _
    | _ => simp [SubF] at h
  | .ep xs, y, h => by
    cases y with
    | any => exact Sub.any _
    | _ => first | (simp [SubF] at h; done) | (have h := h; simp [SubF] at h; subst h; exact Sub.rfl _)
  | .any, y, h => by
    cases y with
    | any => exact Sub.any _
    | _ => simp [SubF] at h
theorem subsF_ok : ∀ (xs ys : List V), SubsF xs ys → Subs xs ys
  | [], [], _ => trivial
  | x :: xs, y :: ys, h => by
    simp only [SubsF] at h
    exact ⟨subF_ok x y h.1, subsF_ok xs ys h.2⟩
  | [], y :: ys, h => by simp [SubsF] at h
  | x :: xs, [], h => by simp [SubsF] at h
end
def mFCF (σ : St) (ids : List Id) : AV → FC → Prop
  | .ptr o g off, .ptr i off' => ids[i]? = some o ∧ gg σ o = g ∧ off' = off
  | .val x, .val y => SubF x y
  | _, _ => False
def mFCsF (σ : St) (ids : List Id) : List AV → List FC → Prop
  | [], [] => True
  | x :: xs, c :: cs => mFCF σ ids x c ∧ mFCsF σ ids xs cs
  | _, _ => False
theorem mFCsF_ok {σ : St} {ids : List Id} : ∀ {xs : List AV} {cs : List FC}, mFCsF σ ids xs cs → mFCs σ ids xs cs
  | [], [], _ => trivial
  | x :: xs, c :: cs, h => by
    refine ⟨?_, mFCsF_ok h.2⟩
    have h1 := h.1
    cases x <;> cases c <;> first | exact subF_ok _ _ h1 | exact h1 | exact h1.elim
  | [], _ :: _, h => h.elim
  | _ :: _, [], h => h.elim
def mOwn (σ : St) (e' : TypeId) (sz' : Nat) (es' : List (List V)) : AV → Prop
  | .own k g e sz es => gq σ k = g ∧ σ (.k k) = .row e sz es.length ∧ e' = e ∧ sz' = sz ∧ es' = es
  | .val (.sc (.slice none 0 0)) => es' = []
  | _ => False
def isNoRow : T → Prop
  | .row _ _ es => es = []
  | .rw _ _ es => es = []
  | _ => False
def mHd (σ : St) (t : T) : AV → Prop
  | .ref k g => gh σ k = g ∧ σ (.r k) = .tree t
  | .ptr k g 0 => gg σ k = g ∧ (∃ us, t = .box us) ∧ σ (.r k) = .tree t
  | .val (.sc (.slice none 0 0)) => isNoRow t
  | _ => False
def mLent (σ : St) (ids : List Id) (i ob : Nat) : X → Prop
  | .lent i' (.ptr o g 0) => i' = i ∧ ids[ob]? = some o ∧ gg σ o = g
  | _ => False
def mHdl (σ : St) (ids : List Id) (t : T) (i ob : Nat) : AV → Prop
  | .ref k g => gh σ k = g ∧ σ (.r k) = .tree t ∧ mLent σ ids i ob (σ (.l k))
  | _ => False
def mPtr (σ : St) (ids : List Id) (i off' : Nat) : AV → Prop
  | .ptr o g off => ids[i]? = some o ∧ gg σ o = g ∧ off' = off
  | _ => False
def mFn (σ : St) (ids : List Id) (K' : FuncId) (cs : List FC) : AV → Prop
  | .fn K zs => K' = K ∧ mFCsF σ ids zs cs
  | .val x => x = .sc (.func (.func K') #[] #[]) ∧ cs = []
  | _ => False
def mOne (σ : St) (ids : List Id) (x : AV) : Arg → Prop
  | .ca (.val y) => SubF (plain x) y
  | .ca (.own e sz es) => mOwn σ e sz es x
  | .ca (.hd t) => mHd σ t x
  | .ca (.hdl t i ob) => mHdl σ ids t i ob x
  | .ptr i off => mPtr σ ids i off x
  | .fn K cs => mFn σ ids K cs x
def mArgs (σ : St) (ids : List Id) : List AV → List Arg → Prop
  | [], [] => True
  | x :: xs, a :: as' => mOne σ ids x a ∧ mArgs σ ids xs as'
  | _, _ => False
def tokOne : AV → Arg → List Ho
  | .own k _ _ _ _, .ca (.own _ _ _) => [.k k]
  | .ref k _, .ca (.hd _) => [.r k]
  | .ref k _, .ca (.hdl _ _ _) => [.r k]
  | .ptr k _ _, .ca (.hd _) => [.r k]
  | _, _ => []
def tokArgs : List AV → List Arg → List Ho
  | x :: xs, a :: as' => tokOne x a ++ tokArgs xs as'
  | _, _ => []
theorem mArgs_ok {σ : St} {ids : List Id} : ∀ {xs : List AV} {args : List Arg}, mArgs σ ids xs args → MArgs σ ids xs args (tokArgs xs args)
  | [], [], _ => .nil
  | x :: xs, a :: as', h => by
    obtain ⟨h1, h2⟩ := h
    have ih := mArgs_ok h2
    cases a with
    | ptr i off =>
      have h1 : mPtr σ ids i off x := h1
      cases x with
      | ptr o g off' =>
        obtain ⟨e1, e2, rfl⟩ := h1
        exact .ptr e1 e2 ih
      | _ => exact h1.elim
    | fn K cs =>
      have h1 : mFn σ ids K cs x := h1
      cases x with
      | fn K' zs =>
        obtain ⟨rfl, h3⟩ := h1
        exact .fn (mFCsF_ok h3) ih
      | val z =>
        obtain ⟨rfl, rfl⟩ := h1
        exact .fn0 ih
      | _ => exact h1.elim
    | ca c =>
      cases c with
      | val y =>
        have h1 : SubF (plain x) y := h1
        have : tokOne x (.ca (.val y)) = [] := by cases x <;> rfl
        simp only [tokArgs, this, List.nil_append]
        exact .val (subF_ok _ _ h1) ih
      | own e sz es =>
        have h1 : mOwn σ e sz es x := h1
        cases x with
        | own k g e' sz' es' =>
          obtain ⟨e1, e2, rfl, rfl, rfl⟩ := h1
          exact .own e1 e2 ih
        | val z =>
          unfold mOwn at h1
          split at h1
          · rename_i h3; cases h3
          · rename_i h3; cases h3; subst h1; exact .nown ih
          · exact h1.elim
        | _ => exact h1.elim
      | hd t =>
        have h1 : mHd σ t x := h1
        cases x with
        | ref k g => exact .hd h1.1 h1.2 ih
        | ptr k g off =>
          unfold mHd at h1
          split at h1
          · rename_i h3; cases h3
          · rename_i h3; cases h3
            obtain ⟨h4, ⟨us, rfl⟩, h5⟩ := h1
            exact .hdb h4 h5 ih
          · rename_i h3; cases h3
          · exact h1.elim
        | val z =>
          unfold mHd at h1
          split at h1
          · rename_i h3; cases h3
          · rename_i h3; cases h3
          · rename_i h3; cases h3
            cases t with
            | row e sz es => have h1 : es = [] := h1; subst h1; exact .nhd ih
            | rw e sz es => have h1 : es = [] := h1; subst h1; exact .nhw ih
            | _ => exact h1.elim
          · exact h1.elim
        | _ => exact h1.elim
      | hdl t i ob =>
        have h1 : mHdl σ ids t i ob x := h1
        cases x with
        | ref k g =>
          obtain ⟨h3, h4, h5⟩ := h1
          unfold mLent at h5
          split at h5
          · rename_i h6
            obtain ⟨rfl, h7, h8⟩ := h5
            exact .hdl h3 h4 h6 h7 h8 ih
          · exact h5.elim
        | _ => exact h1.elim
  | [], _ :: _, h => h.elim
  | _ :: _, [], h => h.elim
def mObjs (σ : St) (all : List Id) : List Id → List (List CA) → Prop
  | [], [] => True
  | o :: ids, cs :: objs => σ (.o o) = .num cs.length ∧ mArgs σ all (cellAVs σ o 0 cs.length) (cs.map .ca) ∧ mObjs σ all ids objs
  | _, _ => False
def tokObjs (σ : St) : List Id → List (List CA) → List Ho
  | o :: ids, cs :: objs => .o o :: (tokArgs (cellAVs σ o 0 cs.length) (cs.map .ca) ++ tokObjs σ ids objs)
  | _, _ => []
theorem mObjs_ok {σ : St} {all : List Id} : ∀ {ids : List Id} {objs : List (List CA)}, mObjs σ all ids objs → MObjs σ all ids objs (tokObjs σ ids objs)
  | [], [], _ => .nil
  | o :: ids, cs :: objs, h => .cons h.1 (mArgs_ok h.2.1) (mObjs_ok h.2.2)
  | [], _ :: _, h => h.elim
  | _ :: _, [], h => h.elim
/-- Names, reckoned. -/
def namesB (d : Tmp) (ids : List Id) (objs' : List (List CA)) : Bool :=
  decide (ids.Nodup) && ((freshIds d (objs'.drop ids.length)).all fun k => !ids.contains k) && ((freshKids d (objs'.drop ids.length)).all fun k => !ids.contains k) && ((kidsAll ids objs').all fun k => !(ids ++ freshIds d (objs'.drop ids.length)).contains k)
theorem namesB_ok {d : Tmp} {ids : List Id} {objs' : List (List CA)} (h : namesB d ids objs' = true) : NamesOk d ids objs' := by
  unfold namesB at h
  simp only [Bool.and_eq_true, List.all_eq_true, decide_eq_true_eq, Bool.not_eq_true', List.contains_eq_mem, decide_eq_false_iff_not] at h
  exact ⟨h.1.1.1, h.1.1.2, h.1.2, h.2⟩
def lenB (a b : Nat) : Bool := b == a || b == a + 1
theorem lenB_ok {a b : Nat} (h : lenB a b = true) : b = a ∨ b = a + 1 := by
  unfold lenB at h
  simpa using h
section
variable {P : Program} {ops : Array Oper} {C : Ctx} {md : Bool} {σ : St} {K : St → List FP → Prop} {acc : List FP} {rest : List Oper}
theorem call_s {d : Tmp} {F : FuncId} (hK : ∀ args w, (callFunc F args).run P w = .ok (.enter F args) w) {xs : List Operand} {tys : Array TypeId} {args : List Arg} {objs objs' : List (List CA)} {res : Arg} {ty : TypeId} {pos : String} {af : Array Edge}
    (hspec : Spec P F args objs res objs') (ids : List Id)
    (k : mArgs σ ids (xs.map (ev σ)) args ∧ mObjs σ ids ids objs ∧ (tokArgs (xs.map (ev σ)) args ++ tokObjs σ ids objs).Nodup ∧
      exec P ops C md K rest (puts σ (callW σ d ids (tokArgs (xs.map (ev σ)) args ++ tokObjs σ ids objs) objs' res)) ((callL d xs ids (tokArgs (xs.map (ev σ)) args ++ tokObjs σ ids objs) objs objs', locs (callW σ d ids (tokArgs (xs.map (ev σ)) args ++ tokObjs σ ids objs) objs' res)) :: acc))
    (hn : namesB d ids objs' = true := by kernel_rfl) (hl : lenB objs.length objs'.length = true := by kernel_rfl) :
    Run P ops C md K (⟨some d, .call { callee := .value (.func F), args := xs.toArray, argTypes := tys }, ty, pos, af, none⟩ :: rest) σ acc :=
  run_call hK hspec ids (mArgs_ok k.1) (mObjs_ok k.2.1) ⟨k.2.2.1, namesB_ok hn, lenB_ok hl⟩ k.2.2.2
theorem gcall_s {j : Nat} {b : Bool} {d : Tmp} {F : FuncId} (hK : ∀ args w, (callFunc F args).run P w = .ok (.enter F args) w) {xs : List Operand} {tys : Array TypeId} {args : List Arg} {objs objs' : List (List CA)} {res : Arg} {ty : TypeId} {pos : String} {af : Array Edge}
    (hspec : Spec P F args objs res objs') (ids : List Id)
    (k : ((ops[j]?).bind (·.dst)).isSome = true ∧ σ (.s (gslot ops j)) = .av (.val (.sc (.bool b))) ∧ mArgs σ ids (xs.map (ev σ)) args ∧ mObjs σ ids ids objs ∧ (tokArgs (xs.map (ev σ)) args ++ tokObjs σ ids objs).Nodup ∧
      exec P ops C md K rest (puts σ (callW σ d ids (tokArgs (xs.map (ev σ)) args ++ tokObjs σ ids objs) objs' res)) ((.s (gslot ops j) :: callL d xs ids (tokArgs (xs.map (ev σ)) args ++ tokObjs σ ids objs) objs objs', locs (callW σ d ids (tokArgs (xs.map (ev σ)) args ++ tokObjs σ ids objs) objs' res)) :: acc))
    (hn : namesB d ids objs' = true := by kernel_rfl) (hl : lenB objs.length objs'.length = true := by kernel_rfl) :
    Run P ops C md K (⟨some d, .call { callee := .value (.func F), args := xs.toArray, argTypes := tys }, ty, pos, af, some (j, b)⟩ :: rest) σ acc :=
  run_gcall hK hspec k.1 k.2.1 ids (mArgs_ok k.2.2.1) (mObjs_ok k.2.2.2.1) ⟨k.2.2.2.2.1, namesB_ok hn, lenB_ok hl⟩ k.2.2.2.2.2
/-- What a function's value is. -/
def isFn (F : FuncId) (zs : List AV) : AV → Prop
  | .fn F' zs' => F' = F ∧ zs' = zs
  | .val x => x = .sc (.func (.func F) #[] #[]) ∧ zs = []
  | _ => False
theorem isFn_ok {F : FuncId} {zs : List AV} {x : AV} (h : isFn F zs x) : x = .fn F zs ∨ (x = .val (.sc (.func (.func F) #[] #[])) ∧ zs = []) := by
  unfold isFn at h
  split at h
  · obtain ⟨rfl, rfl⟩ := h; exact .inl rfl
  · obtain ⟨rfl, rfl⟩ := h; exact .inr ⟨rfl, rfl⟩
  · exact h.elim
theorem fcall_s {d : Tmp} {F : FuncId} (hK : ∀ args w, (callFunc F args).run P w = .ok (.enter F args) w) {xs : List Operand} {tys : Array TypeId} {args : List Arg} {objs objs' : List (List CA)} {res : Arg} {ty : TypeId} {pos : String} {af : Array Edge}
    (hspec : Spec P F args objs res objs') (ids : List Id)
    {f : Operand} (zs : List AV) (k : isFn F zs (ev σ f) ∧ mArgs σ ids (xs.map (ev σ) ++ zs) args ∧ mObjs σ ids ids objs ∧ (tokArgs (xs.map (ev σ) ++ zs) args ++ tokObjs σ ids objs).Nodup ∧
      exec P ops C md K rest (puts σ (callW σ d ids (tokArgs (xs.map (ev σ) ++ zs) args ++ tokObjs σ ids objs) objs' res)) ((rdl f ++ callL d xs ids (tokArgs (xs.map (ev σ) ++ zs) args ++ tokObjs σ ids objs) objs objs', locs (callW σ d ids (tokArgs (xs.map (ev σ) ++ zs) args ++ tokObjs σ ids objs) objs' res)) :: acc))
    (hn : namesB d ids objs' = true := by kernel_rfl) (hl : lenB objs.length objs'.length = true := by kernel_rfl) :
    Run P ops C md K (⟨some d, .call { callee := .value f, args := xs.toArray, argTypes := tys }, ty, pos, af, none⟩ :: rest) σ acc :=
  run_fcall hK (isFn_ok k.1) hspec ids (mArgs_ok k.2.1) (mObjs_ok k.2.2.1) ⟨k.2.2.2.1, namesB_ok hn, lenB_ok hl⟩ k.2.2.2.2
/-- A result. -/
def resF (P : Program) (σ : St) : ResultVar → Option (Prop × AV)
  | .tmp t => some (True, ev σ (.tmp t))
  | .cell t ty => match ev σ (.tmp t), tiOf P ty with
    | .ptr o g 0, some { agg := true, size := s, .. } => match σ (.o o) with
      | .num n => some (gg σ o = g ∧ s ≤ n, .val (.agg (cellsV σ o 0 s)))
      | _ => none
    | .ptr o g 0, some { agg := false, .. } => match σ (.o o) with
      | .num n => some (gg σ o = g ∧ 0 < n, cellAV σ o 0)
      | _ => none
    | _, _ => none
theorem resF_ok {r : ResultVar} {c : Prop} {x : AV} (h : resF P σ r = some (c, x)) (hc : c) : ResOne P σ r x := by
  cases r with
  | tmp t => simp only [resF, Option.some.injEq, Prod.mk.injEq] at h; rw [← h.2]; exact .tmp t
  | cell t ty =>
    simp only [resF] at h
    split at h
    · rename_i o g _ s _ _ _ _ _ _ h1 h2
      split at h
      · rename_i n h3
        simp only [Option.some.injEq, Prod.mk.injEq] at h
        obtain ⟨rfl, rfl⟩ := h
        exact .agg t ty o g n _ h1 hc.1 h3 h2 rfl hc.2
      · cases h
    · rename_i o g _ s _ _ _ _ _ _ h1 h2
      split at h
      · rename_i n h3
        simp only [Option.some.injEq, Prod.mk.injEq] at h
        obtain ⟨rfl, rfl⟩ := h
        exact .one t ty o g n _ h1 hc.1 h3 h2 rfl hc.2
      · cases h
    · cases h
def resMF (P : Program) (σ : St) : List ResultVar → Option (Prop × List AV)
  | [] => some (True, [])
  | r :: rs => match resF P σ r, resMF P σ rs with
    | some (c, x), some (c', xs) => some (c ∧ c', x :: xs)
    | _, _ => none
theorem resMF_ok : ∀ {rs : List ResultVar} {c : Prop} {xs : List AV}, resMF P σ rs = some (c, xs) → c → ResMany P σ rs xs
  | [], c, xs, h, _ => by simp only [resMF, Option.some.injEq, Prod.mk.injEq] at h; rw [← h.2]; exact .nil
  | r :: rs, c, xs, h, hc => by
    simp only [resMF] at h
    split at h
    · rename_i c1 x c2 xs' h1 h2
      simp only [Option.some.injEq, Prod.mk.injEq] at h
      obtain ⟨rfl, rfl⟩ := h
      exact .cons (resF_ok h1 hc.1) (resMF_ok h2 hc.2)
    · cases h
def resLF (P : Program) (σ : St) : List ResultVar → Option (Prop × AV)
  | [r] => resF P σ r
  | rs => match resMF P σ rs with
    | some (c, xs) => some (c, .val (.tup (xs.map plain)))
    | none => none
theorem resLF_ok {rs : List ResultVar} {c : Prop} {x : AV} (h : resLF P σ rs = some (c, x)) (hc : c) : ResL P σ rs x := by
  match rs with
  | [r] => exact .one (resF_ok h hc)
  | [] =>
    simp only [resLF] at h
    split at h
    · rename_i c' xs h1
      simp only [Option.some.injEq, Prod.mk.injEq] at h
      obtain ⟨rfl, rfl⟩ := h
      exact .many (resMF_ok h1 hc) (by simp)
    · cases h
  | r :: r' :: rs =>
    simp only [resLF] at h
    split at h
    · rename_i c' xs h1
      simp only [Option.some.injEq, Prod.mk.injEq] at h
      obtain ⟨rfl, rfl⟩ := h
      exact .many (resMF_ok h1 hc) (by simp)
    · cases h
def retF (σ : St) (n : Nat) (res : Arg) (objs' : List (List CA)) (fresh : List Id) : Option (Prop × AV) → Prop
  | some (c, x) => c ∧ mArgs σ (pids 0 n ++ fresh) [x] [res] ∧ mObjs σ (pids 0 n ++ fresh) (pids 0 n ++ fresh) objs' ∧ (tokArgs [x] [res] ++ tokObjs σ (pids 0 n ++ fresh) objs').Nodup
  | none => False
theorem ret_s {rs : List ResultVar} {n : Nat} {res : Arg} {objs' : List (List CA)} (fresh : List Id) (h : retF σ n res objs' fresh (resLF P σ rs)) : RetOk P σ rs n res objs' := by
  cases hr : resLF P σ rs with
  | none => rw [hr] at h; exact h.elim
  | some r =>
    obtain ⟨c, x⟩ := r
    rw [hr] at h
    obtain ⟨h1, h2, h3, h4⟩ := h
    exact ⟨x, fresh, _, _, resLF_ok hr h1, mArgs_ok h2, mObjs_ok h3, h4⟩
end
attribute [go_sem] SubF SubsF mOne mOwn mHd mHdl mLent mPtr mFn mFCF mFCsF isFn isNoRow mArgs tokOne tokArgs mObjs tokObjs resF resMF resLF retF pids cellAVs callW callM callL dropW hoDrop objsW objGain gains gainW gainAV lentW treeW treeAV kid freshW freshIds resRow resAV resPtr resFC opndsL toksL objsL objsK keysL keysC freshK Value.oneCell' init initW argsW argOne argW argAV argFC isTree
attribute [go_sem] List.flatMap_cons List.flatMap_nil List.nodup_cons List.nodup_nil List.mem_cons List.not_mem_nil List.size_toArray or_false false_or or_self true_or or_true Value.int.injEq Value.bool.injEq
/-! ### Functions -/
section
variable {P : Program} {C : Ctx} {σ : St}
theorem spec_of {K : FuncId} {fn : Func} {c : Code} {nt : Nat} {rs : List ResultVar} (hf : P.funcs[K]? = some fn) (hb : fn.body = some c) (hnt : fn.ntmps = nt) (hr : fn.results = rs.toArray) {args : List Arg} {objs : List (List CA)} {res : Arg} {objs' : List (List CA)} (hn : nt ≤ 1000 ∧ args.length ≤ nt)
    (h : ∀ C : Ctx, C.nt = nt → AW P C c (init args objs) (retQ P rs objs.length res objs')) : Spec P K args objs res objs' := by
  subst hnt
  refine spec_intro hf hb hn fun C hC => ?_
  rw [hr]
  exact h C hC
theorem aw_reg {id : Nat} {l : List Oper} {Q : Exit → St → Prop} {n : Nat} (hC : C.nt = n) (hds : dstsOk n l = true) (h : exec P l.toArray C true (fun σ' _ => Q .normal σ') l σ []) : AW P C (.region id l.toArray false) σ Q := aw_region (by rw [hC]; exact hds) h
theorem aw_regd {id : Nat} {l : List Oper} {Q : Exit → St → Prop} {n : Nat} (hC : C.nt = n) (hm : P.follows .mixedOrders = true) (hds : dstsOk n l = true) (h : exec P l.toArray C false (fun σ' fp => chk l fp = true ∧ Q .normal σ') l σ []) : AW P C (.region id l.toArray true) σ Q := aw_regiond hm (by rw [hC]; exact hds) h
theorem chk_and {l : List Oper} {fp : List FP} {p : Prop} (h : chk l fp = true) (k : p) : chk l fp = true ∧ p := ⟨h, k⟩
theorem retQ_r {rs : List ResultVar} {n : Nat} {res : Arg} {objs : List (List CA)} : retQ P rs n res objs .ret σ = RetOk P σ rs n res objs := rfl
theorem retQ_n {rs : List ResultVar} {n : Nat} {res : Arg} {objs : List (List CA)} : retQ P rs n res objs .normal σ = RetOk P σ rs n res objs := rfl
end

/-! ### Numbers -/
theorem wrap_i64 {n : Int} (h1 : -9223372036854775808 ≤ n) (h2 : n ≤ 9223372036854775807) : IntKind.i64.wrap n = n := IntWalk.i64_in n ⟨h1, h2⟩
theorem wrap_u8 {n : Int} (h1 : 0 ≤ n) (h2 : n ≤ 255) : IntKind.u8.wrap n = n := IntWalk.u8_in n ⟨h1, h2⟩
theorem wrap_u16 {n : Int} (h1 : 0 ≤ n) (h2 : n ≤ 65535) : IntKind.u16.wrap n = n := IntWalk.u16_in n ⟨h1, h2⟩
theorem wrap_u32 {n : Int} (h1 : 0 ≤ n) (h2 : n ≤ 4294967295) : IntKind.u32.wrap n = n := IntWalk.u32_in n ⟨h1, h2⟩
theorem wrap_u64 {n : Int} (h1 : 0 ≤ n) (h2 : n ≤ 18446744073709551615) : IntKind.u64.wrap n = n := IntWalk.u64_in n ⟨h1, h2⟩
theorem toList_mk (l : List UInt8) : (ByteArray.mk l.toArray).toList = l := by
  rw [ByteArray.toList_eq]
theorem data_toList_mk (l : List UInt8) : (ByteArray.mk l.toArray).data.toList = l := by simp
theorem byteAt_mk (l : List UInt8) (n : Int) : byteAt ⟨l.toArray⟩ n = ((l.getD n.toNat 0).toNat : Int) := by simp [byteAt]
theorem locs_nil : locs [] = [] := rfl
theorem locs_cons {l : Pl} {x : X} {W : List (Pl × X)} : locs ((l, x) :: W) = l :: locs W := rfl
theorem rds_nil {σ : St} : rds σ [] = [] := rfl
theorem xnum_num {n : Nat} : xnum (.num n) = n := rfl
theorem ev_tmp {σ : St} {t : Nat} : ev σ (.tmp t) = (match σ (.s t) with | .av x => x | _ => .val .any) := rfl
theorem ev_const {σ : St} {v : Value} : ev σ (.const v) = .val (.sc v) := rfl
theorem ev_glob {σ : St} {g : Nat} : ev σ (.global g) = .val (.sc (.pointer (some ⟨g, 0, none⟩))) := rfl
theorem ev_func {σ : St} {f : Nat} : ev σ (.func f) = .val (.sc (.func (.func f) #[] #[])) := rfl
theorem rdl_tmp {t : Nat} : rdl (.tmp t) = [.s t] := rfl
theorem rdl_const {v : Value} : rdl (.const v) = [] := rfl
theorem rdl_glob {g : Nat} : rdl (.global g) = [] := rfl
theorem rdl_func {f : Nat} : rdl (.func f) = [] := rfl
theorem arr_at {α : Type} (l : List α) (i : Nat) : l.toArray[i]? = l[i]? := by simp
theorem gslot_at {l : List Oper} {j : Nat} : gslot l.toArray j = ((l[j]?).bind (·.dst)).getD 0 := by simp [gslot]
theorem if_same {c : Prop} [Decidable c] {α : Type} (x : α) : (if c then x else x) = x := by split <;> rfl

attribute [go_sem] exec_nil exec_none exec_some grdK_same grdK_tf grdK_ft grdK_undef stpK_some stpK_none stepU_move stepU_assign stepU_pick stepU_bin orStp_some orStp_none stepU_un stepU_conv stepU_ext stepU_fieldA stepU_load stepU_nil stepU_store stepU_alloc stepU_box stepU_build stepU_buildS stepU_index stepU_indexA stepU_slice stepU_len stepU_max stepU_min stepU_append stepU_copy stepU_clear stepU_clearN stepU_call stepU_makeMap stepU_insert stepU_mapUpdate stepU_lookup stepU_range stepU_entry stepU_next stepU_mkFn
attribute [go_sem] stepU_cap stAppendO stIndexR stBuildT ghOf stCap stSliceX stAppendI stAppendZ stCopyX stSlice3 isIntT treeW
attribute [go_sem] stClearN stLenV stIndexAV stSliceV stAppendV stCopyV stClearV vwOf vwL elsS elsC isSliceS growS noLent
attribute [go_sem] stMove stPick stBin stBinB binV stUn stConv stExt stFieldA stLoad stNil stStore stAlloc stBox stBuild stBuildS stIndex stIndexA stSlice stLen stMM stAppend stMakeMap stInsert stLookup stLenT stRange stEntry stMkFn stIndexAT stFieldAT pvOf stLoadP stLoadT stStoreT stAppendT stSliceT stCopyT growC lookV gotV setTW newTW keyC keysIs keyIs_int keyIs_str keyIs_bool vOf kvSet_nil kvSet_cons kvGet_nil kvGet_cons
attribute [go_sem] ev_tmp ev_const ev_glob ev_func rdl_tmp rdl_const rdl_glob rdl_func scOf put_at puts_nil puts_cons gg_put gq_put gh_put gh_base gg_base gq_base base_at xnum_num newW objW cellsW cellAV cellsV cellsL plain lenV lstOf elsOf isSliceA boundOf bl loOf hiOf mxOf partV fillV spliceV placeF evs opsL chunk oneA liveL locs_nil locs_cons rds_nil retQ_r retQ_n thenQ_n thenQ_r thenQ_e blockQ_n blockQ_r blockQ_e mkSt
attribute [go_sem] ite_true ite_false eq_self
attribute [go_sem] wrap_i64 wrap_u8 wrap_u16 wrap_u32 wrap_u64 toList_mk data_toList_mk byteAt_mk arr_at gslot_at if_same
attribute [go_sem] List.map_cons List.map_nil List.cons_append List.nil_append List.append_nil List.length_cons List.length_nil List.getElem?_cons_zero List.getElem?_cons_succ List.getElem?_nil List.take_succ_cons List.take_zero List.take_nil List.drop_succ_cons List.drop_zero List.drop_nil List.replicate_succ List.replicate_zero List.all_cons List.all_nil List.getD_cons_zero List.getD_cons_succ List.reverse_cons List.reverse_nil
attribute [go_sem] Option.map_some Option.map_none Option.bind_some Option.bind_none Option.getD_some Option.getD_none Option.isSome_some Option.isSome_none Option.some.injEq Pl.s.injEq Pl.c.injEq Pl.o.injEq Pl.g.injEq Pl.k.injEq Pl.q.injEq Pl.r.injEq Pl.h.injEq Pl.l.injEq Ho.o.injEq Ho.k.injEq Ho.r.injEq X.tree.injEq Prod.mk.injEq and_true true_and and_self not_true_eq_false not_false_eq_true decide_true decide_false Bool.not_true Bool.not_false ne_eq Bool.and_true Bool.true_and Bool.false_and Bool.and_false false_and and_false forall_const implies_true
/-! ### Choices -/
section
variable {P : Program} {C : Ctx} {σ : St} {x y : Code} {Q : Exit → St → Prop} {A B : Prop}
/-- A choice by a value. -/
def condK (A B : Prop) : AV → Prop
  | .val (.sc (.bool b)) => (b = true → A) ∧ (b = false → B)
  | _ => False
theorem aw_if {c : Operand} (h : condK (AW P C x σ Q) (AW P C y σ Q) (ev σ c)) : AW P C (.cond c x y) σ Q := by
  unfold condK at h
  split at h
  · rename_i b hb
    exact aw_cond hb h.1 h.2
  · exact h.elim
theorem condK_t : condK A B (.val (.sc (.bool true))) = A := by simp [condK]
theorem condK_f : condK A B (.val (.sc (.bool false))) = B := by simp [condK]
theorem condK_not {b : Bool} : condK A B (.val (.sc (.bool (!b)))) = condK B A (.val (.sc (.bool b))) := by cases b <;> simp [condK]
theorem condK_if {b : Bool} (h1 : b = true → A) (h2 : b = false → B) : condK A B (.val (.sc (.bool b))) := ⟨h1, h2⟩
theorem condK_dec {p : Prop} [Decidable p] (h1 : p → A) (h2 : ¬p → B) : condK A B (.val (.sc (.bool (decide p)))) := ⟨fun h => h1 (of_decide_eq_true h), fun h => h2 (of_decide_eq_false h)⟩
theorem condK_eq {α : Type} [BEq α] [LawfulBEq α] {a b : α} (h1 : a = b → A) (h2 : a ≠ b → B) : condK A B (.val (.sc (.bool (a == b)))) := ⟨fun h => h1 (eq_of_beq h), fun h => h2 (fun e => by rw [e, beq_self_eq_true] at h; cases h)⟩
attribute [go_sem] condK_t condK_f condK_not
end

/-! ### Knowing less, reckoned -/
def weakFCF (σ : St) : AV → AV → Prop
  | .ptr o g off, .ptr o' g' off' => o' = o ∧ g' = 0 ∧ off' = off ∧ g = gg σ o
  | .val x, .val y => SubF x y
  | _, _ => False
def weakFCsF (σ : St) : List AV → List AV → Prop
  | [], [] => True
  | x :: xs, y :: ys => weakFCF σ x y ∧ weakFCsF σ xs ys
  | _, _ => False
theorem weakFCsF_ok {σ : St} : ∀ {xs ys : List AV}, weakFCsF σ xs ys → weakFCs σ xs ys
  | [], [], _ => trivial
  | x :: xs, y :: ys, h => by
    refine ⟨?_, weakFCsF_ok h.2⟩
    have h1 := h.1
    cases x <;> cases y <;> first | exact subF_ok _ _ h1 | exact h1 | exact h1.elim
  | [], _ :: _, h => h.elim
  | _ :: _, [], h => h.elim
def weakVF (σ : St) (x : AV) : AV → Prop
  | .val y => SubF (plain x) y
  | .own k' g' e' sz' es' => match x with
    | .own k g e sz es => k' = k ∧ g' = 0 ∧ e' = e ∧ sz' = sz ∧ es' = es ∧ g = gq σ k
    | _ => False
  | .ptr o' g' off' => match x with
    | .ptr o g off => o' = o ∧ g' = 0 ∧ off' = off ∧ g = gg σ o
    | _ => False
  | .ref k' g' => match x with
    | .ref k g => k' = k ∧ g' = 0 ∧ g = gh σ k
    | _ => False
  | .elp k' g' sz' i' off' => match x with
    | .elp k g sz i off => k' = k ∧ g' = 0 ∧ sz' = sz ∧ i' = i ∧ off' = off ∧ g = gh σ k
    | _ => False
  | .vw k' g' sz' off' len' => match x with
    | .vw k g sz off len => k' = k ∧ g' = 0 ∧ sz' = sz ∧ off' = off ∧ len' = len ∧ g = gh σ k
    | _ => False
  | .fn K' xs' => match x with
    | .fn K xs => K' = K ∧ weakFCsF σ xs xs'
    | _ => False
  | .ag _ => False
  | .cp _ _ _ => False
  | .pv _ _ _ => False
  | .nv _ _ _ => False
theorem weakVF_ok {σ : St} {x y : AV} (h : weakVF σ x y) : weakAV σ x y := by
  cases y with
  | val y =>
    have h1 := subF_ok _ _ (show SubF (plain x) y from h)
    cases x <;> exact h1
  | own => cases x <;> first | exact h | exact (show False from h).elim
  | ptr => cases x <;> first | exact h | exact (show False from h).elim
  | ref => cases x <;> first | exact h | exact (show False from h).elim
  | elp => cases x <;> first | exact h | exact (show False from h).elim
  | vw => cases x <;> first | exact h | exact (show False from h).elim
  | fn K xs => cases x with
               | fn K' xs' => exact ⟨h.1, weakFCsF_ok h.2⟩
               | _ => exact (show False from h).elim
  | ag => exact (show False from h).elim
  | cp => exact (show False from h).elim
  | pv => exact (show False from h).elim
  | nv => exact (show False from h).elim
def weakAF (σ : St) (y : AV) : X → Prop
  | .av x => weakVF σ x y
  | _ => False
def weakLF (σ : St) (i : Nat) (y : AV) : X → Prop
  | .lent i' x => i' = i ∧ weakVF σ x y
  | _ => False
def weakIF (σ : St) (k : Id) (g : Nat) (s : List Nat) : X → Prop
  | .itr k' g' s' => k' = k ∧ s' = s ∧ g' = gg σ k ∧ g = 0
  | _ => False
def weakXF (σ : St) : Pl → X → Prop
  | .s t, .av y => weakAF σ y (σ (.s t))
  | .c o i, .av y => weakAF σ y (σ (.c o i))
  | .o o, .num n => σ (.o o) = .num n
  | .o o, .itr k g s => weakIF σ k g s (σ (.o o))
  | .k k, .row e sz n => σ (.k k) = .row e sz n
  | .r k, .tree x => σ (.r k) = .tree x
  | .l k, .lent i y => weakLF σ i y (σ (.l k))
  | _, _ => False
theorem weakXF_ok {σ : St} {l : Pl} {x : X} (h : weakXF σ l x) : weakX σ l x := by
  cases x with
  | av y =>
    cases l with
    | s t => simp only [weakXF] at h; unfold weakAF at h; split at h
             · rename_i z hz; exact ⟨z, hz, weakVF_ok h⟩
             · exact h.elim
    | c o i => simp only [weakXF] at h; unfold weakAF at h; split at h
               · rename_i z hz; exact ⟨z, hz, weakVF_ok h⟩
               · exact h.elim
    | _ => simp [weakXF] at h
  | num n => cases l with
    | o o => exact ⟨o, rfl, h⟩
    | _ => simp [weakXF] at h
  | row e sz n => cases l with
    | k k => exact ⟨k, rfl, h⟩
    | _ => simp [weakXF] at h
  | tree y => cases l with
    | r k => exact ⟨k, rfl, h⟩
    | _ => simp [weakXF] at h
  | lent i y => cases l with
    | l k =>
      simp only [weakXF] at h; unfold weakLF at h; split at h
      · rename_i i' z hz; obtain ⟨rfl, h⟩ := h; exact ⟨k, z, rfl, hz, weakVF_ok h⟩
      · exact h.elim
    | _ => simp [weakXF] at h
  | itr k g s => cases l with
    | o o =>
      simp only [weakXF] at h; unfold weakIF at h; split at h
      · rename_i k' g' s' hz; obtain ⟨rfl, rfl, h3, h4⟩ := h; exact ⟨o, g', rfl, hz, h3, h4⟩
      · exact h.elim
    | _ => simp [weakXF] at h
  | non => cases l <;> simp [weakXF] at h
def weakF (σ : St) : List (Pl × X) → Prop
  | [] => True
  | p :: L => weakXF σ p.1 p.2 ∧ weakF σ L
theorem weakF_ok {σ : St} : ∀ {L : List (Pl × X)}, weakF σ L → Weak σ L
  | [], _ => trivial
  | p :: L, h => ⟨weakXF_ok h.1, weakF_ok h.2⟩
section
variable {P : Program} {C : Ctx} {σ : St} {Q : Exit → St → Prop}
/-- The end of a round. -/
def NextS {α : Type} (I : α → List (Pl × X)) (μ : α → Nat) (x : α) (σ : St) : Prop := ∃ y, weakF σ (I y) ∧ μ y < μ x
theorem next_s {α : Type} {I : α → List (Pl × X)} {μ : α → Nat} {x : α} (y : α) (h : weakF σ (I y) ∧ μ y < μ x) : NextS I μ x σ := ⟨y, h⟩
theorem loop_s {α : Type} {c : Code} (I : α → List (Pl × X)) (μ : α → Nat) (x : α) (hx : weakF σ (I x)) (round : ∀ x, AW P C c (mkSt (I x)) (thenQ (NextS I μ x) Q)) : AW P C (.loop c) σ Q :=
  aw_loop I μ x (weakF_ok hx) fun x E a w hg => by
    refine Code.wp_mono (fun e a' w' hq => ?_) (round x E a w hg)
    obtain ⟨E', σ', h1, h2⟩ := hq
    refine ⟨E', σ', ?_, h2⟩
    cases e with
    | normal => obtain ⟨y, h3, h4⟩ := h1; exact ⟨y, weakF_ok h3, h4⟩
    | _ => exact h1
end
theorem str_eq (a b : List UInt8) : (str a = str b) = (a = b) := propext ⟨fun h => by injection h with h; injection h with h; simpa using h, fun h => by rw [h]⟩
theorem mk_eq (a b : List UInt8) : (Value.string ⟨a.toArray⟩ = str b) = (a = b) := str_eq a b
theorem mk_eq0 (b : List UInt8) : (Value.string ⟨#[]⟩ = str b) = ([] = b) := str_eq [] b
attribute [go_sem] weakFCF weakFCsF weakVF weakAF weakLF weakIF weakXF weakF str_eq mk_eq mk_eq0 Nat.sub_zero Int.toNat_natCast
theorem byte_le (b : UInt8) : (b.toNat : Int) ≤ 255 := by have := b.toNat_lt; omega
theorem wrapb_u8 (b : UInt8) : IntKind.u8.wrap (b.toNat : Int) = b.toNat := wrap_u8 (by omega) (byte_le b)
theorem wrapb_u16 (b : UInt8) : IntKind.u16.wrap (b.toNat : Int) = b.toNat := wrap_u16 (by omega) (by have := byte_le b; omega)
theorem wrapb_u32 (b : UInt8) : IntKind.u32.wrap (b.toNat : Int) = b.toNat := wrap_u32 (by omega) (by have := byte_le b; omega)
theorem wrapb_u64 (b : UInt8) : IntKind.u64.wrap (b.toNat : Int) = b.toNat := wrap_u64 (by omega) (by have := byte_le b; omega)
theorem wrapb_i64 (b : UInt8) : IntKind.i64.wrap (b.toNat : Int) = b.toNat := wrap_i64 (by omega) (by have := byte_le b; omega)
theorem bitsZ_and {k : IntKind} {a b : Int} : bitsZ .and k a b = bits .and k a b := rfl
theorem bitsZ_or {k : IntKind} {a b : Int} : bitsZ .or k a b = bits .or k a b := rfl
theorem bitsZ_xor {k : IntKind} {a b : Int} : bitsZ .xor k a b = bits .xor k a b := rfl
attribute [go_sem] bitsZ_and bitsZ_or bitsZ_xor IntKind.bits wrapb_u8 wrapb_u16 wrapb_u32 wrapb_u64 wrapb_i64
theorem cast0 : ((0 : Nat) : Int) = 0 := rfl
theorem cast1 : ((1 : Nat) : Int) = 1 := rfl
theorem fdiv_pos (n : Int) {m : Int} (h : 0 ≤ m) : n.fdiv m = n / m := Int.fdiv_eq_ediv_of_nonneg n h
/-- A byte that was cut from a number. -/
theorem byte_of (x : Int) : [V.sc (.int .u8 (IntKind.u8.wrap x))] = byteEl (UInt8.ofNat (x % 256).toNat) := by
  have h1 := Int.emod_nonneg x (show (256 : Int) ≠ 0 by decide)
  have h2 := Int.emod_lt_of_pos x (show (0 : Int) < 256 by decide)
  have h3 : (UInt8.ofNat (x % 256).toNat).toNat = (x % 256).toNat := by rw [UInt8.toNat_ofNat']; exact Nat.mod_eq_of_lt (by omega)
  unfold byteEl
  rw [h3, IntKind.wrap_u8]
  have h4 : x % 2 ^ 8 = x % 256 := rfl
  rw [show ((x % 256).toNat : Int) = x % 256 by omega]
  try rfl
attribute [go_sem] cast0 cast1 Int.cast_ofNat_Int forall_eq forall_eq_or_imp List.length_map List.length_append fdiv_pos
theorem map_getD {α : Type} (f : α → List V) (l : List α) (j : Nat) (h : j < l.length) : (l.map f).getD j [] = f l[j] := by simp [h]
attribute [go_sem] map_getD
section
variable {P : Program} {ops : Array Oper} {C : Ctx} {md : Bool} {σ : St} {K : St → List FP → Prop} {acc : List FP} {rest : List Oper}
/-- Bytes as a text. -/
theorem convBS_s {d : Tmp} {s t : TypeId} {x : Operand} {ty : TypeId} {pos : String} {af : Array Edge} (l : List UInt8) (h : elsOf (ev σ x) = some (l.map byteEl)) (hl : isSliceA (ev σ x) = true)
    (hc : (tiOf P s).map (·.sh) = some .slice ∧ ((tiOf P s).bind fun T => tiOf P T.elem).map (·.sh) = some (.int .u8) ∧ (tiOf P t).map (·.sh) = some .str)
    (k : exec P ops C md K rest (put σ (.s d) (.av (.val (.sc (str l))))) ((rdl x, [.s d]) :: acc)) : Run P ops C md K (⟨some d, .convert s t x, ty, pos, af, none⟩ :: rest) σ acc :=
  run_any (ok_convBS h hl) rfl hc k
end

theorem dec_yes {p : Prop} [Decidable p] (h : p) : decide p = true := decide_eq_true h
theorem dec_no {p : Prop} [Decidable p] (h : ¬p) : decide p = false := decide_eq_false h
theorem beq_yes {a b : Int} (h : a = b) : (a == b) = true := by simp [h]
theorem beq_no {a b : Int} (h : ¬a = b) : (a == b) = false := by simp [h]
attribute [go_sem] dec_yes dec_no beq_yes beq_no
theorem oneV_sc (v : Value) : oneV (.sc v) = v.oneCell' := rfl
theorem oneV_lst (s : Nat) (es : List (List V)) : oneV (.lst s es) = true := rfl
theorem oneV_ep (xs : List V) : oneV (.ep xs) = true := rfl
theorem oneV_ifc (t : TypeId) (x : V) : oneV (.ifc t x) = true := rfl
theorem bytes_len (l : List UInt8) : (∀ r ∈ l.map byteEl, r.length = 1) = True := eq_true (by intro r hr; obtain ⟨b, _, rfl⟩ := List.mem_map.1 hr; rfl)
theorem bytes_one (l : List UInt8) : (∀ r ∈ l.map byteEl, ∀ y ∈ r, oneV y = true) = True := eq_true (by intro r hr y hy; obtain ⟨b, _, rfl⟩ := List.mem_map.1 hr; simp [byteEl] at hy; subst hy; rfl)
attribute [go_sem] oneV_sc oneV_lst oneV_ep oneV_ifc bytes_len bytes_one
theorem tmod_pos {a : Int} (b : Int) (h : 0 ≤ a) : a.tmod b = a % b := Int.tmod_eq_emod_of_nonneg h
theorem tdiv_pos {a : Int} (b : Int) (h : 0 ≤ a) : a.tdiv b = a / b := Int.tdiv_eq_ediv_of_nonneg h
attribute [go_sem] tmod_pos tdiv_pos
theorem bne_yes {a b : Int} (h : ¬a = b) : (a != b) = true := by simp [h]
theorem bne_no {a b : Int} (h : a = b) : (a != b) = false := by simp [h]
theorem condK_bne {A B : Prop} {α : Type} [BEq α] {a b : α} : condK A B (.val (.sc (.bool (a != b)))) = condK B A (.val (.sc (.bool (a == b)))) := condK_not
attribute [go_sem] bne_yes bne_no condK_bne
/-! ### A slice without elements as a row of one's own -/
section
variable {P : Program} {C : Ctx} {E : Env} {σ : St} {a : Act} {w : World} {Q : Exit → St → Prop}
theorem Gm.know (h : Gm C E σ a w) (l : Pl) (x y : AV) (hl : ∀ o, l ≠ .g o ∧ l ≠ .q o ∧ l ≠ .k o ∧ l ≠ .o o ∧ l ≠ .h o ∧ l ≠ .r o ∧ l ≠ .l o) (hx : σ l = .av x) (hxy : ∀ v, RdA E σ x v → RdA E σ y v) : Gm C E (put σ l (.av y)) a w := by
  have hG : ∀ o, put σ l (.av y) (.g o) = σ (.g o) := fun o => put_ne _ _ (fun e => (hl o).1 e.symm)
  have hQ : ∀ o, put σ l (.av y) (.q o) = σ (.q o) := fun o => put_ne _ _ (fun e => (hl o).2.1 e.symm)
  have hK : ∀ o, put σ l (.av y) (.k o) = σ (.k o) := fun o => put_ne _ _ (fun e => (hl o).2.2.1 e.symm)
  have hO : ∀ o, put σ l (.av y) (.o o) = σ (.o o) := fun o => put_ne _ _ (fun e => (hl o).2.2.2.1 e.symm)
  have hH : ∀ o, put σ l (.av y) (.h o) = σ (.h o) := fun o => put_ne _ _ (fun e => (hl o).2.2.2.2.1 e.symm)
  have hR : ∀ o, put σ l (.av y) (.r o) = σ (.r o) := fun o => put_ne _ _ (fun e => (hl o).2.2.2.2.2.1 e.symm)
  have hL : ∀ o, put σ l (.av y) (.l o) = σ (.l o) := fun o => put_ne _ _ (fun e => (hl o).2.2.2.2.2.2 e.symm)
  have hmo : Mo E σ E (put σ l (.av y)) := Mo.same hG hQ hK hH
  refine ⟨h.sz, h.df, h.ms, h.fr, fun u z hz => ?_, fun o i z n h1 h2 h3 => ?_, fun o n h1 => h.ob o n (by rw [← hO]; exact h1), fun k e s T h1 => h.ro k e s T (by rw [← hK]; exact h1),
    fun o o' n n' h1 h2 => h.oo o o' n n' (by rw [← hO]; exact h1) (by rw [← hO]; exact h2), fun k k' e s T e' s' T' b h1 h2 => h.rr k k' e s T e' s' T' b (by rw [← hK]; exact h1) (by rw [← hK]; exact h2),
    fun o n k e s T h1 h2 => h.or o n k e s T (by rw [← hO]; exact h1) (by rw [← hK]; exact h2), h.pi, h.ml, h.mx,
    h.tr.beside hmo hR hL hO hK (fun _ _ _ _ _ _ => rfl) (fun _ _ _ _ _ _ => rfl)⟩
  · by_cases hu : Pl.s u = l
    · rw [hu, put_same] at hz
      cases hz
      exact (hxy _ (h.sl u x (by rw [hu]; exact hx))).mo hmo
    · rw [put_ne _ _ hu] at hz
      exact (h.sl u z hz).mo hmo
  · rw [hO] at h2
    by_cases hu : Pl.c o i = l
    · rw [hu, put_same] at h1
      cases h1
      obtain ⟨v, hv, hr⟩ := h.ce o i x n (by rw [hu]; exact hx) h2 h3
      exact ⟨v, hv, (hxy v hr).mo hmo⟩
    · rw [put_ne _ _ hu] at h1
      obtain ⟨v, hv, hr⟩ := h.ce o i z n h1 h2 h3
      exact ⟨v, hv, hr.mo hmo⟩
theorem aw_own {c : Code} (l : Pl) (k : Id) (e : TypeId) (sz : Nat) (hl : (∃ t, l = .s t) ∨ ∃ o i, l = .c o i) (hx : σ l = .av (.val (.sc (.slice none 0 0))))
    (h : AW P C c (puts σ [(.q k, .num (gq σ k + 1)), (.k k, .row e sz 0), (l, .av (.own k (gq σ k + 1) e sz []))]) Q) : AW P C c σ Q := by
  intro E a w hg
  have hll : ∀ o, l ≠ .g o ∧ l ≠ .q o ∧ l ≠ .k o ∧ l ≠ .o o ∧ l ≠ .h o ∧ l ≠ .r o ∧ l ≠ .l o := fun o => by
    rcases hl with ⟨t, rfl⟩ | ⟨o', i, rfl⟩ <;> refine ⟨?_, ?_, ?_, ?_, ?_, ?_, ?_⟩ <;> (intro e; cases e)
  obtain ⟨E', h1, h2, h3, h4, h5, h6⟩ := hg.row k (gq σ k) (gq σ k + 1) rfl e sz 0 (.slice none 0 0) w [] (.inr rfl) (fun b hb => by cases hb) ⟨by simp, .inl ⟨rfl, rfl⟩⟩ (Chg.refl _ w)
  refine h E' a w (Gm.know h1 l (.val (.sc (.slice none 0 0))) _ hll ?_ (fun v hv => ?_))
  · show put (put σ (.q k) _) (.k k) _ l = _
    rw [put_ne _ _ (hll k).2.2.1, put_ne _ _ (hll k).2.1]
    exact hx
  · have := Rd.sc_eq hv
    subst this
    exact h6 [] rfl (Sub.nil sz _ _ hv)
theorem own_s {c : Code} (t : Nat) (k : Id) (e : TypeId) (sz : Nat) (h : σ (.s t) = .av (.val (.sc (.slice none 0 0))) ∧ AW P C c (puts σ [(.q k, .num (gq σ k + 1)), (.k k, .row e sz 0), (.s t, .av (.own k (gq σ k + 1) e sz []))]) Q) : AW P C c σ Q :=
  aw_own (.s t) k e sz (.inl ⟨t, rfl⟩) h.1 h.2
theorem own_c {c : Code} (o : Id) (i : Nat) (k : Id) (e : TypeId) (sz : Nat) (h : σ (.c o i) = .av (.val (.sc (.slice none 0 0))) ∧ AW P C c (puts σ [(.q k, .num (gq σ k + 1)), (.k k, .row e sz 0), (.c o i, .av (.own k (gq σ k + 1) e sz []))]) Q) : AW P C c σ Q :=
  aw_own (.c o i) k e sz (.inr ⟨o, i, rfl⟩) h.1 h.2
end

theorem cast_s (j : Nat) : ((j + 1 : Nat) : Int) = (j : Int) + 1 := rfl
attribute [go_sem] cast_s
/-! ### Calls, with or without a guard, reckoned at once -/
def gOk (ops : Array Oper) (σ : St) : Option (Nat × Bool) → Prop
  | none => True
  | some (j, b) => ((ops[j]?).bind (·.dst)).isSome = true ∧ σ (.s (gslot ops j)) = .av (.val (.sc (.bool b)))
def gL (ops : Array Oper) : Option (Nat × Bool) → List Pl
  | none => []
  | some (j, _) => [.s (gslot ops j)]
section
variable {P : Program} {ops : Array Oper} {C : Ctx} {σ : St} {md : Bool} {K : St → List FP → Prop} {acc : List FP} {rest : List Oper}
theorem call_u {d : Tmp} {F : FuncId} (hK : ∀ args w, (callFunc F args).run P w = .ok (.enter F args) w) {xs : List Operand} {tys : Array TypeId} {args : List Arg} {objs objs' : List (List CA)} {res : Arg} {ty : TypeId} {pos : String} {af : Array Edge} {g : Option (Nat × Bool)}
    (hspec : Spec P F args objs res objs') (ids : List Id)
    (h : gOk ops σ g ∧ mArgs σ ids (xs.map (ev σ)) args ∧ mObjs σ ids ids objs ∧ (tokArgs (xs.map (ev σ)) args ++ tokObjs σ ids objs).Nodup)
    (k : exec P ops C md K rest (puts σ (callW σ d ids (tokArgs (xs.map (ev σ)) args ++ tokObjs σ ids objs) objs' res)) ((gL ops g ++ callL d xs ids (tokArgs (xs.map (ev σ)) args ++ tokObjs σ ids objs) objs objs', locs (callW σ d ids (tokArgs (xs.map (ev σ)) args ++ tokObjs σ ids objs) objs' res)) :: acc))
    (hn : namesB d ids objs' = true := by kernel_rfl) (hl : lenB objs.length objs'.length = true := by kernel_rfl) :
    Run P ops C md K (⟨some d, .call { callee := .value (.func F), args := xs.toArray, argTypes := tys }, ty, pos, af, g⟩ :: rest) σ acc := by
  obtain ⟨h0, h1, h2, h3⟩ := h
  cases g with
  | none => exact run_call hK hspec ids (mArgs_ok h1) (mObjs_ok h2) ⟨h3, namesB_ok hn, lenB_ok hl⟩ k
  | some g =>
    obtain ⟨j, b⟩ := g
    exact run_gcall hK hspec h0.1 h0.2 ids (mArgs_ok h1) (mObjs_ok h2) ⟨h3, namesB_ok hn, lenB_ok hl⟩ k
end
attribute [go_sem] gOk gL and_true true_and
attribute [go_sem] reduceCtorEq Nat.reduceAdd Nat.reduceSub Nat.reduceMul Int.reduceToNat Int.reducePow Int.reduceAdd Int.reduceSub Int.reduceMul Int.reduceNeg Nat.min_eq_left Nat.min_eq_right Int.max_eq_left Int.max_eq_right Int.min_eq_left Int.min_eq_right Nat.reduceLeDiff
abbrev vi (n : Int) : V := .sc (.int .i64 n)
abbrev vu (n : Int) : V := .sc (.int .u32 n)
abbrev vh (n : Int) : V := .sc (.int .u16 n)
abbrev vb (b : Bool) : V := .sc (.bool b)
abbrev vs (l : List UInt8) : V := .sc (str l)
abbrev vfn (K : FuncId) : V := .sc (.func (.func K) #[] #[])
end Go.Proofs.YtkclmofjlmeolaaGreatDoor

