
/- What each operation does to abstract values. -/
import Derived.Test.YtojcjbaimdjhoaaGreatDoorR2
namespace Go.Proofs.YtojcjbaimdjhoaaGreatDoor
open Go.RowKit
set_option linter.unusedVariables false
set_option linter.unusedSimpArgs false

/-! ### Types -/
inductive Sh where
  | bool | int (k : IntKind) | str | slice | array (n : Nat) | strct | ptr | map | other
structure TI where
  sh : Sh
  agg : Bool
  size : Nat
  bytes : Nat
  zero : List Value
  elem : TypeId
  fields : List (Nat × Nat × Bool)
  fok : Bool
  zok : Bool
def tiOf (P : Program) (t : TypeId) : Option TI :=
  match P.info? t, P.underlying t with
  | some i, some d => some {
      sh := match d with | .bool => .bool | .int k => .int k | .string => .str | .slice _ => .slice | .array n _ => .array n | .struct _ => .strct | .pointer _ => .ptr | .map _ _ => .map | _ => .other
      agg := match d with | .struct _ | .array _ _ => true | _ => false
      size := i.size
      bytes := i.bytes
      zero := match i.zero with | some z => z.cells.toList | none => []
      elem := match d with | .slice e | .array _ e | .pointer e | .map _ e => e | _ => 0
      fields := match d with | .struct fs => fs.toList.map fun f => (f.offset, ((P.info? f.type).map (·.size)).getD 0, (match P.underlying f.type with | some (.struct _) | some (.array _ _) => true | _ => false)) | _ => []
      fok := match d with | .struct fs => fs.toList.all fun f => (P.info? f.type).isSome | _ => true
      zok := i.zero.isSome }
  | _, _ => none
theorem tiOf_some {P : Program} {t : TypeId} {T : TI} (h : tiOf P t = some T) : ∃ i d, P.info? t = some i ∧ P.underlying t = some d ∧ T.size = i.size ∧ T.bytes = i.bytes ∧
    T.agg = (match d with | .struct _ | .array _ _ => true | _ => false) ∧ (T.sh = .slice → d = .slice T.elem) ∧ (∀ n, T.sh = .array n → d = .array n T.elem) ∧ (T.sh = .str → d = .string) ∧ (∀ k, T.sh = .int k → d = .int k) ∧ (T.sh = .bool → d = .bool) ∧
    (T.sh = .strct → ∃ fs, d = .struct fs ∧ T.fields = fs.toList.map fun f => (f.offset, ((P.info? f.type).map (·.size)).getD 0, (match P.underlying f.type with | some (.struct _) | some (.array _ _) => true | _ => false))) ∧
    (T.zero = match i.zero with | some z => z.cells.toList | none => []) ∧ (T.sh = .map → ∃ k, d = .map k T.elem) ∧ (T.sh = .ptr → d = .pointer T.elem) ∧ (T.fok = match d with | .struct fs => fs.toList.all fun f => (P.info? f.type).isSome | _ => true) ∧
    T.zok = i.zero.isSome := by
  unfold tiOf at h
  cases hi : P.info? t with
  | none => rw [hi] at h; cases h
  | some i =>
    cases hd : P.underlying t with
    | none => rw [hi, hd] at h; cases h
    | some d =>
      rw [hi, hd] at h
      simp only [Option.some.injEq] at h
      subst h
      refine ⟨i, d, rfl, rfl, rfl, rfl, rfl, ?_, ?_, ?_, ?_, ?_, ?_, rfl, ?_, ?_, rfl, rfl⟩ <;> cases d <;> simp

/-! ### Operands -/
def ev (σ : St) : Operand → AV
  | .tmp t => match σ (.s t) with | .av x => x | _ => .val .any
  | .const v => .val (.sc v)
  | .global g => .val (.sc (.pointer (some ⟨g, 0, none⟩)))
  | .func f => .val (.sc (.func (.func f) #[] #[]))
def rdl : Operand → List Pl
  | .tmp t => [.s t]
  | _ => []
def rds (σ : St) (L : List Pl) : List (Pl × X) := L.map fun l => (l, σ l)
theorem ev_congr {σ σ' : St} {x : Operand} (h : ∀ l ∈ rdl x, σ' l = σ l) : ev σ' x = ev σ x := by
  cases x with
  | tmp t => simp only [ev]; rw [h (.s t) (by simp [rdl])]
  | _ => rfl
section
variable {P : Program} {ops : Array Oper} {C : Ctx} {E : Env} {σ : St} {a : Act} {w : World}
theorem ev_ok (h : Gm C E σ a w) (x : Operand) : RdA E σ (ev σ x) (a.eval x) := by
  cases x with
  | tmp t =>
    show RdA E σ (ev σ (.tmp t)) (a.tmps.getD t undef)
    simp only [ev]
    split
    · rename_i x hx; exact h.sl t x hx
    · exact Rd.any _
  | _ => exact Rd.sc _

/-- What a step says: a condition, what it reads, what it writes. -/
abbrev Stp := Option (Prop × List Pl × List (Pl × X))
def StOk (P : Program) (C : Ctx) (σ : St) (d : Option Tmp) (op : Op) (st : Stp) : Prop :=
  ∀ c L W, st = some (c, L, W) → c → ∀ ops ty pos af, OpOk P ops C ⟨d, op, ty, pos, af, none⟩ (rds σ L) W

theorem rds_all {σ σ' : St} {L : List Pl} (h : ∀ p ∈ rds σ L, σ' p.1 = p.2) : ∀ l ∈ L, σ' l = σ l := fun l hl => h (l, σ l) (List.mem_map.2 ⟨l, hl, rfl⟩)
/-- A step that gives a value. -/
theorem ok_value {d : Tmp} {op : Op} {c : Prop} {L : List Pl} {W0 : List (Pl × X)} {x : AV}
    (h : c → ∀ ty pos af E σ' a w, (∀ l ∈ L, σ' l = σ l) → Gm C E σ' a w → (d < C.nt) → ∃ v w' E', (execOp a.eval ⟨some d, op, ty, pos, af, none⟩).run P w = .ok (.value v) w' ∧ Gm C E' (puts σ' W0) a w' ∧ RdA E' (puts σ' W0) x v) :
    StOk P C σ (some d) op (some (c, L, W0 ++ [(.s d, .av x)])) := by
  intro c' L' W' he hc ops ty pos af E σ' a w K Q hd hr hg hK
  simp only [Option.some.injEq, Prod.mk.injEq] at he
  obtain ⟨rfl, rfl, rfl⟩ := he
  obtain ⟨v, w', E', h1, h2, h3⟩ := h hc ty pos af E σ' a w (rds_all hr) hg (hd d rfl)
  rw [if_pos (by simp [Region.wanted])]
  show Oper.upon _ _ _ _ _ _
  rw [h1]
  refine hK _ _ E' ?_
  rw [puts_append]
  exact h2.slot d x v (hd d rfl) h3
/-- A step that gives a value and leaves all else. -/
theorem ok_pure {d : Tmp} {op : Op} {c : Prop} {L : List Pl} {x : AV}
    (h : c → ∀ ty pos af E σ' a w, (∀ l ∈ L, σ' l = σ l) → Gm C E σ' a w → ∃ v, (execOp a.eval ⟨some d, op, ty, pos, af, none⟩).run P w = .ok (.value v) w ∧ RdA E σ' x v) :
    StOk P C σ (some d) op (some (c, L, [(.s d, .av x)])) := by
  refine ok_value (W0 := []) fun hc ty pos af E σ' a w hr hg _ => ?_
  obtain ⟨v, h1, h2⟩ := h hc ty pos af E σ' a w hr hg
  exact ⟨v, w, E, h1, hg, h2⟩

def stMove (σ : St) (d : Tmp) (x : Operand) : Stp := some (True, rdl x, [(.s d, .av (ev σ x))])
theorem ok_move (d : Tmp) (x : Operand) : StOk P C σ (some d) (.move x) (stMove σ d x) :=
  ok_pure fun _ ty pos af E σ' a w hr hg => ⟨a.eval x, by simp [execOp], by rw [← ev_congr hr]; exact ev_ok hg x⟩
theorem ok_assign (d : Tmp) (x : Operand) : StOk P C σ (some d) (.assign x) (stMove σ d x) :=
  ok_pure fun _ ty pos af E σ' a w hr hg => ⟨a.eval x, by simp [execOp], by rw [← ev_congr hr]; exact ev_ok hg x⟩

/-- The value of an operand, where it is known whole. -/
def scOf (σ : St) (x : Operand) : Option Value := match ev σ x with | .val (.sc v) => some v | _ => none
theorem scOf_ok {σ' : St} {x : Operand} {v : Value} (hs : scOf σ x = some v) (hr : ∀ l ∈ rdl x, σ' l = σ l) (h : Gm C E σ' a w) : a.eval x = v := by
  have h1 := ev_ok h x
  rw [ev_congr hr] at h1
  unfold scOf at hs
  cases he : ev σ x with
  | val y =>
    rw [he] at hs h1
    cases y with
    | sc u => simp at hs; subst hs; exact Rd.sc_eq h1
    | _ => simp at hs
  | _ => rw [he] at hs; simp at hs
theorem mem_l {L M : List Pl} {σ σ' : St} (h : ∀ l ∈ L ++ M, σ' l = σ l) : (∀ l ∈ L, σ' l = σ l) ∧ (∀ l ∈ M, σ' l = σ l) :=
  ⟨fun l hl => h l (List.mem_append_left _ hl), fun l hl => h l (List.mem_append_right _ hl)⟩

def stPick (σ : St) (d : Tmp) (c x y : Operand) : Stp :=
  match scOf σ c with
  | some (.bool b) => some (True, rdl c ++ (rdl x ++ rdl y), [(.s d, .av (if b then ev σ x else ev σ y))])
  | _ => none
theorem ok_pick (d : Tmp) (c x y : Operand) : StOk P C σ (some d) (.pick c x y) (stPick σ d c x y) := by
  unfold stPick
  split
  · rename_i b hb
    refine ok_pure fun _ ty pos af E σ' a w hr hg => ?_
    obtain ⟨h1, h2⟩ := mem_l hr
    obtain ⟨h3, h4⟩ := mem_l h2
    have e := scOf_ok hb h1 hg
    refine ⟨if b then a.eval x else a.eval y, by cases b <;> simp [execOp, e, asBool], ?_⟩
    cases b
    · rw [if_neg (by simp), if_neg (by simp), ← ev_congr h4]; exact ev_ok hg y
    · rw [if_pos rfl, if_pos rfl, ← ev_congr h3]; exact ev_ok hg x
  · intro _ _ _ h; cases h

/-! ### Numbers, texts -/
def bitsZ (op : BinOp) (k : IntKind) (x y : Int) : Int :=
  let a := BitVec.ofInt k.bits x
  let b := BitVec.ofInt k.bits y
  match op with
  | .and => k.wrap (a &&& b).toNat
  | .or => k.wrap (a ||| b).toNat
  | .xor => k.wrap (a ^^^ b).toNat
  | _ => k.wrap (a &&& ~~~b).toNat
def binV (op : BinOp) (x y : Value) : Option (Prop × Value) :=
  match op, x, y with
  | .shl, .int k a, .int _ b => some (0 ≤ b, .int k (k.wrap (a * 2 ^ (min b.toNat k.bits))))
  | .shr, .int k a, .int _ b => some (0 ≤ b, .int k (a.fdiv (2 ^ (min b.toNat k.bits))))
  | .add, .int k a, .int k' b => some (k = k', .int k (k.wrap (a + b)))
  | .sub, .int k a, .int k' b => some (k = k', .int k (k.wrap (a - b)))
  | .mul, .int k a, .int k' b => some (k = k', .int k (k.wrap (a * b)))
  | .quo, .int k a, .int k' b => some (k = k' ∧ b ≠ 0, .int k (k.wrap (a.tdiv b)))
  | .rem, .int k a, .int k' b => some (k = k' ∧ b ≠ 0, .int k (a.tmod b))
  | .and, .int k a, .int k' b => some (k = k', .int k (bitsZ .and k a b))
  | .or, .int k a, .int k' b => some (k = k', .int k (bitsZ .or k a b))
  | .xor, .int k a, .int k' b => some (k = k', .int k (bitsZ .xor k a b))
  | .andNot, .int k a, .int k' b => some (k = k', .int k (bitsZ .andNot k a b))
  | .eql, .int k a, .int k' b => some (k = k', .bool (a == b))
  | .neq, .int k a, .int k' b => some (k = k', .bool (a != b))
  | .lss, .int k a, .int k' b => some (k = k', .bool (decide (a < b)))
  | .leq, .int k a, .int k' b => some (k = k', .bool (decide (a ≤ b)))
  | .gtr, .int k a, .int k' b => some (k = k', .bool (decide (b < a)))
  | .geq, .int k a, .int k' b => some (k = k', .bool (decide (b ≤ a)))
  | .add, .string a, .string b => some (((a.size + b.size : Nat) : Int) ≤ 9223372036854775807, .string (a ++ b))
  | .eql, .string a, .string b => some (True, .bool (a.toList == b.toList))
  | .neq, .string a, .string b => some (True, .bool !(a.toList == b.toList))
  | _, _, _ => none
theorem binV_ok {op : BinOp} {x y v : Value} {c : Prop} (h : binV op x y = some (c, v)) (hc : c) (t : TypeId) (w : World) : (binOp op t x y).run P w = .ok v w := by
  unfold binV at h
  split at h <;> simp only [Option.some.injEq, Prod.mk.injEq, reduceCtorEq] at h
  all_goals (obtain ⟨rfl, rfl⟩ := h)
  · rename_i b; simp [binOp, Op.shift, Int.not_lt.2 hc]
  · rename_i b; simp [binOp, Op.shift, Int.not_lt.2 hc]
  all_goals (first
    | (subst hc; simp [binOp, Op.intArith, Op.intBits, Op.intCmp, bitsZ]; done)
    | (obtain ⟨rfl, hc2⟩ := hc; simp [binOp, Op.intDiv, hc2]; done)
    | (simp [binOp, Op.stringOp]; done)
    | (simp only [binOp, Op.stringOp]; rw [if_neg ((by decide : IntKind.i64.max = 9223372036854775807) ▸ Int.not_lt.2 hc)]; rfl))
theorem run_eqGuard {op : BinOp} {t : TypeId} {x y : Operand} {u v : Value} (h : (∃ k n, u = .int k n) ∨ (∃ s, u = .string s) ∨ (∃ b, u = .bool b)) (w : World) : (eqGuard op t x y u v).run P w = .ok () w := by
  unfold eqGuard
  rcases h with ⟨k, n, rfl⟩ | ⟨s, rfl⟩ | ⟨s, rfl⟩ <;> cases op <;> simp
theorem binV_plain {op : BinOp} {x y v : Value} {c : Prop} (h : binV op x y = some (c, v)) : (∃ k n, x = .int k n) ∨ (∃ s, x = .string s) ∨ (∃ b, x = .bool b) := by
  unfold binV at h
  split at h <;> simp at h <;> simp
def stBin (σ : St) (d : Tmp) (op : BinOp) (x y : Operand) : Stp :=
  match scOf σ x, scOf σ y with
  | some u, some v => match binV op u v with
    | some (c, r) => some (c, rdl x ++ rdl y, [(.s d, .av (.val (.sc r)))])
    | none => none
  | _, _ => none
theorem ok_bin (d : Tmp) (op : BinOp) (t t' : TypeId) (x y : Operand) : StOk P C σ (some d) (.binOp op t x y t') (stBin σ d op x y) := by
  unfold stBin
  split
  · rename_i u v hu hv
    split
    · rename_i c r hb
      refine ok_pure fun hc ty pos af E σ' a w hr hg => ?_
      obtain ⟨h1, h2⟩ := mem_l hr
      have e1 := scOf_ok hu h1 hg
      have e2 := scOf_ok hv h2 hg
      refine ⟨r, ?_, Rd.sc _⟩
      simp [execOp, e1, e2, run_eqGuard (binV_plain hb), binV_ok hb hc]
    · intro _ _ _ h; cases h
  · intro _ _ _ h; cases h
def stBinB (P : Program) (σ : St) (d : Tmp) (op : BinOp) (t : TypeId) (x y : Operand) : Stp :=
  match op, scOf σ x, scOf σ y with
  | .eql, some (.bool u), some (.bool v) => some ((tiOf P t).map (·.sh) = some .bool, rdl x ++ rdl y, [(.s d, .av (.val (.sc (.bool (u == v)))))])
  | .neq, some (.bool u), some (.bool v) => some ((tiOf P t).map (·.sh) = some .bool, rdl x ++ rdl y, [(.s d, .av (.val (.sc (.bool (u != v)))))])
  | _, _, _ => none
theorem sh_bool {t : TypeId} (h : (tiOf P t).map (·.sh) = some .bool) : P.underlying t = some .bool := by
  cases ht : tiOf P t with
  | none => rw [ht] at h; cases h
  | some T =>
    rw [ht] at h
    simp at h
    obtain ⟨i, d, _, h2, _, _, _, _, _, _, _, h3, _⟩ := tiOf_some ht
    rw [h2, h3 h]
theorem ok_binB (d : Tmp) (op : BinOp) (t t' : TypeId) (x y : Operand) : StOk P C σ (some d) (.binOp op t x y t') (stBinB P σ d op t x y) := by
  unfold stBinB
  split
  · rename_i u v hu hv
    refine ok_pure fun hc ty pos af E σ' a w hr hg => ?_
    obtain ⟨h1, h2⟩ := mem_l hr
    have e1 := scOf_ok hu h1 hg
    have e2 := scOf_ok hv h2 hg
    refine ⟨.bool (u == v), ?_, Rd.sc _⟩
    have hq : ∀ n : Nat, (Op.equalIn (n + 1) t (.bool u) (.bool v)).run P w = .ok (u == v) w := fun n => by simp [Op.equalIn, run_underlying (sh_bool hc)]
    simp [execOp, e1, e2, run_eqGuard (.inr (.inr ⟨u, rfl⟩)), binOp, Op.equal, Op.maxDepth, hq 9999]
  · rename_i u v hu hv
    refine ok_pure fun hc ty pos af E σ' a w hr hg => ?_
    obtain ⟨h1, h2⟩ := mem_l hr
    have e1 := scOf_ok hu h1 hg
    have e2 := scOf_ok hv h2 hg
    refine ⟨.bool (u != v), ?_, Rd.sc _⟩
    have hq : ∀ n : Nat, (Op.equalIn (n + 1) t (.bool u) (.bool v)).run P w = .ok (u == v) w := fun n => by simp [Op.equalIn, run_underlying (sh_bool hc)]
    simp [execOp, e1, e2, run_eqGuard (.inr (.inr ⟨u, rfl⟩)), binOp, Op.equal, Op.maxDepth, hq 9999, bne]
  · intro _ _ _ h; cases h

def stUn (σ : St) (d : Tmp) (op : UnOp) (x : Operand) : Stp :=
  match op, scOf σ x with
  | .neg, some (.int k n) => some (True, rdl x, [(.s d, .av (.val (.sc (.int k (k.wrap (0 - n))))))])
  | .xor, some (.int k n) => some (True, rdl x, [(.s d, .av (.val (.sc (.int k (bitsZ .xor k (if k.signed then -1 else k.max) n)))))])
  | .not, some (.bool b) => some (True, rdl x, [(.s d, .av (.val (.sc (.bool !b))))])
  | _, _ => none
theorem ok_un (d : Tmp) (op : UnOp) (t : TypeId) (x : Operand) : StOk P C σ (some d) (.unOp op t x) (stUn σ d op x) := by
  unfold stUn
  split
  · rename_i k n hx
    refine ok_pure fun hc ty pos af E σ' a w hr hg => ⟨_, ?_, Rd.sc _⟩
    simp [execOp, scOf_ok hx hr hg, Op.unary, Op.intArith]
  · rename_i k n hx
    refine ok_pure fun hc ty pos af E σ' a w hr hg => ⟨_, ?_, Rd.sc _⟩
    simp [execOp, scOf_ok hx hr hg, Op.unary, Op.intBits, bitsZ]
  · rename_i b hx
    refine ok_pure fun hc ty pos af E σ' a w hr hg => ⟨_, ?_, Rd.sc _⟩
    simp [execOp, scOf_ok hx hr hg, Op.unary]
  · intro _ _ _ h; cases h
def stConv (P : Program) (σ : St) (d : Tmp) (src dst : TypeId) (x : Operand) : Stp :=
  match scOf σ x, tiOf P dst with
  | some (.int _ n), some { sh := .int k, .. } => some ((tiOf P src).isSome = true, rdl x, [(.s d, .av (.val (.sc (.int k (k.wrap n)))))])
  | _, _ => none
theorem ok_conv (d : Tmp) (s t : TypeId) (x : Operand) : StOk P C σ (some d) (.convert s t x) (stConv P σ d s t x) := by
  unfold stConv
  split
  · rename_i k0 n k _ _ _ _ _ _ _ _ hx ht
    refine ok_pure fun hc ty pos af E σ' a w hr hg => ⟨_, ?_, Rd.sc _⟩
    obtain ⟨i, d, _, h2, _, _, _, _, _, _, h3, _⟩ := tiOf_some ht
    obtain ⟨S, hS⟩ := Option.isSome_iff_exists.1 hc
    obtain ⟨i', d', _, h2', _⟩ := tiOf_some hS
    have h4 : P.underlying t = some (.int k) := by rw [h2, h3 k rfl]
    simp [execOp, scOf_ok hx hr hg, convert, run_underlying h2', run_underlying h4, Conv.intToInt]
  · intro _ _ _ h; cases h
def stExt (σ : St) (d : Tmp) (x : Operand) (i : Nat) : Stp :=
  match ev σ x with
  | .val (.tup xs) => match xs[i]? with | some y => some (True, rdl x, [(.s d, .av (.val y))]) | none => none
  | _ => none
theorem ok_ext (d : Tmp) (x : Operand) (i : Nat) : StOk P C σ (some d) (.extract x i) (stExt σ d x i) := by
  unfold stExt
  split
  · rename_i xs hx
    split
    · rename_i y hy
      refine ok_pure fun hc ty pos af E σ' a w hr hg => ?_
      have h1 := ev_ok hg x
      rw [ev_congr hr, hx] at h1
      have h1 : Rd E.m (.tup xs) (a.eval x) := h1
      generalize hv : a.eval x = v at h1
      cases h1 with
      | tup _ ys hl h =>
        have hi : i < xs.length := (List.getElem?_eq_some_iff.1 hy).1
        have := h i hi
        rw [(List.getElem?_eq_some_iff.1 hy).2] at this
        exact ⟨ys[i]'(hl ▸ hi), by simp [execOp, hv, Instr.extract, hl ▸ hi], this⟩
    · intro _ _ _ h; cases h
  · intro _ _ _ h; cases h
end
end Go.Proofs.YtojcjbaimdjhoaaGreatDoor
