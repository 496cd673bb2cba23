/- Parts of frames: the plain law of layer 6. -/
import Derived.Test.YthnbeodpckmjnaaGreatDoorExts1z
import Derived.Test.YthnbeodpckmjnaaGreatDoorCrc2z
import Derived.Test.YthnbeodpckmjnaaGreatDoorCrc2z
import Derived.Test.YthnbeodpckmjnaaGreatDoorRtpMz
import Derived.Test.YthnbeodpckmjnaaGreatDoorRtp4z
import Derived.Test.YthnbeodpckmjnaaGreatDoorQCmp07z
namespace Go.Proofs.YthnbeodpckmjnaaGreatDoor
open Go.RowKit
set_option linter.unusedVariables false
set_option linter.unusedSimpArgs false

structure M6 where
  src : Int
  seq : Int
  time : Int
  path : Int
  pseq : Int
  idx : Int
  cnt : Int
  data : List UInt8
  deriving DecidableEq
def no6 : M6 := ⟨0, 0, 0, 0, 0, 0, 0, []⟩
structure M6.Ok (m : M6) : Prop where
  src : 0 ≤ m.src ∧ m.src < 4294967296
  seq : 0 ≤ m.seq ∧ m.seq < 65536
  time : 0 ≤ m.time ∧ m.time < 4294967296
  pseq : 0 ≤ m.pseq ∧ m.pseq < 65536
def may6 (m : M6) : Bool := decide ((1 ≤ m.path ∧ m.path ≤ 15) ∧ (1 ≤ m.cnt ∧ m.cnt ≤ 255) ∧ (0 ≤ m.idx ∧ m.idx < m.cnt) ∧ m.data.length ≤ 1472)
theorem may6_iff (m : M6) : may6 m = true ↔ ((1 ≤ m.path ∧ m.path ≤ 15) ∧ (1 ≤ m.cnt ∧ m.cnt ≤ 255) ∧ (0 ≤ m.idx ∧ m.idx < m.cnt) ∧ m.data.length ≤ 1472) := by unfold may6; rw [decide_eq_true_eq]
def els6 (m : M6) (F : List UInt8) : List E5 := [⟨1, putZ m.path 1 ++ putZ m.pseq 2⟩, ⟨2, putZ m.idx 1 ++ putZ m.cnt 1⟩, ⟨3, F⟩]
def pk6 (m : M6) (F : List UInt8) : P4 := ⟨decide (m.idx = m.cnt - 1), 96, m.seq, m.time, m.src, [], true, 48862, bytes5 1 (els6 m F), m.data, 0⟩
def head6 (m : M6) : List UInt8 := puts' 1 [144, 96 + (if m.idx = m.cnt - 1 then 128 else 0)] ++ puts' 2 [m.seq] ++ puts' 4 [m.time, m.src] ++ puts' 2 [48862, 3] ++ putZ 18 1 ++ (putZ m.path 1 ++ putZ m.pseq 2) ++ putZ 33 1 ++ (putZ m.idx 1 ++ putZ m.cnt 1) ++ putZ 51 1
theorem head6_len (m : M6) : (head6 m).length = 24 := by
  unfold head6
  simp only [List.length_append, puts'_length, putZ_length, List.length_cons, List.length_nil]
theorem ext6 (m : M6) (F : List UInt8) (hF : F.length = 4) : bytes5 1 (els6 m F) = putZ 18 1 ++ (putZ m.path 1 ++ putZ m.pseq 2) ++ putZ 33 1 ++ (putZ m.idx 1 ++ putZ m.cnt 1) ++ putZ 51 1 ++ F := by
  have e : raw5 1 (els6 m F) = putZ 18 1 ++ (putZ m.path 1 ++ putZ m.pseq 2) ++ putZ 33 1 ++ (putZ m.idx 1 ++ putZ m.cnt 1) ++ putZ 51 1 ++ F := by
    unfold raw5 els6
    simp only [List.flatMap_cons, List.flatMap_nil, item5, head5, if_true, List.length_append, putZ_length, hF, List.append_nil]
    have h1 : (16 * 1 + ((1 + 2 : Nat) : Int) - 1) = 18 := by omega
    have h2 : (16 * 2 + ((1 + 1 : Nat) : Int) - 1) = 33 := by omega
    have h3 : (16 * 3 + ((4 : Nat) : Int) - 1) = 51 := by omega
    rw [h1, h2, h3]
    simp only [List.append_assoc]
  unfold bytes5
  rw [e]
  have hl : (putZ 18 1 ++ (putZ m.path 1 ++ putZ m.pseq 2) ++ putZ 33 1 ++ (putZ m.idx 1 ++ putZ m.cnt 1) ++ putZ 51 1 ++ F).length = 12 := by
    simp only [List.length_append, putZ_length, hF]
  rw [hl]
  have : zer4 (pad5 12) = [] := rfl
  rw [this, List.append_nil]
theorem ext6_len (m : M6) (F : List UInt8) (hF : F.length = 4) : (bytes5 1 (els6 m F)).length = 12 := by
  rw [ext6 m F hF]
  simp only [List.length_append, putZ_length, hF]
theorem body6 (m : M6) (F : List UInt8) (hF : F.length = 4) : body4 (pk6 m F) = head6 m ++ F ++ m.data := by
  have hl := ext6_len m F hF
  have hx := ext6 m F hF
  unfold body4 extB first4 second4 pk6
  dsimp only
  rw [hl, hx]
  unfold head6
  have e1 : (128 + (([] : List Int).length : Int) + (if true = true then 16 else 0) + (if (0 : Int) < 0 then 32 else 0)) = 144 := by simp
  have e2 : (96 + (if decide (m.idx = m.cnt - 1) = true then (128 : Int) else 0)) = 96 + (if m.idx = m.cnt - 1 then 128 else 0) := by simp
  have e3 : tailB 0 = [] := rfl
  have e4 : puts' 4 [] = [] := rfl
  have e5 : ((12 / 4 : Nat) : Int) = 3 := rfl
  rw [e1, e2, e3, e4, e5, if_pos rfl]
  simp only [List.append_assoc, List.append_nil, List.nil_append]
theorem mayp6 (m : M6) (F : List UInt8) (hF : F.length = 4) : may4 (pk6 m F) = true := by
  have hl := ext6_len m F hF
  rw [may4_iff]
  unfold pk6
  dsimp only
  rw [hl]
  simp
theorem okp6 (m : M6) (F : List UInt8) (h : m.Ok) : (pk6 m F).Ok := ⟨h.seq, h.time, h.src, fun n hn => by cases hn⟩
theorem els6_may (m : M6) (F : List UInt8) (hF : F.length = 4) : (els6 m F).all (may5 1) = true := by
  unfold els6
  simp only [List.all_cons, List.all_nil, Bool.and_true, Bool.and_eq_true]
  refine ⟨(may5_iff _ _).2 ?_, (may5_iff _ _).2 ?_, (may5_iff _ _).2 ?_⟩
  · simp only [List.length_append, putZ_length]; decide
  · simp only [List.length_append, putZ_length]; decide
  · simp only [hF]; decide
theorem packx6 (m : M6) (F : List UInt8) (hF : F.length = 4) : pack5 1 (els6 m F) = (48862, bytes5 1 (els6 m F), 0) := by
  have e : formOk 1 = 1 := rfl
  have hl := ext6_len m F hF
  unfold pack5
  rw [e, if_neg (by decide), els6_may m F hF, hl, if_pos (by decide)]
  rfl
def plain6 (m : M6) (F : List UInt8) : List UInt8 := head6 m ++ F ++ m.data
theorem plain6_len (m : M6) (F : List UInt8) (hF : F.length = 4) : (plain6 m F).length = m.data.length + 28 := by
  unfold plain6
  simp only [List.length_append, head6_len, hF]
  omega
def pack6 (m : M6) : List UInt8 := if may6 m = true then sealB (head6 m) m.data else []
theorem seal6 (m : M6) : sealS (plain6 m [0, 0, 0, 0]) 24 = sealB (head6 m) m.data := by
  have hl := plain6_len m [0, 0, 0, 0] rfl
  have ho : sealOk (plain6 m [0, 0, 0, 0]) 24 = true := decide_eq_true (by rw [hl]; omega)
  unfold sealS
  rw [if_pos ho]
  unfold plain6
  have e1 : (head6 m ++ [0, 0, 0, 0] ++ m.data).take (24 : Int).toNat = head6 m := by
    rw [List.append_assoc]
    exact List.take_left' (head6_len m)
  have e2 : (head6 m ++ [0, 0, 0, 0] ++ m.data).drop ((24 : Int).toNat + 4) = m.data := List.drop_left' (by rw [List.length_append, head6_len]; rfl)
  rw [e1, e2]
/-- What a part's fields are, read of elements. -/
def rd6 (p : P4) (l : List E5) : M6 :=
  let a := (find5' l 1)
  let b := (find5' l 2)
  ⟨p.src, p.seq, p.time, getN (rawT a 1), getN (rawT (rawL a 0 1) 2), getN (rawT b 1), getN (rawT (rawL b 0 1) 1), p.data⟩
where find5' (l : List E5) (id : Int) : List UInt8 := ((l.find? fun x => decide (x.id = id)).map (·.data)).getD []
def parse6 (s : List UInt8) : M6 × Int :=
  if 1500 < s.length then (no6, 3) else if rem s ≠ 0 then (no6, 4) else if (parse4 s).2 ≠ 0 then (no6, (parse4 s).2) else if (parse4 s).1.hasExt = false then (no6, 5)
  else if (parse5 (parse4 s).1.profile (parse4 s).1.ext).2.2 ≠ 0 then (no6, (parse5 (parse4 s).1.profile (parse4 s).1.ext).2.2)
  else if pack6 (rd6 (parse4 s).1 (parse5 (parse4 s).1.profile (parse4 s).1.ext).2.1) = s then (rd6 (parse4 s).1 (parse5 (parse4 s).1.profile (parse4 s).1.ext).2.1, 0) else (no6, 1)
theorem sealB_len (h t : List UInt8) : (sealB h t).length = h.length + 4 + t.length := by
  unfold sealB
  rw [List.length_append, List.length_append, fieldB_len]
theorem pack6_nil (m : M6) : pack6 m = [] ↔ may6 m = false := by
  unfold pack6
  constructor
  · intro h
    cases hm : may6 m with
    | false => rfl
    | true =>
      rw [hm, if_pos rfl] at h
      have := congrArg List.length h
      rw [sealB_len, head6_len] at this
      simp at this
  · intro h; rw [h, if_neg (by decide)]
end Go.Proofs.YthnbeodpckmjnaaGreatDoor

namespace Go.Proofs.YthnbeodpckmjnaaGreatDoor
open Go.RowKit
set_option linter.unusedVariables false
set_option linter.unusedSimpArgs false

theorem putZ1 (n : Int) : putZ n 1 = [UInt8.ofNat (n % 256).toNat] := by
  simp [putZ]
theorem of_two {l : List UInt8} {p q : UInt8} (h : l.take 2 = [p, q]) : l = p :: q :: l.drop 2 := by
  have := List.take_append_drop 2 l
  rw [h] at this
  exact this.symm
theorem pack6_second (m : M6) (h : may6 m = true) : ∃ a r, pack6 m = 144 :: a :: r ∧ (a = 96 ∨ a = 224) := by
  unfold pack6
  rw [if_pos h]
  have ht : (sealB (head6 m) m.data).take 2 = puts' 1 [144, 96 + (if m.idx = m.cnt - 1 then 128 else 0)] := by
    unfold sealB head6
    simp only [List.append_assoc]
    exact List.take_left' (by simp [puts'_length])
  by_cases hl : m.idx = m.cnt - 1
  · rw [if_pos hl] at ht
    have e : puts' 1 [144, 96 + 128] = [144, 224] := by decide
    rw [e] at ht
    exact ⟨224, _, of_two ht, .inr rfl⟩
  · rw [if_neg hl] at ht
    have e : puts' 1 [144, 96 + 0] = [144, 96] := by decide
    rw [e] at ht
    exact ⟨96, _, of_two ht, .inl rfl⟩
theorem packC_second (ps : List Pc) (h : cmpE ps = 0) : ∃ a b r, packC ps = a :: b :: r ∧ (b = 200 ∨ b = 201) := by
  obtain ⟨hf, hw, _⟩ := cmpE_zero.1 h
  obtain ⟨h1, h2, h3, _⟩ := hf
  match ps, h1 with
  | p :: ps, _ =>
    have hb := h3 0
    have hw1 : whatP p = 1 := Classical.byContradiction fun hn => hb ⟨by simp, .inl ⟨rfl, hn⟩⟩
    have hk : p.2.1 = 200 ∨ p.2.1 = 201 := by
      rw [whatP_eq] at hw1
      split at hw1
      · omega
      · rcases sayP_cases p with h | h | h | h | h | h | h | h
        · exact ofE_kind h.2
        · rw [h.1] at hw1; omega
        · rw [h.1] at hw1; omega
        · rw [h.1] at hw1; omega
        · rw [h.1] at hw1; omega
        · rw [h.1] at hw1; omega
        · rw [h.1] at hw1; omega
        · rw [h.1] at hw1; omega
    unfold packC packP
    rw [if_pos h, if_pos h2]
    unfold sealB
    rw [List.flatMap_cons]
    unfold packOne
    rw [putZ1, putZ1]
    rcases hk with hk | hk
    · rw [hk]
      exact ⟨_, 200, _, rfl, .inl rfl⟩
    · rw [hk]
      exact ⟨_, 201, _, rfl, .inr rfl⟩
theorem parse6_again (s : List UInt8) (h : (parse6 s).2 = 0) : pack6 (parse6 s).1 = s := by
  unfold parse6 at h ⊢
  split at h
  · simp at h
  rename_i h1
  rw [if_neg h1]
  split at h
  · simp at h
  rename_i h2
  rw [if_neg h2]
  split at h
  · rename_i h3; exact absurd h h3
  rename_i h3
  rw [if_neg h3]
  split at h
  · simp at h
  rename_i h4
  rw [if_neg h4]
  split at h
  · rename_i h5; exact absurd h h5
  rename_i h5
  rw [if_neg h5]
  split at h
  · rename_i h6
    rw [if_pos h6]
    exact h6
  · simp at h
theorem media_apart (m : M6) (h : pack6 m ≠ []) : isCtl (pack6 m) = false ∧ (parseC (pack6 m)).1 ≠ 0 := by
  have hm : may6 m = true := by
    cases hm : may6 m with
    | true => rfl
    | false => exact absurd ((pack6_nil m).2 hm) h
  obtain ⟨x, r, hr, hx⟩ := pack6_second m hm
  refine ⟨?_, fun h0 => ?_⟩
  · unfold isCtl
    rw [decide_eq_false_iff_not, hr]
    rcases hx with rfl | rfl
    · simp
    · simp
  · obtain ⟨h1, h2⟩ := parse_pack12 (pack6 m) (parseC (pack6 m)).2 (by rw [← h0])
    obtain ⟨a, b, r', h3, hb⟩ := packC_second _ h2
    rw [h1, hr] at h3
    injection h3 with _ h3
    injection h3 with h3 _
    subst h3
    rcases hx with rfl | rfl
    · exact absurd hb (by decide)
    · exact absurd hb (by decide)
theorem control_apart (ps : List Pc) (h : packC ps ≠ []) : isCtl (packC ps) = true ∧ (parse6 (packC ps)).2 ≠ 0 := by
  have hc : cmpE ps = 0 := by
    refine Classical.byContradiction fun hn => h ?_
    unfold packC
    rw [if_neg hn]
  obtain ⟨a, b, r, hr, hb⟩ := packC_second ps hc
  refine ⟨?_, fun h0 => ?_⟩
  · unfold isCtl
    rw [decide_eq_true_eq, hr]
    rcases hb with rfl | rfl
    · simp
    · simp
  · have h1 := parse6_again _ h0
    have hm : may6 (parse6 (packC ps)).1 = true := by
      cases hm : may6 (parse6 (packC ps)).1 with
      | true => rfl
      | false => exact absurd (h1 ▸ (pack6_nil _).2 hm) h
    obtain ⟨x, r', h3, hx⟩ := pack6_second _ hm
    rw [h1, hr] at h3
    injection h3 with _ h3
    injection h3 with h3 _
    subst h3
    rcases hx with rfl | rfl
    · exact absurd hb (by decide)
    · exact absurd hb (by decide)
theorem packC_none (ps : List Pc) (h : packC ps = []) : cmpE ps ≠ 0 := fun hc => (pack_parse12 ps hc).2.2.2 h
end Go.Proofs.YthnbeodpckmjnaaGreatDoor

namespace Go.Proofs.YthnbeodpckmjnaaGreatDoor
open Go.RowKit
set_option linter.unusedVariables false
set_option linter.unusedSimpArgs false

def concr (P : Program) (t : TypeId) : Bool := match P.underlying t with | some (.interface _) => false | some _ => true | none => false
theorem concr_some {P : Program} {t : TypeId} (h : concr P t = true) : ∃ d, P.underlying t = some d ∧ ∀ ms, d ≠ .interface ms := by
  unfold concr at h
  cases hd : P.underlying t with
  | none => rw [hd] at h; cases h
  | some d =>
    rw [hd] at h
    refine ⟨d, rfl, fun ms e => ?_⟩
    subst e; cases h
def isIf (P : Program) (t : TypeId) : Bool := match P.underlying t with | some (.interface _) => true | _ => false
theorem isIf_some {P : Program} {t : TypeId} (h : isIf P t = true) : ∃ ms, P.underlying t = some (.interface ms) := by
  unfold isIf at h
  split at h
  · rename_i ms hd; exact ⟨ms, hd⟩
  · cases h
/-- Of another type, or nil. -/
def missI (at' : TypeId) : AV → Prop
  | .val (.ifc t _) => t ≠ at'
  | .val (.sc v) => v = .nilIface
  | _ => False
def nilI : AV → Option Bool
  | .val (.ifc _ _) => some false
  | .val (.sc .nilIface) => some true
  | _ => none
attribute [go_sem] missI nilI
section
variable {P : Program} {ops : Array Oper} {C : Ctx} {E : Env} {σ : St} {a : Act} {w : World} {md : Bool} {K : St → List FP → Prop} {acc : List FP} {rest : List Oper} {Q : Exit → St → Prop}
theorem ok_mkI {d : Tmp} {t : TypeId} {x : Operand} (ht : concr P t = true) : StOk P C σ (some d) (.makeInterface t x) (some (True, rdl x, [(.s d, .av (.val (.ifc t (plain (ev σ x)))))])) := by
  refine ok_pure fun _ ty pos af E σ' a w hr hg => ⟨.iface t (a.eval x), ?_, .ifc t _ _ (by rw [← ev_congr hr]; exact plain_ok (ev_ok hg x))⟩
  obtain ⟨dd, h1, h2⟩ := concr_some ht
  have : (Instr.makeInterface t (a.eval x)).run P w = .ok (.iface t (a.eval x)) w := by
    unfold Instr.makeInterface
    simp only [Sem.run_bind, run_underlying h1, Result.andThen_ok]
    cases dd <;> first | rfl | exact absurd rfl (h2 _)
  simp [execOp, this]
theorem mkI_s {d : Tmp} {t : TypeId} {x : Operand} {ty : TypeId} {pos : String} {af : Array Edge} (ht : concr P t = true)
    (k : exec P ops C md K rest (put σ (.s d) (.av (.val (.ifc t (plain (ev σ x)))))) ((rdl x, [.s d]) :: acc)) : Run P ops C md K (⟨some d, .makeInterface t x, ty, pos, af, none⟩ :: rest) σ acc :=
  run_any (ok_mkI ht) rfl trivial k
theorem ok_taY {d : Tmp} {x : Operand} {xt at' : TypeId} {y : V} (hc : concr P at' = true) (hx : ev σ x = .val (.ifc at' y)) : StOk P C σ (some d) (.typeAssert x xt at' true) (some (True, rdl x, [(.s d, .av (.val (.tup [y, .sc (.bool true)])))])) := by
  refine ok_pure fun _ ty pos af E σ' a w hr hg => ?_
  have h := ev_ok hg x
  rw [ev_congr hr, hx] at h
  have h : Rd E.m (.ifc at' y) (a.eval x) := h
  generalize hv : a.eval x = v at h
  cases h with
  | ifc _ _ u hu =>
    obtain ⟨dd, h1, h2⟩ := concr_some hc
    refine ⟨.tuple #[u, .bool true], ?_, .tup _ _ rfl fun i hi => ?_⟩
    · have : (Instr.typeAssert (.iface at' u) xt at' true).run P w = .ok (.tuple #[u, .bool true]) w := by
        unfold Instr.typeAssert
        simp only [Sem.run_bind, run_underlying h1, Result.andThen_ok]
        cases dd <;> first | exact absurd rfl (h2 _) | simp
      simp [execOp, hv, this]
    · have : i = 0 ∨ i = 1 := by simp at hi; omega
      rcases this with rfl | rfl
      · exact hu
      · exact Rd.sc _
theorem taY_s {d : Tmp} {x : Operand} {xt at' : TypeId} {ty : TypeId} {pos : String} {af : Array Edge} (hc : concr P at' = true) (y : V) (hx : ev σ x = .val (.ifc at' y))
    (k : exec P ops C md K rest (put σ (.s d) (.av (.val (.tup [y, .sc (.bool true)])))) ((rdl x, [.s d]) :: acc)) : Run P ops C md K (⟨some d, .typeAssert x xt at' true, ty, pos, af, none⟩ :: rest) σ acc :=
  run_any (ok_taY hc hx) rfl trivial k
theorem ok_inil {d : Tmp} {op : BinOp} {t t' : TypeId} {x : Operand} {b : Bool} (hop : op = .eql ∨ op = .neq) (ht : isIf P t = true) (hx : nilI (ev σ x) = some b) :
    StOk P C σ (some d) (.binOp op t x (.const .nilIface) t') (some (True, rdl x, [(.s d, .av (.val (.sc (.bool (if op = .eql then b else !b)))))])) := by
  refine ok_pure fun _ ty pos af E σ' a w hr hg => ⟨_, ?_, Rd.sc _⟩
  have h := ev_ok hg x
  rw [ev_congr hr] at h
  obtain ⟨ms, h1⟩ := isIf_some ht
  have hv : (a.eval x = .nilIface ∧ b = true) ∨ ∃ t u, a.eval x = .iface t u ∧ b = false := by
    cases he : ev σ x with
    | val X =>
      rw [he] at h hx
      cases X with
      | sc u =>
        have h := Rd.sc_eq h
        cases u <;> simp [nilI] at hx
        exact .inl ⟨h, hx⟩
      | ifc t y =>
        have h : Rd E.m (.ifc t y) (a.eval x) := h
        simp [nilI] at hx
        generalize a.eval x = v at h
        cases h with
        | ifc _ _ u hu => exact .inr ⟨t, u, rfl, hx⟩
      | _ => simp [nilI] at hx
    | _ => rw [he] at hx; simp [nilI] at hx
  have hq : ∀ v n, ((v = .nilIface ∧ b = true) ∨ ∃ t u, v = .iface t u ∧ b = false) → (Op.equalIn (n + 1) t v .nilIface).run P w = .ok b w := fun v n hv => by
    rcases hv with ⟨rfl, rfl⟩ | ⟨t', u, rfl, rfl⟩ <;> simp [Op.equalIn, run_underlying h1]
  have hg : ∀ v, ((v = .nilIface ∧ b = true) ∨ ∃ t u, v = .iface t u ∧ b = false) → (eqGuard op t x (.const .nilIface) v .nilIface).run P w = .ok () w := fun v hv => by
    unfold eqGuard
    rcases hv with ⟨rfl, rfl⟩ | ⟨t', u, rfl, rfl⟩ <;> rcases hop with rfl | rfl <;> simp
  have hb : ∀ v, ((v = .nilIface ∧ b = true) ∨ ∃ t u, v = .iface t u ∧ b = false) → (binOp op t v .nilIface).run P w = .ok (.bool (if op = .eql then b else !b)) w := fun v hv => by
    have h2 := hq v 9999 hv
    rcases hv with ⟨rfl, rfl⟩ | ⟨t', u, rfl, rfl⟩ <;> rcases hop with rfl | rfl <;> simp [binOp, Op.equal, Op.maxDepth, h2]
  have he : a.eval (.const .nilIface) = .nilIface := rfl
  simp [execOp, he, hg _ hv, hb _ hv]
theorem inil_s {d : Tmp} {op : BinOp} {t t' : TypeId} {x : Operand} {ty : TypeId} {pos : String} {af : Array Edge} (hop : op = .eql ∨ op = .neq) (ht : isIf P t = true) (b : Bool) (hx : nilI (ev σ x) = some b)
    (k : exec P ops C md K rest (put σ (.s d) (.av (.val (.sc (.bool (if op = .eql then b else !b)))))) ((rdl x, [.s d]) :: acc)) : Run P ops C md K (⟨some d, .binOp op t x (.const .nilIface) t', ty, pos, af, none⟩ :: rest) σ acc :=
  run_any (ok_inil hop ht hx) rfl trivial k
end
end Go.Proofs.YthnbeodpckmjnaaGreatDoor

