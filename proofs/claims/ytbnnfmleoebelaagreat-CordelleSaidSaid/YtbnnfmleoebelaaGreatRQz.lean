/- Plain law of layer 12: packed and parsed; a piece more; opened and told again. -/
import Derived.Test.YtbnnfmleoebelaaGreatCmpMz
import Derived.Test.YtbnnfmleoebelaaGreatCrcM2z
import Derived.Test.YtbnnfmleoebelaaGreatRLz
namespace Go.Proofs.YtbnnfmleoebelaaGreat
open Go.RowKit
set_option linter.unusedVariables false
set_option linter.unusedSimpArgs false

def sumH : List UInt8 := [128, 204, 0, 3, 0, 0, 0, 0, 99, 115, 117, 109]
theorem packOne_sum (d : List UInt8) (hd : d.length = 4) : packOne (sumP d) = sumH ++ d := by
  unfold packOne sumP
  dsimp only
  have hl : (([0, 0, 0, 0] ++ csum ++ d : List UInt8).length / 4 : Nat) = 3 := by simp [csum, hd]
  rw [hl]
  have h1 : putZ (128 + 0) 1 = [128] := by decide
  have h2 : putZ 204 1 = [204] := by decide
  have h3 : putZ ((3 : Nat) : Int) 2 = [0, 3] := by decide
  rw [h1, h2, h3]
  rfl
theorem sumP_may (d : List UInt8) (hd : d.length = 4) : mayP (sumP d) = true := by
  rw [mayP_iff]
  unfold sumP
  simp [csum, hd]
theorem seal_end (h F : List UInt8) (hF : F.length = 4) : sealS (h ++ F) (((h ++ F).length : Int) - 4) = sealB h [] := by
  have hl : (h ++ F).length = h.length + 4 := by rw [List.length_append, hF]
  unfold sealS sealOk
  rw [if_pos (by rw [decide_eq_true_eq]; omega)]
  have e1 : (((h ++ F).length : Int) - 4).toNat = h.length := by omega
  rw [e1, List.take_left, List.drop_of_length_le (by omega)]
noncomputable def packC (ps : List Pc) : List UInt8 := if cmpE ps = 0 then sealB (packP ps ++ sumH) [] else []
noncomputable def parseC (s : List UInt8) : Int × List Pc :=
  if 1500 < s.length then (3, []) else if rem s ≠ 0 then (4, []) else if (splitP s).1 ≠ 0 then ((splitP s).1, [])
  else if (splitP s).2 = [] then (1, []) else if sumOk ((splitP s).2.getD ((splitP s).2.length - 1) (0, 0, [])) = false then (1, [])
  else if cmpE (splitP s).2.dropLast ≠ 0 then (cmpE (splitP s).2.dropLast, []) else (0, (splitP s).2.dropLast)
theorem last_snoc (l : List Pc) (h : l ≠ []) : l = l.dropLast ++ [l.getD (l.length - 1) (0, 0, [])] := by
  have h2 := List.dropLast_concat_getLast h
  have e : l.getD (l.length - 1) (0, 0, []) = l.getLast h := by
    rw [List.getLast_eq_getElem, List.getD_eq_getElem?_getD, List.getElem?_eq_getElem (by have := List.length_pos_iff.2 h; omega)]
    rfl
  rw [e]
  exact h2.symm
theorem split_all (s : List UInt8) (h : (splitP s).1 = 0) : (splitP s).2.all mayP = true ∧ (splitP s).2.flatMap packOne = s := by
  have h0 : splitP s = (0, (splitP s).2) := by rw [← h]
  obtain ⟨qs, h1, h2, h3⟩ := pack_run s.length s [] (splitP s).2 (Nat.le_refl _) h0
  rw [List.nil_append] at h1
  rw [h1]
  exact ⟨h2, h3⟩
theorem pack_parse12 (ps : List Pc) (h : cmpE ps = 0) : parseC (packC ps) = (0, ps) ∧ rem (packC ps) = 0 ∧ (packC ps).length ≤ 1500 ∧ packC ps ≠ [] := by
  obtain ⟨hf, hw, hl⟩ := cmpE_zero.1 h
  have hr : rem (packC ps) = 0 := by unfold packC; rw [if_pos h]; exact sealB_rem _ _
  have e : packC ps = packP ps ++ packOne (sumP (fieldB (packP ps ++ sumH) [])) := by
    unfold packC
    rw [if_pos h, packOne_sum _ (fieldB_len _ _)]
    unfold sealB
    simp
  have hd := fieldB_len (packP ps ++ sumH) []
  generalize fieldB (packP ps ++ sumH) [] = d at *
  have ha : (ps ++ [sumP d]).all mayP = true := by rw [List.all_append, hf.2.1]; simp [sumP_may d hd]
  have hpk : packP ps = ps.flatMap packOne := by unfold packP; rw [if_pos hf.2.1]
  have hs : splitP (packC ps) = (0, ps ++ [sumP d]) := by
    rw [e, hpk]
    have := split_pack (ps ++ [sumP d]) ha
    rw [List.flatMap_append] at this
    simpa using this
  have hlen : (packC ps).length ≤ 1500 := by
    rw [e, List.length_append, packOne_sum d hd, List.length_append, hd]
    simp [sumH]
    omega
  refine ⟨?_, hr, hlen, ?_⟩
  · unfold parseC
    rw [if_neg (by omega), if_neg (by simp [hr]), hs]
    dsimp only
    rw [if_neg (by simp), if_neg (by simp)]
    have hg : (ps ++ [sumP d]).getD ((ps ++ [sumP d]).length - 1) (0, 0, []) = sumP d := by simp [List.getD_eq_getElem?_getD]
    rw [hg, if_neg (by rw [(sumOk_iff _).2 ⟨d, hd, rfl⟩]; simp), List.dropLast_concat, if_neg (by simp [h])]
  · rw [e, packOne_sum d hd]
    simp [sumH]
/-! ### Opened and told again -/
def noPc : Pc := (0, 0, [])
/-- The pieces of some, those that may be. -/
def eachP {α : Type} (f : α → Pc) (l : List α) : List Pc := (l.map f).filter fun p => p ≠ noPc
end Go.Proofs.YtbnnfmleoebelaaGreat

namespace Go.Proofs.YtbnnfmleoebelaaGreat
open Go.RowKit
set_option linter.unusedVariables false
set_option linter.unusedSimpArgs false

def isW (w : Int) (p : Pc) : Bool := decide (whatP p = w)
def ofW (w : Int) (ps : List Pc) : List Pc := ps.filter (isW w)
theorem flat_filter {α : Type} (g : Pc → List α) (c : Pc → Bool) (c' : Pc → Prop) [DecidablePred c'] : ∀ (ps : List Pc), (∀ p ∈ ps, c' p ↔ c p = true) → (ps.flatMap fun p => if c' p then g p else []) = (ps.filter c).flatMap g
  | [], _ => rfl
  | p :: ps, h => by
    rw [List.flatMap_cons, flat_filter g c c' ps (fun q hq => h q (by simp [hq])), List.filter_cons]
    by_cases hc : c p = true
    · rw [if_pos ((h p (by simp)).2 hc), if_pos hc, List.flatMap_cons]
    · rw [if_neg (fun h2 => hc ((h p (by simp)).1 h2)), if_neg hc, List.nil_append]
theorem say_what {p : Pc} (h : whatP p ≠ 0) : whatP p = sayP p ∧ (sayP p = 4 → (appR p).name ≠ csum) ∧ (sayP p = 2 → namesR p ≠ []) := by
  have e := whatP_eq p
  by_cases hc : (sayP p = 2 ∧ namesR p = []) ∨ (sayP p = 4 ∧ (appR p).name = csum)
  · rw [if_pos hc] at e
    exact absurd e h
  · rw [if_neg hc] at e
    exact ⟨e, fun h4 hn => hc (.inr ⟨h4, hn⟩), fun h2 hn => hc (.inl ⟨h2, hn⟩)⟩
/-- The bag of pieces each of which may be. -/
theorem bag_ok (ps : List Pc) (h : ∀ p ∈ ps, whatP p ≠ 0) : bagOf ps = ⟨(ofW 1 ps).map ofR, (ofW 2 ps).flatMap namesR, (ofW 3 ps).map byeR, (ofW 4 ps).map appR, (ofW 5 ps).map nackR, (ofW 6 ps).map linesR, (ofW 7 ps).map adsR⟩ := by
  rw [bag_map]
  have hs : ∀ (w : Int), ∀ p ∈ ps, sayP p = w ↔ isW w p = true := fun w p hp => by
    unfold isW
    rw [decide_eq_true_eq, (say_what (h p hp)).1]
  have h4 : ∀ p ∈ ps, (sayP p = 4 ∧ (appR p).name ≠ csum) ↔ isW 4 p = true := fun p hp => by
    rw [← hs 4 p hp]
    exact ⟨fun h => h.1, fun h5 => ⟨h5, (say_what (h p hp)).2.1 h5⟩⟩
  rw [flat_filter (fun p => [ofR p]) (isW 1) (fun p => sayP p = 1) ps (hs 1), flat_filter namesR (isW 2) (fun p => sayP p = 2) ps (hs 2), flat_filter (fun p => [byeR p]) (isW 3) (fun p => sayP p = 3) ps (hs 3),
    flat_filter (fun p => [appR p]) (isW 4) (fun p => sayP p = 4 ∧ (appR p).name ≠ csum) ps h4, flat_filter (fun p => [nackR p]) (isW 5) (fun p => sayP p = 5) ps (hs 5), flat_filter (fun p => [linesR p]) (isW 6) (fun p => sayP p = 6) ps (hs 6), flat_filter (fun p => [adsR p]) (isW 7) (fun p => sayP p = 7) ps (hs 7)]
  simp only [← List.map_eq_flatMap]
  rfl
/-- The pieces that a bag is told by. -/
def gotB (B : Bag12) : List Pc :=
  eachP pieceR B.reports ++ (if B.names ≠ [] ∧ namesP B.names ≠ noPc then [namesP B.names] else []) ++ eachP appP B.apps ++ eachP nackP B.nacks ++ eachP linesP B.lines ++ eachP adsP B.ads ++ eachP byeP B.byes
end Go.Proofs.YtbnnfmleoebelaaGreat

namespace Go.Proofs.YtbnnfmleoebelaaGreat
open Go.RowKit
set_option linter.unusedVariables false
set_option linter.unusedSimpArgs false

theorem raw_app (s r : List UInt8) (n : Int) (h : n = s.length) : rawT (s ++ r) n = s := by
  subst h
  unfold rawT
  rw [if_pos (by rw [List.length_append]; omega)]
  simp
theorem nxr_app (s r : List UInt8) (n : Int) (h : n = s.length) : nxr n (s ++ r, 0) = (r, 0) := by
  subst h
  unfold nxr rawL rawE
  have : ((s.length : Int)) ≤ ((s ++ r).length : Int) := by rw [List.length_append]; omega
  dsimp only
  rw [if_pos this, if_pos this]
  simp
theorem nx_app (s r : List UInt8) (k : Nat) (h : s.length = k) : nx k (s ++ r, 0) = (r, 0) := nxr_app s r k (by rw [h])
theorem vl_app (s r : List UInt8) (k : Nat) (h : s.length = k) : vl k (s ++ r, 0) = getN s := by
  unfold vl
  dsimp only
  rw [raw_app s r k (by rw [h])]
theorem vl_put (a : Int) (k m : Nat) (r : List UInt8) (hm : 256 ^ k = m) (ha : 0 ≤ a ∧ a < m) : vl k (putZ a k ++ r, 0) = a := by
  rw [vl_app _ _ _ (putZ_length a k), getN_putZ, ← pow_cast, hm]
  exact Int.emod_eq_of_lt ha.1 ha.2
theorem nx_put (a : Int) (k : Nat) (r : List UInt8) : nx k (putZ a k ++ r, 0) = (r, 0) := nx_app _ _ _ (putZ_length a k)
theorem rdN_item (x : N9) (ho : x.Ok) (hm : mayN x = true) (r : List UInt8) : rdN (itemB x ++ r, 0) = x ∧ nxN (itemB x ++ r, 0) = (r, 0) := by
  obtain ⟨s, t⟩ := x
  unfold mayN at hm
  rw [decide_eq_true_eq] at hm
  dsimp only at hm
  have e : itemB ⟨s, t⟩ ++ r = putZ s 4 ++ (putZ 1 1 ++ (putZ (t.length : Int) 1 ++ (t ++ (zer (padN (6 + t.length) 1) ++ r)))) := by unfold itemB; simp [puts']
  have h1 : rdN (itemB ⟨s, t⟩ ++ r, 0) = ⟨s, t⟩ := by
    unfold rdN
    rw [e, vl_put s 4 4294967296 _ (by decide) ho.1, nx_put, nx_put, nx_put, vl_put (t.length : Int) 1 256 _ (by decide) (by omega)]
    dsimp only
    rw [raw_app t _ _ rfl]
  refine ⟨h1, ?_⟩
  unfold nxN
  rw [h1]
  rw [e, nx_put, nx_put, nx_put, vl_put (t.length : Int) 1 256 _ (by decide) (by omega)]
  rw [nxr_app t _ _ rfl, nxr_app _ r _ (by rw [zer_len]; unfold padN; dsimp only; omega)]
theorem runN_items (l : List N9) (ho : ∀ x ∈ l, x.Ok) (hm : l.all mayN = true) (f : Nat) (acc : List N9) (h : l.length < f) : runN f (l.flatMap itemB, 0) acc = acc ++ l := by
  induction l generalizing f acc with
  | nil =>
    cases f with
    | zero => omega
    | succ f => simp [runN]
  | cons x l ih =>
    cases f with
    | zero => omega
    | succ f =>
      simp only [List.all_cons, Bool.and_eq_true] at hm
      obtain ⟨h1, h2⟩ := rdN_item x (ho x (by simp)) hm.1 (l.flatMap itemB)
      have hne : (itemB x ++ l.flatMap itemB) ≠ [] := by
        intro h
        have := congrArg List.length h
        rw [List.length_append, itemB_len] at this
        simp at this
      rw [List.flatMap_cons, runN, if_neg hne, h1, h2, ih (fun y hy => ho y (by simp [hy])) hm.2 f (acc ++ [x]) (by simpa using h)]
      simp
theorem of_names (l : List N9) (ho : ∀ x ∈ l, x.Ok) (hl : l.length ≤ 31) (hm : l.all mayN = true) : namesE (namesP l) = 0 ∧ namesR (namesP l) = l := by
  have hb : namesP l = ((l.length : Int), 202, l.flatMap itemB) := by unfold namesP; rw [if_pos ⟨hl, hm⟩]
  have h : rawN (namesP l) = l := by
    rw [hb]
    unfold rawN
    dsimp only
    rw [runN_items l ho hm 32 [] (by omega)]
    rfl
  have hE : namesE (namesP l) = 0 := by
    unfold namesE justE
    rw [h, if_neg (by rw [hb]; simp), if_neg (by simp)]
  exact ⟨hE, by unfold namesR; rw [if_pos hE, h]⟩
theorem namesP_none (l : List N9) : namesP l = (0, 0, []) ↔ ¬ (l.length ≤ 31 ∧ l.all mayN = true) := by
  unfold namesP
  by_cases h : l.length ≤ 31 ∧ l.all mayN = true
  · rw [if_pos h]
    constructor
    · intro e; have := congrArg (fun q : Pc => q.2.1) e; cases this
    · intro e; exact absurd h e
  · rw [if_neg h]
    exact ⟨fun _ => h, fun _ => rfl⟩
end Go.Proofs.YtbnnfmleoebelaaGreat

namespace Go.Proofs.YtbnnfmleoebelaaGreat
open Go.RowKit
set_option linter.unusedVariables false
set_option linter.unusedSimpArgs false

/-- Where the item ends that says so many bytes. -/
def endN (n : Nat) : Nat := 6 + n + padN (6 + n) 1
/-- Does an item lie at the head of the bytes? -/
def okN (s : List UInt8) : Prop := 8 ≤ s.length ∧ s.getD 4 0 = 1 ∧ (s.getD 5 0).toNat ≠ 0 ∧ endN (s.getD 5 0).toNat ≤ s.length ∧ ∀ i, i < endN (s.getD 5 0).toNat → 6 + (s.getD 5 0).toNat ≤ i → s.getD i 0 = 0
instance decN (s : List UInt8) : Decidable (okN s) := by unfold okN; infer_instance
theorem rawN_ok (f : Nat) (x : List UInt8 × Int) (acc : List N9) (hx : x.1.length ≤ maxLen) (ha : ∀ a ∈ acc, a.Ok) : ∀ a ∈ runN f x acc, a.Ok := by
  induction f generalizing x acc with
  | zero => exact ha
  | succ f ih =>
    unfold runN
    split
    · exact ha
    · refine ih _ _ (Nat.le_trans (nxN_len x) hx) fun a h => ?_
      rcases List.mem_append.1 h with h | h
      · exact ha a h
      · rw [List.mem_singleton.1 h]; exact rdN_ok x hx
end Go.Proofs.YtbnnfmleoebelaaGreat

namespace Go.Proofs.YtbnnfmleoebelaaGreat
open Go.RowKit
set_option linter.unusedVariables false
set_option linter.unusedSimpArgs false

/-- What is left behind the numbers. -/
def restY (p : Pc) : List UInt8 := p.2.2.drop (4 * p.1.toNat)
def lenY (p : Pc) : Nat := ((restY p).getD 0 0).toNat
def goodY (p : Pc) : Prop := (0 ≤ p.1 ∧ p.1 ≤ 31 ∧ 4 * p.1.toNat ≤ p.2.2.length) ∧ (restY p = [] ∨ (lenY p ≠ 0 ∧ lenY p < (restY p).length ∧ fillB ((restY p).take (lenY p + 1)) = restY p))
instance decY (p : Pc) : Decidable (goodY p) := by unfold goodY; infer_instance
end Go.Proofs.YtbnnfmleoebelaaGreat

namespace Go.Proofs.YtbnnfmleoebelaaGreat
open Go.RowKit
set_option linter.unusedVariables false
set_option linter.unusedSimpArgs false

end Go.Proofs.YtbnnfmleoebelaaGreat

namespace Go.Proofs.YtbnnfmleoebelaaGreat
open Go.RowKit
set_option linter.unusedVariables false
set_option linter.unusedSimpArgs false

end Go.Proofs.YtbnnfmleoebelaaGreat

namespace Go.Proofs.YtbnnfmleoebelaaGreat
open Go.RowKit
set_option linter.unusedVariables false
set_option linter.unusedSimpArgs false

end Go.Proofs.YtbnnfmleoebelaaGreat

namespace Go.Proofs.YtbnnfmleoebelaaGreat
open Go.RowKit
set_option linter.unusedVariables false
set_option linter.unusedSimpArgs false

theorem namesR_ok (p : Pc) (hp : p.2.2.length ≤ maxLen) : (∀ a ∈ namesR p, a.Ok) ∧ (namesR p).length ≤ 100000 := by
  unfold namesR
  have hlen : ∀ f x acc, (runN f x acc).length ≤ acc.length + f := by
    intro f
    induction f with
    | zero => intro x acc; simp [runN]
    | succ f ih =>
      intro x acc
      unfold runN
      split
      · omega
      · have := ih (nxN x) (acc ++ [rdN x])
        simp only [List.length_append, List.length_cons, List.length_nil] at this
        omega
  split
  · exact ⟨rawN_ok 32 (p.2.2, 0) [] hp (fun a h => by simp at h), by have := hlen 32 (p.2.2, 0) []; unfold rawN; simp only [List.length_nil] at this; omega⟩
  · exact ⟨fun a h => by simp at h, by simp⟩
end Go.Proofs.YtbnnfmleoebelaaGreat

namespace Go.Proofs.YtbnnfmleoebelaaGreat
open Go.RowKit
set_option linter.unusedVariables false
set_option linter.unusedSimpArgs false

section
variable {P : Program} {ops : Array Oper} {C : Ctx} {E : Env} {σ : St} {a : Act} {w : World} {md : Bool} {K : St → List FP → Prop} {acc : List FP} {rest : List Oper} {Q : Exit → St → Prop}
theorem ok_taN2 {d : Tmp} {x : Operand} {xt at' : TypeId} (hc : concr P at' = true) (hx : missI at' (ev σ x)) (hz0 : (zeroOf P at').isSome = true) :
    StOk P C σ (some d) (.typeAssert x xt at' true) (some (True, rdl x, [(.s d, .av (.val (.tup [.any, .sc (.bool false)])))])) := by
  obtain ⟨z, hz⟩ := Option.isSome_iff_exists.1 hz0
  refine ok_pure fun _ ty pos af E σ' a w hr hg => ?_
  have h := ev_ok hg x
  rw [ev_congr hr] at h
  obtain ⟨dd, h1, h2⟩ := concr_some hc
  have hzr : (zeroValue at').run P w = .ok z w := by
    unfold zeroOf at hz
    obtain ⟨i, hi, hz⟩ := Option.bind_eq_some_iff.1 hz
    simp [zeroValue, typeInfo, hi, hz]
  refine ⟨.tuple #[z, .bool false], ?_, .tup _ _ rfl fun i hi => ?_⟩
  · have key : ∀ v, (v = .nilIface ∨ ∃ t u, v = .iface t u ∧ t ≠ at') → (Instr.typeAssert v xt at' true).run P w = .ok (.tuple #[z, .bool false]) w := fun v hv => by
      unfold Instr.typeAssert
      simp only [Sem.run_bind, run_underlying h1, Result.andThen_ok]
      rcases hv with rfl | ⟨t, u, rfl, hne⟩ <;> cases dd <;> first | exact absurd rfl (h2 _) | (simp [hzr, hne]; done) | (simp [hzr]; done)
    have hv : a.eval x = .nilIface ∨ ∃ t u, a.eval x = .iface t u ∧ t ≠ at' := by
      cases he : ev σ x with
      | val X =>
        rw [he] at h hx
        cases X with
        | sc u => exact .inl ((Rd.sc_eq h).trans hx)
        | ifc t y =>
          have h : Rd E.m (.ifc t y) (a.eval x) := h
          generalize a.eval x = v at h
          cases h with
          | ifc _ _ u hu => exact .inr ⟨t, u, rfl, hx⟩
        | _ => exact hx.elim
      | _ => rw [he] at hx; exact hx.elim
    simp [execOp, key _ hv]
  · have : i = 0 ∨ i = 1 := by simp at hi; omega
    rcases this with rfl | rfl
    · exact Rd.any _
    · exact Rd.sc _
theorem taN2_s {d : Tmp} {x : Operand} {xt at' : TypeId} {ty : TypeId} {pos : String} {af : Array Edge} (hc : concr P at' = true) (hx : missI at' (ev σ x)) (hz : (zeroOf P at').isSome = true)
    (k : exec P ops C md K rest (put σ (.s d) (.av (.val (.tup [.any, .sc (.bool false)])))) ((rdl x, [.s d]) :: acc)) : Run P ops C md K (⟨some d, .typeAssert x xt at' true, ty, pos, af, none⟩ :: rest) σ acc :=
  run_any (ok_taN2 hc hx hz) rfl trivial k
end
end Go.Proofs.YtbnnfmleoebelaaGreat

