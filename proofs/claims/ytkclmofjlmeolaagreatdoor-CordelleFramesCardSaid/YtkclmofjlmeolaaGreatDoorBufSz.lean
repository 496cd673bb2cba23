/- Rules: a method called through an interface. -/
import Derived.Test.YtkclmofjlmeolaaGreatDoorRWz
import Derived.Test.YtkclmofjlmeolaaGreatDoorRLz
import Derived.Test.YtkclmofjlmeolaaGreatDoorRBz
namespace Go.Proofs.YtkclmofjlmeolaaGreatDoor
open Go.RowKit
set_option linter.unusedVariables false
set_option linter.unusedSimpArgs false

section
variable {P : Program} {ops : Array Oper} {C : Ctx} {σ : St} {md : Bool} {K : St → List FP → Prop} {acc : List FP} {rest : List Oper}
end
end Go.Proofs.YtkclmofjlmeolaaGreatDoor

namespace Go.Proofs.YtkclmofjlmeolaaGreatDoor
open Go.RowKit
set_option linter.unusedVariables false
set_option linter.unusedSimpArgs false

section
variable {P : Program} {ops : Array Oper} {C : Ctx} {E : Env} {σ : St} {a : Act} {w : World}
/-! ### A struct that holds places or rows -/
def partA (x : AV) : Option (List AV) := match x with
  | .ref k g => some [.ref k g]
  | .ptr o g i => some [.ptr o g i]
  | .own k g e sz es => some [.own k g e sz es]
  | .ag xs => some xs
  | x => (partV x).map fun l => l.map .val
def onePt (σ : St) : AV → Prop
  | .ref k g => oneA σ (.ref k g)
  | .ptr o g i => oneA σ (.ptr o g i)
  | _ => True
def onesP (σ : St) : List (Nat × AV) → Prop
  | [] => True
  | p :: l => onePt σ p.2 ∧ onesP σ l
def livesP (σ : St) : List (Nat × Operand) → List Pl
  | [] => []
  | p :: l => liveL (ev σ p.2) ++ livesP σ l
theorem onePt_congr {σ' : St} {x : AV} (h : ∀ l ∈ liveL x, σ' l = σ l) (ho : onePt σ x) : onePt σ' x := by
  cases x with
  | ref k g => exact oneA_congr h ho
  | ptr o g i => exact oneA_congr h ho
  | _ => trivial
theorem onesP_congr {σ' : St} : ∀ {l : List (Nat × Operand)}, (∀ x ∈ opsL l, σ' x = σ x) → (∀ x ∈ livesP σ l, σ' x = σ x) → onesP σ (evs σ l) → onesP σ' (l.map fun p => (p.1, ev σ' p.2))
  | [], _, _, _ => trivial
  | p :: l, h1, h2, h => by
    obtain ⟨a1, a2⟩ := mem_l (L := rdl p.2) (M := opsL l) h1
    obtain ⟨b1, b2⟩ := mem_l (L := liveL (ev σ p.2)) (M := livesP σ l) h2
    refine ⟨?_, onesP_congr a2 b2 h.2⟩
    show onePt σ' (ev σ' p.2)
    rw [ev_congr a1]
    exact onePt_congr b1 h.1
theorem partA_ok (hg : Gm C E σ a w) {x : AV} {v : Value} {vs : List AV} (h : RdA E σ x v) (hp : partA x = some vs) (ho : onePt σ x) : v.cells.size = vs.length ∧ ∀ i (hi : i < vs.length), ∃ u, v.cells[i]? = some u ∧ RdP E σ vs[i] u := by
  have one : ∀ y : AV, RdP E σ y v → v.oneCell' = true → v.cells.size = [y].length ∧ ∀ i (hi : i < [y].length), ∃ u, v.cells[i]? = some u ∧ RdP E σ [y][i] u := fun y hy ho => by
    rw [one_cells ho]
    refine ⟨rfl, fun i hi => ?_⟩
    obtain rfl : i = 0 := by simpa using hi
    exact ⟨v, rfl, hy⟩
  have plainv : ∀ {x : AV} {l : List V}, RdA E σ x v → partV x = some l → vs = l.map .val → v.cells.size = vs.length ∧ ∀ i (hi : i < vs.length), ∃ u, v.cells[i]? = some u ∧ RdP E σ vs[i] u := fun {x l} hx hl e => by
    subst e
    obtain ⟨h1, h2⟩ := partV_ok hx hl
    refine ⟨by rw [h1, List.length_map], fun i hi => ?_⟩
    obtain ⟨u, hu, hr⟩ := h2 i (by simpa using hi)
    exact ⟨u, hu, by rw [List.getElem_map]; exact hr⟩
  cases x with
  | ref k g => simp [partA] at hp; subst hp; exact one _ h (oneA_ok hg h ho)
  | ptr o g i => simp [partA] at hp; subst hp; exact one _ h (oneA_ok hg h ho)
  | own k g e sz es => simp [partA] at hp; subst hp; exact one _ h (oneV_ok h.1 rfl)
  | ag xs =>
    simp [partA] at hp; subst hp
    obtain ⟨ys, rfl, hl, hr⟩ := h
    refine ⟨by simp [Value.cells, hl], fun i hi => ⟨ys[i]'(by omega), by simp [Value.cells, show i < ys.length by omega], hr i hi (by omega)⟩⟩
  | val y =>
    cases hq : partV (.val y) with
    | none => simp [partA, hq] at hp
    | some l => simp [partA, hq] at hp; exact plainv h hq hp.symm
  | elp => simp [partA, partV] at hp
  | vw => simp [partA, partV] at hp
  | cp => simp [partA, partV] at hp
  | pv => simp [partA, partV] at hp
  | nv => simp [partA, partV] at hp
  | fn => simp [partA, partV] at hp
def spliceA (cs : List AV) (off : Nat) (vs : List AV) : List AV := cs.take off ++ vs ++ cs.drop (off + vs.length)
def fillA (place : Nat → Option (Nat × Nat)) : List AV → List (Nat × AV) → Option (List AV)
  | cs, [] => some cs
  | cs, (i, x) :: rest => match place i, partA x with
    | some (off, size), some vs => if vs.length = size ∧ off + size ≤ cs.length then fillA place (spliceA cs off vs) rest else none
    | _, _ => none
theorem fill_okA (hg : Gm C E σ a w) (place : Nat → Option (Nat × Nat)) : ∀ (parts : List (Nat × Operand)) (cs cs' : List AV) (cells : Array Value), cells.size = cs.length → (∀ i (hi : i < cs.length), ∃ u, cells[i]? = some u ∧ RdP E σ cs[i] u) → onesP σ (parts.map fun p => (p.1, ev σ p.2)) →
    fillA place cs (parts.map fun p => (p.1, ev σ p.2)) = some cs' → ∃ cells', Instr.fill place cells (parts.map fun p => (p.1, a.eval p.2)) = some cells' ∧ cells'.size = cs'.length ∧ ∀ i (hi : i < cs'.length), ∃ u, cells'[i]? = some u ∧ RdP E σ cs'[i] u
  | [], cs, cs', cells, hl, hr, _, h => by simp [fillA] at h; subst h; exact ⟨cells, rfl, hl, hr⟩
  | (i, x) :: rest, cs, cs', cells, hl, hr, ho, h => by
    obtain ⟨ho1, ho2⟩ : onePt σ (ev σ x) ∧ onesP σ (rest.map fun p => (p.1, ev σ p.2)) := by rw [List.map_cons] at ho; exact ho
    simp only [List.map_cons, fillA] at h
    split at h
    · rename_i off size vs hp hv
      split at h
      · rename_i hc
        obtain ⟨h1, h2⟩ := partA_ok hg (ev_ok hg x) hv ho1
        obtain ⟨cells1, hcells1⟩ : ∃ c, c = (a.eval x).cells.zipIdx.foldl (fun cs (c, j) => cs.setIfInBounds (off + j) c) cells := ⟨_, rfl⟩
        have htl : cells1.toList = cells.toList.take off ++ (a.eval x).cells.toList ++ cells.toList.drop (off + (a.eval x).cells.toList.length) := by
          have h3 := fold_splice off (a.eval x).cells.toList 0 cells (by simp; omega)
          rw [Nat.add_zero] at h3
          rw [hcells1, ← h3, ← Array.foldl_toList, Array.toList_zipIdx]
        have hlen : cells1.size = (spliceA cs off vs).length := by
          rw [← Array.length_toList, htl]
          simp [spliceA]; omega
        have hrest : ∀ j (hj : j < (spliceA cs off vs).length), ∃ u, cells1[j]? = some u ∧ RdP E σ (spliceA cs off vs)[j] u := by
          intro j hj
          have hcl : ∀ j : Nat, cells1[j]? = cells1.toList[j]? := fun j => by rw [Array.getElem?_toList]
          rw [hcl, htl]
          simp only [spliceA] at hj ⊢
          by_cases c1 : j < off
          · obtain ⟨u, hu, hru⟩ := hr j (by omega)
            refine ⟨u, ?_, ?_⟩
            · rw [List.append_assoc, List.getElem?_append_left (by simp; omega), List.getElem?_take_of_lt c1]; simpa using hu
            · rw [List.getElem_append_left (by simp; omega), List.getElem_append_left (by simp; omega), List.getElem_take]; exact hru
          · by_cases c2 : j < off + vs.length
            · obtain ⟨u, hu, hru⟩ := h2 (j - off) (by omega)
              refine ⟨u, ?_, ?_⟩
              · rw [List.getElem?_append_left (by simp; omega), List.getElem?_append_right (by simp; omega), show j - (cells.toList.take off).length = j - off by simp; omega]; simpa using hu
              · rw [List.getElem_append_left (by simp; omega), List.getElem_append_right (by simp; omega)]
                have : j - (cs.take off).length = j - off := by simp; omega
                simp only [this]; exact hru
            · have hj' : j < cs.length := by simp at hj; omega
              obtain ⟨u, hu, hru⟩ := hr j hj'
              refine ⟨u, ?_, ?_⟩
              · rw [List.getElem?_append_right (by simp; omega), List.getElem?_drop]
                rw [show off + (a.eval x).cells.toList.length + (j - (cells.toList.take off ++ (a.eval x).cells.toList).length) = j by simp; omega]
                simpa using hu
              · rw [List.getElem_append_right (by simp; omega), List.getElem_drop]
                have : off + vs.length + (j - (cs.take off ++ vs).length) = j := by simp; omega
                simp only [this]; exact hru
        obtain ⟨cells', h4, h5, h6⟩ := fill_okA hg place rest (spliceA cs off vs) cs' cells1 hlen hrest ho2 h
        refine ⟨cells', ?_, h5, h6⟩
        simp only [List.map_cons, Instr.fill, hp]
        rw [if_neg (by simp; omega), ← hcells1]
        exact h4
      · cases h
    · cases h

theorem agA_of {cs : List AV} {cells : Array Value} (h1 : cells.size = cs.length) (h2 : ∀ i (hi : i < cs.length), ∃ u, cells[i]? = some u ∧ RdP E σ cs[i] u) : RdA E σ (.ag cs) (.agg cells) := by
  refine ⟨cells.toList, by simp, by simpa using h1, fun i hi hi2 => ?_⟩
  obtain ⟨u, hu, hr⟩ := h2 i hi
  have hi3 : i < cells.size := by simpa using hi2
  rw [Array.getElem?_eq_getElem hi3] at hu
  have e : cells.toList[i] = u := by rw [Array.getElem_toList]; exact Option.some.inj hu
  rw [e]
  exact hr
def stBuildA (P : Program) (σ : St) (d : Tmp) (t : TypeId) (parts : List (Nat × Operand)) : Stp :=
  match tiOf P t with
  | some { sh := .strct, fields := fs, fok := true, zero := z, zok := true, .. } => match fillA (placeF fs) (z.map fun v => .val (.sc v)) (evs σ parts) with
    | some cs => some (onesP σ (evs σ parts), opsL parts ++ livesP σ parts, [(.s d, .av (.ag cs))])
    | none => none
  | _ => none
theorem ok_buildA (d : Tmp) (t : TypeId) (parts : List (Nat × Operand)) : StOk P C σ (some d) (.build t parts.toArray) (stBuildA P σ d t parts) := by
  unfold stBuildA
  split
  · rename_i z e0 fs ht
    split
    · rename_i cs hcs
      refine ok_pure fun hc ty pos af E σ' a w hr hg => ?_
      obtain ⟨it, dt, hit, hdt, _, _, _, _, _, _, _, _, hst, _, _, _, hfok, _⟩ := tiOf_some ht
      obtain ⟨F, rfl, hF⟩ := hst rfl
      have hF : fs = _ := hF
      have hfok := hfok.symm
      simp only at hfok
      obtain ⟨zv, hzv, hz⟩ := zero_run ht rfl w
      have hz : zv.cells.toList = z := hz
      have hall : ∀ f ∈ F.toList, (P.info? f.type).isSome = true := fun f hf => by simpa using List.all_eq_true.1 hfok f hf
      have hpl : (F.mapM fun f => (do pure (f.offset, ← sizeOf f.type) : Sem (Nat × Nat))).run P w = .ok (F.toList.map fun f => (f.offset, ((P.info? f.type).map (·.size)).getD 0)).toArray w := by
        have hmp := mapM_places (P := P) w F.toList hall
        rw [Array.mapM_eq_mapM_toList, Sem.run_map, hmp]
        rfl
      obtain ⟨hr, hr2⟩ := mem_l hr
      have hc := onesP_congr (l := parts) hr hr2 hc
      rw [← evs_map hr] at hcs
      obtain ⟨cells', h1, h2, h3⟩ := fill_okA hg (placeF fs) parts (z.map fun v => .val (.sc v)) cs zv.cells (by rw [← hz]; simp) (fun i hi => by
        simp at hi
        rw [← hz] at hi
        refine ⟨zv.cells[i]'(by simpa using hi), by simp at hi; simp [hi], ?_⟩
        simp [← hz]; exact Rd.sc _) hc hcs
      refine ⟨.agg cells', ?_, agA_of h2 h3⟩
      have hpf : (fun i => (F.toList.map fun f => (f.offset, ((P.info? f.type).map (·.size)).getD 0)).toArray[i]?) = placeF fs := by
        funext i
        simp only [placeF, hF, List.getElem?_toArray, List.getElem?_map, Option.map_map]
        rfl
      have hmap : (List.map (fun p => (p.1, a.eval p.2)) parts).toArray.toList = parts.map fun p => (p.1, a.eval p.2) := by simp
      have hb : (Instr.build t (List.map (fun p => (p.1, a.eval p.2)) parts).toArray).run P w = .ok (.agg cells') w := by
        unfold Instr.build
        simp only [Sem.run_bind, hzv, run_underlying hdt, Result.andThen_ok, hpl, hpf, hmap, h1, Sem.run_pure]
      simp only [execOp, List.map_toArray, Sem.run_bind, hb, Result.andThen_ok, Sem.run_pure]
    · intro _ _ _ h; cases h
  · intro _ _ _ h; cases h

def stBoxA (σ : St) (d : Tmp) (x : Operand) : Stp :=
  match ev σ x with
  | .ag xs => some (True, .g (d, 0) :: rdl x, newW (d, 0) (gg σ (d, 0)) xs.length xs ++ [(.s d, .av (.ptr (d, 0) (gg σ (d, 0) + 1) 0))])
  | _ => none
theorem ok_boxA (d : Tmp) (t : TypeId) (x : Operand) : StOk P C σ (some d) (.box t x) (stBoxA σ d x) := by
  unfold stBoxA
  split
  · rename_i xs hx
    refine ok_value fun hc ty pos af E σ' a w hr hg hd => ?_
    have h5 := ev_ok hg x
    rw [ev_congr (fun l hl => hr l (by simp [hl])), hx] at h5
    obtain ⟨ys, hv, hl, hrd⟩ := h5
    obtain ⟨E', h1, h2, h3⟩ := hg.object (d, 0) (gg σ (d, 0)) (gg_of (hr _ (by simp))) t ys.toArray xs (by simpa using hl) (fun i hi => by
      have := hrd i hi (by omega)
      simpa using this.toA) (C.np d hd) rfl
    exact ⟨.pointer (some ⟨w.heap.size, 0, none⟩), _, E', by simp [execOp, hv, Instr.box, Value.cells, newVar, newRow, newObj]; rfl, h1, h3⟩
  · intro _ _ _ h; cases h
end
attribute [go_sem] stBuildA stBoxA fillA partA spliceA onesP onePt livesP
section
variable {P : Program} {ops : Array Oper} {C : Ctx} {σ : St} {md : Bool} {K : St → List FP → Prop} {acc : List FP} {rest : List Oper}
theorem bldA_s {d : Tmp} {t : TypeId} {ps : List (Nat × Operand)} {ty : TypeId} {pos : String} {af : Array Edge} {c : Prop} {L : List Pl} {W : List (Pl × X)} (h : stBuildA P σ d t ps = some (c, L, W)) (hc : c)
    (k : Run P ops C md K rest (puts σ W) ((L, locs W) :: acc)) : Run P ops C md K (⟨some d, .build t ps.toArray, ty, pos, af, none⟩ :: rest) σ acc := run_cons (ok_buildA d t ps c L W h hc ops ty pos af) k
theorem boxA_s {d : Tmp} {t : TypeId} {x : Operand} {ty : TypeId} {pos : String} {af : Array Edge} {c : Prop} {L : List Pl} {W : List (Pl × X)} (h : stBoxA σ d x = some (c, L, W)) (hc : c)
    (k : exec P ops C md K rest (puts σ W) ((L, locs W) :: acc)) : Run P ops C md K (⟨some d, .box t x, ty, pos, af, none⟩ :: rest) σ acc := run_any (ok_boxA d t x) h hc k
end
end Go.Proofs.YtkclmofjlmeolaaGreatDoor

namespace Go.Proofs.YtkclmofjlmeolaaGreatDoor
open Go.RowKit
set_option linter.unusedVariables false
set_option linter.unusedSimpArgs false

/-- A frame: its time, of how many parts, since when, and the parts that are there. -/
structure Fr where
  tm : Nat
  n : Nat
  t0 : Int
  ps : List (Nat × List UInt8)
def sumP : List (Nat × List UInt8) → Nat
  | [] => 0
  | p :: l => p.2.length + sumP l
def getP : List (Nat × List UInt8) → Nat → Option (List UInt8)
  | [], _ => none
  | p :: l, i => if p.1 = i then some p.2 else getP l i
theorem sumP_app (a b : List (Nat × List UInt8)) : sumP (a ++ b) = sumP a + sumP b := by
  induction a with
  | nil => simp [sumP]
  | cons p a ih => rw [List.cons_append, sumP, sumP, ih]; omega
theorem getP_mem {i : Nat} {s : List UInt8} : ∀ {l : List (Nat × List UInt8)}, getP l i = some s → (i, s) ∈ l
  | [], h => by cases h
  | p :: l, h => by
    unfold getP at h
    by_cases e : p.1 = i
    · rw [if_pos e] at h
      cases h
      subst e
      exact List.mem_cons_self ..
    · rw [if_neg e] at h
      exact List.mem_cons_of_mem _ (getP_mem h)
theorem getP_none {i : Nat} : ∀ {l : List (Nat × List UInt8)}, getP l i = none → i ∉ l.map (·.1)
  | [], _ => by simp
  | p :: l, h => by
    unfold getP at h
    by_cases e : p.1 = i
    · rw [if_pos e] at h; cases h
    · rw [if_neg e] at h
      rw [List.map_cons, List.mem_cons, not_or]
      exact ⟨fun q => e q.symm, getP_none h⟩
def newF (t : Nat) (c : Int) (now : Int) : Fr := ⟨t, (max 1 (min c 255)).toNat, now, []⟩
def wholeF (f : Fr) : Bool := decide (f.ps.length = f.n)
def putF (f : Fr) (i c : Int) (s : List UInt8) : Fr × Int :=
  if c ≠ f.n ∨ i < 0 ∨ (f.n : Int) ≤ i then (f, 4)
  else if (getP f.ps i.toNat).isSome = true then (f, 3)
  else ({ f with ps := f.ps ++ [(i.toNat, s)] }, if f.ps.length + 1 = f.n then 2 else 1)
/-- The parts from a place on. -/
def catF (ps : List (Nat × List UInt8)) : Nat → List UInt8
  | 0 => []
  | n + 1 => catF ps n ++ (getP ps n).getD []
def dataF (f : Fr) : List UInt8 := if wholeF f = true then catF f.ps f.n else []
structure Fr.Ok (f : Fr) : Prop where
  tm : f.tm < 4294967296
  n0 : 1 ≤ f.n
  n1 : f.n ≤ 255
  t0 : -1099511627776 ≤ f.t0
  t1 : f.t0 ≤ 1099511627776
  nd : (f.ps.map (·.1)).Nodup
  lt : ∀ p ∈ f.ps, p.1 < f.n
  sz : ∀ p ∈ f.ps, p.2.length ≤ 1048576
theorem nodup_lt_len : ∀ {n : Nat} {l : List Nat}, l.Nodup → (∀ x ∈ l, x < n) → l.length ≤ n
  | 0, [], _, _ => Nat.le_refl _
  | 0, x :: l, _, h => absurd (h x (List.mem_cons_self ..)) (by omega)
  | n + 1, l, hn, h => by
    have h1 := nodup_lt_len (n := n) (l := l.erase n) (hn.erase n) fun x hx => by
      have h2 := h x (List.mem_of_mem_erase hx)
      have h3 := ((List.Nodup.mem_erase_iff hn).1 hx).1
      omega
    have h4 := List.length_erase (a := n) (l := l)
    split at h4 <;> omega
theorem Fr.Ok.len {f : Fr} (h : f.Ok) : f.ps.length ≤ f.n := by
  have := nodup_lt_len (n := f.n) h.nd fun x hx => by
    obtain ⟨p, hp, rfl⟩ := List.mem_map.1 hx
    exact h.lt p hp
  simpa using this
theorem sumP_le : ∀ {l : List (Nat × List UInt8)}, (∀ p ∈ l, p.2.length ≤ 1048576) → sumP l ≤ 1048576 * l.length
  | [], _ => by simp [sumP]
  | p :: l, h => by
    have h1 := h p (List.mem_cons_self ..)
    have h2 := sumP_le (l := l) fun q hq => h q (List.mem_cons_of_mem _ hq)
    rw [sumP, List.length_cons]
    omega
theorem Fr.Ok.sum {f : Fr} (h : f.Ok) : sumP f.ps ≤ 267386880 := by
  have h1 := sumP_le h.sz
  have h2 := h.len
  have h3 := h.n1
  omega
theorem newF_ok {t : Nat} (c : Int) {now : Int} (h1 : t < 4294967296) (h2 : -1099511627776 ≤ now) (h3 : now ≤ 1099511627776) : (newF t c now).Ok :=
  ⟨h1, by unfold newF; dsimp only; omega, by unfold newF; dsimp only; omega, h2, h3, by simp [newF], by simp [newF], by simp [newF]⟩
theorem putF_ok {f : Fr} (h : f.Ok) (i c : Int) {s : List UInt8} (hs : s.length ≤ 1048576) : (putF f i c s).1.Ok := by
  unfold putF
  split
  · exact h
  · rename_i h1
    split
    · exact h
    · rename_i h2
      have hn : getP f.ps i.toNat = none := by
        cases hg : getP f.ps i.toNat with
        | none => rfl
        | some s => rw [hg] at h2; exact absurd rfl h2
      refine ⟨h.tm, h.n0, h.n1, h.t0, h.t1, ?_, fun p hp => ?_, fun p hp => ?_⟩
      · dsimp only
        rw [List.map_append]
        refine List.nodup_append.2 ⟨h.nd, by simp, fun a ha b hb => ?_⟩
        simp at hb
        subst hb
        exact fun e => getP_none hn (e ▸ ha)
      · rcases List.mem_append.1 hp with hp | hp
        · exact h.lt p hp
        · simp at hp
          subst hp
          dsimp only
          omega
      · rcases List.mem_append.1 hp with hp | hp
        · exact h.sz p hp
        · simp at hp
          subst hp
          exact hs
theorem catF_len {ps : List (Nat × List UInt8)} (h : ∀ p ∈ ps, p.2.length ≤ 1048576) : ∀ n, (catF ps n).length ≤ 1048576 * n
  | 0 => by simp [catF]
  | n + 1 => by
    have h1 := catF_len h n
    rw [catF, List.length_append]
    cases hg : getP ps n with
    | none => simp; omega
    | some s =>
      have := h _ (getP_mem hg)
      dsimp only at this
      simp
      omega
/-! ### As a map -/
def kvF (ps : List (Nat × List UInt8)) : List (Value × T) := ps.map fun p => (.int .i64 p.1, .av (vs p.2))
theorem i64_inj {a b : Int} : Value.int .i64 a = Value.int .i64 b ↔ a = b := by
  constructor
  · intro h; injection h
  · rintro rfl; rfl
theorem kvF_nodup {ps : List (Nat × List UInt8)} (h : (ps.map (·.1)).Nodup) : ((kvF ps).map (·.1)).Nodup := by
  induction ps with
  | nil => exact List.nodup_nil
  | cons p ps ih =>
    simp only [List.map_cons, List.nodup_cons] at h
    unfold kvF
    simp only [List.map_cons, List.nodup_cons]
    refine ⟨fun hm => h.1 ?_, ih h.2⟩
    obtain ⟨q, hq, he⟩ := List.mem_map.1 hm
    obtain ⟨r, hr, rfl⟩ := List.mem_map.1 hq
    have he : (r.1 : Int) = p.1 := i64_inj.1 he
    exact List.mem_map.2 ⟨r, hr, by omega⟩
theorem kvGet_in : ∀ {l : List (Value × T)} {k : Value} {y : T}, (l.map (·.1)).Nodup → (k, y) ∈ l → kvGet l k = some y := fun {l k y} hn h => by
  obtain ⟨j, hj, he⟩ := List.getElem_of_mem h
  exact (kv_at hn (by rw [List.getElem?_eq_getElem hj, he])).1
theorem kvP_get {ps : List (Nat × List UInt8)} (hn : (ps.map (·.1)).Nodup) {kvs : List (Value × T)} (hp : kvs.Perm (kvF ps)) {i : Int} (h0 : 0 ≤ i) : kvGet kvs (.int .i64 i) = (getP ps i.toNat).map fun s => .av (vs s) := by
  have hk : (kvs.map (·.1)).Nodup := ((hp.map (·.1)).nodup_iff).2 (kvF_nodup hn)
  cases hg : getP ps i.toNat with
  | some s =>
    refine kvGet_in hk (hp.mem_iff.2 (List.mem_map.2 ⟨(i.toNat, s), getP_mem hg, ?_⟩))
    dsimp only
    rw [show ((i.toNat : Nat) : Int) = i by omega]
  | none =>
    refine kvGet_none fun h => getP_none hg ?_
    obtain ⟨q, hq, he⟩ := List.mem_map.1 h
    obtain ⟨p, hp', rfl⟩ := List.mem_map.1 (hp.mem_iff.1 hq)
    have he : (p.1 : Int) = i := i64_inj.1 he
    exact List.mem_map.2 ⟨p, hp', by omega⟩
theorem kvP_keys {ps : List (Nat × List UInt8)} {kvs : List (Value × T)} (hp : kvs.Perm (kvF ps)) : keysIs (.int .i64) (kvs.map (·.1)) := keysIs_of fun k hk => by
  obtain ⟨q, hq, rfl⟩ := List.mem_map.1 hk
  obtain ⟨p, _, rfl⟩ := List.mem_map.1 (hp.mem_iff.1 hq)
  exact rfl
theorem kvP_set {ps : List (Nat × List UInt8)} {kvs : List (Value × T)} (hp : kvs.Perm (kvF ps)) {i : Int} (h0 : 0 ≤ i) (hg : getP ps i.toNat = none) (s : List UInt8) : kvSet kvs (.int .i64 i) (.av (vs s)) = kvs ++ [(.int .i64 i, .av (vs s))] ∧ (kvs ++ [(Value.int .i64 i, T.av (vs s))]).Perm (kvF (ps ++ [(i.toNat, s)])) := by
  refine ⟨kvSet_none fun h => getP_none hg ?_, ?_⟩
  · obtain ⟨q, hq, he⟩ := List.mem_map.1 h
    obtain ⟨p, hp', rfl⟩ := List.mem_map.1 (hp.mem_iff.1 hq)
    have he : (p.1 : Int) = i := i64_inj.1 he
    exact List.mem_map.2 ⟨p, hp', by omega⟩
  · unfold kvF
    rw [List.map_append]
    have : [(Value.int .i64 i, T.av (vs s))] = [(i.toNat, s)].map fun p : Nat × List UInt8 => (Value.int .i64 p.1, T.av (vs p.2)) := by
      simp
      omega
    rw [← this]
    exact hp.append_right _
theorem kvP_len {ps : List (Nat × List UInt8)} {kvs : List (Value × T)} (hp : kvs.Perm (kvF ps)) : kvs.length = ps.length := by rw [hp.length_eq]; simp [kvF]
/-- A frame's cells. -/
def frO (f : Fr) : List CA := [.val (vu f.tm), .val (vi f.n), .val (vi f.t0), .hd (.pm (kvF f.ps)), .val (vi (sumP f.ps))]
def frT (f : Fr) : List T := [.av (vu f.tm), .av (vi f.n), .av (vi f.t0), .pm (kvF f.ps), .av (vi (sumP f.ps))]
theorem frT_ca (f : Fr) : (frT f).map toCA = frO f := rfl
attribute [go_sem] frO frT_ca
end Go.Proofs.YtkclmofjlmeolaaGreatDoor

namespace Go.Proofs.YtkclmofjlmeolaaGreatDoor
open Go.RowKit
set_option linter.unusedVariables false
set_option linter.unusedSimpArgs false

/-- Frames that wait; how many may; the horizon; how many were played, dropped, evicted. -/
structure Bu where
  cf : Int
  cp : Int
  cb : Int
  l : List Fr
  hz : Int
  pl : Int
  dr : Int
  ev : Int
def pkts : List Fr → Nat
  | [] => 0
  | f :: l => f.ps.length + pkts l
def bts : List Fr → Nat
  | [] => 0
  | f :: l => sumP f.ps + bts l
theorem pkts_app (a b : List Fr) : pkts (a ++ b) = pkts a + pkts b := by
  induction a with
  | nil => simp [pkts]
  | cons p a ih => rw [List.cons_append, pkts, pkts, ih]; omega
theorem bts_app (a b : List Fr) : bts (a ++ b) = bts a + bts b := by
  induction a with
  | nil => simp [bts]
  | cons p a ih => rw [List.cons_append, bts, bts, ih]; omega
structure Bu.Cfg (b : Bu) : Prop where
  f0 : 1 ≤ b.cf
  f1 : b.cf ≤ 1024
  p0 : 1 ≤ b.cp
  p1 : b.cp ≤ 65536
  b0 : 1 ≤ b.cb
  b1 : b.cb ≤ 67108864
/-- More wait than may. -/
def overB (b : Bu) : Bool := decide (b.cf < b.l.length ∨ b.cp < pkts b.l ∨ b.cb < bts b.l)
/-- Rising, each may be; counts are small. -/
structure Bu.Ok (b : Bu) (K : Int) : Prop extends b.Cfg where
  fr : ∀ f ∈ b.l, f.Ok
  so : b.l.Pairwise fun f g => f.tm < g.tm
  hl : ∀ f ∈ b.l, b.hz < f.tm
  h0 : -1 ≤ b.hz
  h1 : b.hz < 4294967296
  c0 : 0 ≤ b.pl
  c1 : b.pl ≤ K
  d0 : 0 ≤ b.dr
  d1 : b.dr ≤ K
  e0 : 0 ≤ b.ev
  e1 : b.ev ≤ K
  no : overB b = false
def newB24 (f p c : Int) : Bu := ⟨max 1 (min f 1024), max 1 (min p 65536), max 1 (min c 67108864), [], -1, 0, 0, 0⟩
/-- How many have a lesser time. -/
def atF (l : List Fr) (t : Nat) : Nat := (l.takeWhile fun f => decide (f.tm < t)).length
def isF (l : List Fr) (t : Nat) : Bool := match l[atF l t]? with | some f => decide (f.tm = t) | none => false
/-- The frame of a time is there. -/
def frameB (b : Bu) (t : Nat) (c now : Int) : Bu := if isF b.l t = true then b else { b with l := b.l.take (atF b.l t) ++ newF t c now :: b.l.drop (atF b.l t) }
/-- The frame of the least time goes. -/
def popB (b : Bu) : Bu := match b.l with | [] => b | f :: l => { b with l := l, hz := f.tm }
/-- While more wait than may, the first one goes. -/
def evictB (t : Nat) : Nat → Bu → Int → List Nat → Bu × Int × List Nat
  | 0, b, k, e => (b, k, e)
  | n + 1, b, k, e => if overB b = true then (match b.l with
    | [] => (b, k, e)
    | f :: l => evictB t n { b with l := l, hz := f.tm, ev := b.ev + 1 } (if f.tm = t then 6 else k) (e ++ [f.tm])) else (b, k, e)
def badB (i c : Int) : Bool := decide (c < 1 ∨ 255 < c ∨ i < 0 ∨ c ≤ i)
/-- The frame of a time takes a part. -/
def partB (b : Bu) (j : Nat) (i c : Int) (s : List UInt8) : Bu × Int := match b.l[j]? with
  | some f => ({ b with l := b.l.set j (putF f i c s).1 }, (putF f i c s).2)
  | none => (b, 0)
def putB (b : Bu) (t : Nat) (i c : Int) (s : List UInt8) (now : Int) : Bu × Int × List Nat :=
  if (t : Int) ≤ b.hz then (b, 5, []) else if badB i c = true then (b, 4, []) else
    let r := partB (frameB b t c now) (atF b.l t) i c s
    evictB t r.1.l.length r.1 r.2 []
/-- What is played, and dropped, of a list; what is left; the last time. -/
structure Ply where
  l : List Fr
  hz : Int
  out : List (Nat × List UInt8)
  gone : List Nat
def playL (now delay most : Int) : List Fr → Int → Ply
  | [], h => ⟨[], h, [], []⟩
  | f :: l, h => if wholeF f = true ∧ delay ≤ now - f.t0 then (let r := playL now delay most l f.tm; ⟨r.l, r.hz, (f.tm, dataF f) :: r.out, r.gone⟩)
    else if most ≤ now - f.t0 then (let r := playL now delay most l f.tm; ⟨r.l, r.hz, r.out, f.tm :: r.gone⟩)
    else ⟨f :: l, h, [], []⟩
def playB (b : Bu) (now delay most : Int) : Bu × List (Nat × List UInt8) × List Nat :=
  let r := playL now delay most b.l b.hz
  ({ b with l := r.l, hz := r.hz, pl := b.pl + r.out.length, dr := b.dr + r.gone.length }, r.out, r.gone)

/-! ### Facts -/
theorem atF_le (l : List Fr) (t : Nat) : atF l t ≤ l.length := by
  unfold atF
  exact (List.takeWhile_sublist _).length_le
theorem atF_lt {l : List Fr} {t : Nat} : ∀ i (h : i < l.length), i < atF l t → (l[i]'h).tm < t := by
  induction l with
  | nil => intro i h; simp at h
  | cons f l ih =>
    intro i h hi
    unfold atF at hi
    rw [List.takeWhile_cons] at hi
    by_cases hf : f.tm < t
    · rw [if_pos (by simpa using hf)] at hi
      cases i with
      | zero => simpa using hf
      | succ i =>
        have := ih i (by simpa using h) (by unfold atF; simpa using hi)
        simpa using this
    · rw [if_neg (by simpa using hf)] at hi
      simp at hi
theorem atF_ge {l : List Fr} {t : Nat} (hs : l.Pairwise fun f g => f.tm < g.tm) : ∀ i (h : i < l.length), atF l t ≤ i → t ≤ (l[i]'h).tm := by
  induction l with
  | nil => intro i h; simp at h
  | cons f l ih =>
    intro i h hi
    obtain ⟨h1, h2⟩ := List.pairwise_cons.1 hs
    unfold atF at hi
    rw [List.takeWhile_cons] at hi
    by_cases hf : f.tm < t
    · rw [if_pos (by simpa using hf)] at hi
      cases i with
      | zero => simp at hi
      | succ i =>
        have := ih h2 i (by simpa using h) (by unfold atF; simpa using hi)
        simpa using this
    · cases i with
      | zero => simp; omega
      | succ i =>
        have := h1 _ (List.getElem_mem (by simpa using h : i < l.length))
        simp
        omega
theorem pkts_le {l : List Fr} (h : ∀ f ∈ l, f.Ok) : pkts l ≤ 255 * l.length := by
  induction l with
  | nil => simp [pkts]
  | cons f l ih =>
    have h1 := (h f (List.mem_cons_self ..)).len
    have h2 := (h f (List.mem_cons_self ..)).n1
    have h3 := ih fun g hg => h g (List.mem_cons_of_mem _ hg)
    rw [pkts, List.length_cons]
    omega
theorem bts_le {l : List Fr} (h : ∀ f ∈ l, f.Ok) : bts l ≤ 267386880 * l.length := by
  induction l with
  | nil => simp [bts]
  | cons f l ih =>
    have h1 := (h f (List.mem_cons_self ..)).sum
    have h3 := ih fun g hg => h g (List.mem_cons_of_mem _ hg)
    rw [bts, List.length_cons]
    omega
theorem pkts_set {f g : Fr} : ∀ {l : List Fr} {i : Nat}, l[i]? = some f → pkts (l.set i g) + f.ps.length = pkts l + g.ps.length
  | [], i, h => by simp at h
  | x :: l, 0, h => by
    simp at h
    subst h
    simp [pkts]
    omega
  | x :: l, i + 1, h => by
    have := pkts_set (l := l) (i := i) (g := g) (by simpa using h)
    simp only [List.set_cons_succ, pkts]
    omega
theorem bts_set {f g : Fr} : ∀ {l : List Fr} {i : Nat}, l[i]? = some f → bts (l.set i g) + sumP f.ps = bts l + sumP g.ps
  | [], i, h => by simp at h
  | x :: l, 0, h => by
    simp at h
    subst h
    simp [bts]
    omega
  | x :: l, i + 1, h => by
    have := bts_set (l := l) (i := i) (g := g) (by simpa using h)
    simp only [List.set_cons_succ, bts]
    omega
theorem isF_some {l : List Fr} {t : Nat} (h : isF l t = true) : ∃ f, l[atF l t]? = some f ∧ f.tm = t := by
  unfold isF at h
  cases hg : l[atF l t]? with
  | none => rw [hg] at h; cases h
  | some f => rw [hg] at h; exact ⟨f, rfl, of_decide_eq_true h⟩
theorem mid_at {α : Type} (l : List α) (i : Nat) (x : α) (h : i ≤ l.length) : (l.take i ++ x :: l.drop i)[i]? = some x := by
  rw [List.getElem?_append_right (by rw [List.length_take]; omega), List.length_take, show i - min i l.length = 0 by omega]
  rfl
theorem mid_len {α : Type} (l : List α) (i : Nat) (x : α) : (l.take i ++ x :: l.drop i).length = l.length + 1 := by
  simp only [List.length_append, List.length_cons, List.length_take, List.length_drop]
  omega
theorem mid_so {l : List Fr} {t : Nat} (hs : l.Pairwise fun f g => f.tm < g.tm) (hn : isF l t = false) (x : Fr) (hx : x.tm = t) : (l.take (atF l t) ++ x :: l.drop (atF l t)).Pairwise fun f g => f.tm < g.tm := by
  have h1 : ∀ f ∈ l.take (atF l t), f.tm < t := fun f hf => by
    obtain ⟨k, hk, rfl⟩ := List.getElem_of_mem hf
    rw [List.length_take] at hk
    rw [List.getElem_take]
    exact atF_lt k (by omega) (by omega)
  have h2 : ∀ f ∈ l.drop (atF l t), t < f.tm := fun f hf => by
    obtain ⟨k, hk, rfl⟩ := List.getElem_of_mem hf
    rw [List.length_drop] at hk
    rw [List.getElem_drop]
    have h3 := atF_ge hs (atF l t) (by omega) (Nat.le_refl _)
    have h4 : l[atF l t].tm ≠ t := fun e => by
      unfold isF at hn
      rw [List.getElem?_eq_getElem (by omega)] at hn
      exact absurd e (of_decide_eq_false hn)
    cases k with
    | zero => simp only [Nat.add_zero]; omega
    | succ k =>
      have := List.pairwise_iff_getElem.1 hs (atF l t) (atF l t + (k + 1)) (by omega) (by omega) (by omega)
      omega
  have h3 : (l.take (atF l t) ++ l.drop (atF l t)).Pairwise fun f g => f.tm < g.tm := by rw [List.take_append_drop]; exact hs
  obtain ⟨h4, h5, h6⟩ := List.pairwise_append.1 h3
  refine List.pairwise_append.2 ⟨h4, List.pairwise_cons.2 ⟨fun f hf => by have := h2 f hf; omega, h5⟩, fun f hf g hg => ?_⟩
  rcases List.mem_cons.1 hg with rfl | hg
  · have := h1 f hf; omega
  · exact h6 f hf g hg
/-- Behind a frame's beginning. -/
theorem frameB_facts {b : Bu} {t : Nat} {c now : Int} (hf : ∀ f ∈ b.l, f.Ok) (hs : b.l.Pairwise fun f g => f.tm < g.tm) (ht : t < 4294967296) (h2 : -1099511627776 ≤ now) (h3 : now ≤ 1099511627776) :
    ∃ f, (frameB b t c now).l[atF b.l t]? = some f ∧ f.tm = t ∧ f.Ok ∧ (∀ f ∈ (frameB b t c now).l, f.Ok) ∧ (frameB b t c now).l.Pairwise (fun f g => f.tm < g.tm) ∧ (frameB b t c now).l.length ≤ b.l.length + 1 ∧
      (∀ f ∈ (frameB b t c now).l, f ∈ b.l ∨ f = newF t c now) := by
  unfold frameB
  cases h : isF b.l t with
  | true =>
    rw [if_pos rfl]
    obtain ⟨f, h1, h4⟩ := isF_some h
    exact ⟨f, h1, h4, hf f (List.mem_of_getElem? h1), hf, hs, by omega, fun f hf => .inl hf⟩
  | false =>
    rw [if_neg (by decide)]
    dsimp only
    have ho := newF_ok c ht h2 h3
    have hm : ∀ f ∈ b.l.take (atF b.l t) ++ newF t c now :: b.l.drop (atF b.l t), f ∈ b.l ∨ f = newF t c now := fun f hf' => by
      rcases List.mem_append.1 hf' with h | h
      · exact .inl (List.mem_of_mem_take h)
      · rcases List.mem_cons.1 h with rfl | h
        · exact .inr rfl
        · exact .inl (List.mem_of_mem_drop h)
    refine ⟨newF t c now, mid_at _ _ _ (atF_le _ _), rfl, ho, fun f hf' => ?_, mid_so hs h _ rfl, by rw [mid_len]; omega, hm⟩
    rcases hm f hf' with h | rfl
    · exact hf f h
    · exact ho
end Go.Proofs.YtkclmofjlmeolaaGreatDoor

namespace Go.Proofs.YtkclmofjlmeolaaGreatDoor
open Go.RowKit
set_option linter.unusedVariables false
set_option linter.unusedSimpArgs false

section
variable {P : Program} {ops : Array Oper} {C : Ctx} {E : Env} {σ : St} {a : Act} {w : World} {md : Bool} {K : St → List FP → Prop} {acc : List FP} {rest : List Oper}
end
end Go.Proofs.YtkclmofjlmeolaaGreatDoor

namespace Go.Proofs.YtkclmofjlmeolaaGreatDoor
open Go.RowKit
set_option linter.unusedVariables false
set_option linter.unusedSimpArgs false

structure RF where
  tm : Int
  t0 : Int
  has : List Bool
  parts : List (List UInt8)
abbrev rfL (r : RF) : List V := [vi r.tm, vi r.t0, .lst 1 (r.has.map fun b => [vb b]), .lst 1 (r.parts.map fun s => [vs s])]
def rfEl (r : RF) : List V := rfL r
attribute [go_sem] rfEl
structure RF.Ok (r : RF) : Prop where
  ln : r.parts.length = r.has.length
  l1 : r.has.length ≤ 255
  sz : ∀ s ∈ r.parts, s.length ≤ 1048576
/-! ### Buffers -/
structure RB where
  cf : Int
  cp : Int
  cb : Int
  l : List RF
  hz : Int
  pl : Int
  dr : Int
  ev : Int
def rbV (b : RB) : V := .agg [vi b.cf, vi b.cp, vi b.cb, .lst 4 (b.l.map rfEl), vi b.hz, vi b.pl, vi b.dr, vi b.ev]
attribute [go_sem] rbV
end Go.Proofs.YtkclmofjlmeolaaGreatDoor

namespace Go.Proofs.YtkclmofjlmeolaaGreatDoor
open Go.RowKit
set_option linter.unusedVariables false
set_option linter.unusedSimpArgs false

/-! ### A frame -/
/-! ### A buffer -/
end Go.Proofs.YtkclmofjlmeolaaGreatDoor

namespace Go.Proofs.YtkclmofjlmeolaaGreatDoor
open Go.RowKit
set_option linter.unusedVariables false
set_option linter.unusedSimpArgs false

theorem Bu.Ok.len {b : Bu} {K : Int} (h : b.Ok K) : b.l.length ≤ 1024 := by
  have h1 := of_decide_eq_false h.no
  have h2 := h.f1
  omega
end Go.Proofs.YtkclmofjlmeolaaGreatDoor

