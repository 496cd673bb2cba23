
/- Structs that hold places or rows: made, boxed. -/
import Derived.Test.YtekpaepkoeelfaaRO
namespace Go.Proofs.Ytekpaepkoeelfaa
open Go.RowKit
set_option linter.unusedVariables false
set_option linter.unusedSimpArgs false

section
variable {P : Program} {ops : Array Oper} {C : Ctx} {E : Env} {σ : St} {a : Act} {w : World}
/-! ### A struct that holds places or rows -/
def partA (x : AV) : Option (List AV) := match x with
  | .ref k g => some [.ref k g]
  | .ptr o g i => some [.ptr o g i]
  | .own k g e sz es => some [.own k g e sz es]
  | .ag xs => some xs
  | x => (partV x).map fun l => l.map .val
def onePt (σ : St) : AV → Prop
  | .ref k g => oneA σ (.ref k g)
  | .ptr o g i => oneA σ (.ptr o g i)
  | _ => True
def onesP (σ : St) : List (Nat × AV) → Prop
  | [] => True
  | p :: l => onePt σ p.2 ∧ onesP σ l
def livesP (σ : St) : List (Nat × Operand) → List Pl
  | [] => []
  | p :: l => liveL (ev σ p.2) ++ livesP σ l
theorem onePt_congr {σ' : St} {x : AV} (h : ∀ l ∈ liveL x, σ' l = σ l) (ho : onePt σ x) : onePt σ' x := by
  cases x with
  | ref k g => exact oneA_congr h ho
  | ptr o g i => exact oneA_congr h ho
  | _ => trivial
theorem onesP_congr {σ' : St} : ∀ {l : List (Nat × Operand)}, (∀ x ∈ opsL l, σ' x = σ x) → (∀ x ∈ livesP σ l, σ' x = σ x) → onesP σ (evs σ l) → onesP σ' (l.map fun p => (p.1, ev σ' p.2))
  | [], _, _, _ => trivial
  | p :: l, h1, h2, h => by
    obtain ⟨a1, a2⟩ := mem_l (L := rdl p.2) (M := opsL l) h1
    obtain ⟨b1, b2⟩ := mem_l (L := liveL (ev σ p.2)) (M := livesP σ l) h2
    refine ⟨?_, onesP_congr a2 b2 h.2⟩
    show onePt σ' (ev σ' p.2)
    rw [ev_congr a1]
    exact onePt_congr b1 h.1
theorem partA_ok (hg : Gm C E σ a w) {x : AV} {v : Value} {vs : List AV} (h : RdA E σ x v) (hp : partA x = some vs) (ho : onePt σ x) : v.cells.size = vs.length ∧ ∀ i (hi : i < vs.length), ∃ u, v.cells[i]? = some u ∧ RdP E σ vs[i] u := by
  have one : ∀ y : AV, RdP E σ y v → v.oneCell' = true → v.cells.size = [y].length ∧ ∀ i (hi : i < [y].length), ∃ u, v.cells[i]? = some u ∧ RdP E σ [y][i] u := fun y hy ho => by
    rw [one_cells ho]
    refine ⟨rfl, fun i hi => ?_⟩
    obtain rfl : i = 0 := by simpa using hi
    exact ⟨v, rfl, hy⟩
  have plainv : ∀ {x : AV} {l : List V}, RdA E σ x v → partV x = some l → vs = l.map .val → v.cells.size = vs.length ∧ ∀ i (hi : i < vs.length), ∃ u, v.cells[i]? = some u ∧ RdP E σ vs[i] u := fun {x l} hx hl e => by
    subst e
    obtain ⟨h1, h2⟩ := partV_ok hx hl
    refine ⟨by rw [h1, List.length_map], fun i hi => ?_⟩
    obtain ⟨u, hu, hr⟩ := h2 i (by simpa using hi)
    exact ⟨u, hu, by rw [List.getElem_map]; exact hr⟩
  cases x with
  | ref k g => simp [partA] at hp; subst hp; exact one _ h (oneA_ok hg h ho)
  | ptr o g i => simp [partA] at hp; subst hp; exact one _ h (oneA_ok hg h ho)
  | own k g e sz es => simp [partA] at hp; subst hp; exact one _ h (oneV_ok h.1 rfl)
  | ag xs =>
    simp [partA] at hp; subst hp
    obtain ⟨ys, rfl, hl, hr⟩ := h
    refine ⟨by simp [Value.cells, hl], fun i hi => ⟨ys[i]'(by omega), by simp [Value.cells, show i < ys.length by omega], hr i hi (by omega)⟩⟩
  | val y =>
    cases hq : partV (.val y) with
    | none => simp [partA, hq] at hp
    | some l => simp [partA, hq] at hp; exact plainv h hq hp.symm
  | elp => simp [partA, partV] at hp
  | vw => simp [partA, partV] at hp
  | cp => simp [partA, partV] at hp
  | pv => simp [partA, partV] at hp
  | fn => simp [partA, partV] at hp
def spliceA (cs : List AV) (off : Nat) (vs : List AV) : List AV := cs.take off ++ vs ++ cs.drop (off + vs.length)
def fillA (place : Nat → Option (Nat × Nat)) : List AV → List (Nat × AV) → Option (List AV)
  | cs, [] => some cs
  | cs, (i, x) :: rest => match place i, partA x with
    | some (off, size), some vs => if vs.length = size ∧ off + size ≤ cs.length then fillA place (spliceA cs off vs) rest else none
    | _, _ => none
theorem fill_okA (hg : Gm C E σ a w) (place : Nat → Option (Nat × Nat)) : ∀ (parts : List (Nat × Operand)) (cs cs' : List AV) (cells : Array Value), cells.size = cs.length → (∀ i (hi : i < cs.length), ∃ u, cells[i]? = some u ∧ RdP E σ cs[i] u) → onesP σ (parts.map fun p => (p.1, ev σ p.2)) →
    fillA place cs (parts.map fun p => (p.1, ev σ p.2)) = some cs' → ∃ cells', Instr.fill place cells (parts.map fun p => (p.1, a.eval p.2)) = some cells' ∧ cells'.size = cs'.length ∧ ∀ i (hi : i < cs'.length), ∃ u, cells'[i]? = some u ∧ RdP E σ cs'[i] u
  | [], cs, cs', cells, hl, hr, _, h => by simp [fillA] at h; subst h; exact ⟨cells, rfl, hl, hr⟩
  | (i, x) :: rest, cs, cs', cells, hl, hr, ho, h => by
    obtain ⟨ho1, ho2⟩ : onePt σ (ev σ x) ∧ onesP σ (rest.map fun p => (p.1, ev σ p.2)) := by rw [List.map_cons] at ho; exact ho
    simp only [List.map_cons, fillA] at h
    split at h
    · rename_i off size vs hp hv
      split at h
      · rename_i hc
        obtain ⟨h1, h2⟩ := partA_ok hg (ev_ok hg x) hv ho1
        obtain ⟨cells1, hcells1⟩ : ∃ c, c = (a.eval x).cells.zipIdx.foldl (fun cs (c, j) => cs.setIfInBounds (off + j) c) cells := ⟨_, rfl⟩
        have htl : cells1.toList = cells.toList.take off ++ (a.eval x).cells.toList ++ cells.toList.drop (off + (a.eval x).cells.toList.length) := by
          have h3 := fold_splice off (a.eval x).cells.toList 0 cells (by simp; omega)
          rw [Nat.add_zero] at h3
          rw [hcells1, ← h3, ← Array.foldl_toList, Array.toList_zipIdx]
        have hlen : cells1.size = (spliceA cs off vs).length := by
          rw [← Array.length_toList, htl]
          simp [spliceA]; omega
        have hrest : ∀ j (hj : j < (spliceA cs off vs).length), ∃ u, cells1[j]? = some u ∧ RdP E σ (spliceA cs off vs)[j] u := by
          intro j hj
          have hcl : ∀ j : Nat, cells1[j]? = cells1.toList[j]? := fun j => by rw [Array.getElem?_toList]
          rw [hcl, htl]
          simp only [spliceA] at hj ⊢
          by_cases c1 : j < off
          · obtain ⟨u, hu, hru⟩ := hr j (by omega)
            refine ⟨u, ?_, ?_⟩
            · rw [List.append_assoc, List.getElem?_append_left (by simp; omega), List.getElem?_take_of_lt c1]; simpa using hu
            · rw [List.getElem_append_left (by simp; omega), List.getElem_append_left (by simp; omega), List.getElem_take]; exact hru
          · by_cases c2 : j < off + vs.length
            · obtain ⟨u, hu, hru⟩ := h2 (j - off) (by omega)
              refine ⟨u, ?_, ?_⟩
              · rw [List.getElem?_append_left (by simp; omega), List.getElem?_append_right (by simp; omega), show j - (cells.toList.take off).length = j - off by simp; omega]; simpa using hu
              · rw [List.getElem_append_left (by simp; omega), List.getElem_append_right (by simp; omega)]
                have : j - (cs.take off).length = j - off := by simp; omega
                simp only [this]; exact hru
            · have hj' : j < cs.length := by simp at hj; omega
              obtain ⟨u, hu, hru⟩ := hr j hj'
              refine ⟨u, ?_, ?_⟩
              · rw [List.getElem?_append_right (by simp; omega), List.getElem?_drop]
                rw [show off + (a.eval x).cells.toList.length + (j - (cells.toList.take off ++ (a.eval x).cells.toList).length) = j by simp; omega]
                simpa using hu
              · rw [List.getElem_append_right (by simp; omega), List.getElem_drop]
                have : off + vs.length + (j - (cs.take off ++ vs).length) = j := by simp; omega
                simp only [this]; exact hru
        obtain ⟨cells', h4, h5, h6⟩ := fill_okA hg place rest (spliceA cs off vs) cs' cells1 hlen hrest ho2 h
        refine ⟨cells', ?_, h5, h6⟩
        simp only [List.map_cons, Instr.fill, hp]
        rw [if_neg (by simp; omega), ← hcells1]
        exact h4
      · cases h
    · cases h

theorem agA_of {cs : List AV} {cells : Array Value} (h1 : cells.size = cs.length) (h2 : ∀ i (hi : i < cs.length), ∃ u, cells[i]? = some u ∧ RdP E σ cs[i] u) : RdA E σ (.ag cs) (.agg cells) := by
  refine ⟨cells.toList, by simp, by simpa using h1, fun i hi hi2 => ?_⟩
  obtain ⟨u, hu, hr⟩ := h2 i hi
  have hi3 : i < cells.size := by simpa using hi2
  rw [Array.getElem?_eq_getElem hi3] at hu
  have e : cells.toList[i] = u := by rw [Array.getElem_toList]; exact Option.some.inj hu
  rw [e]
  exact hr
def stBuildA (P : Program) (σ : St) (d : Tmp) (t : TypeId) (parts : List (Nat × Operand)) : Stp :=
  match tiOf P t with
  | some { sh := .strct, fields := fs, fok := true, zero := z, zok := true, .. } => match fillA (placeF fs) (z.map fun v => .val (.sc v)) (evs σ parts) with
    | some cs => some (onesP σ (evs σ parts), opsL parts ++ livesP σ parts, [(.s d, .av (.ag cs))])
    | none => none
  | _ => none
theorem ok_buildA (d : Tmp) (t : TypeId) (parts : List (Nat × Operand)) : StOk P C σ (some d) (.build t parts.toArray) (stBuildA P σ d t parts) := by
  unfold stBuildA
  split
  · rename_i z e0 fs ht
    split
    · rename_i cs hcs
      refine ok_pure fun hc ty pos af E σ' a w hr hg => ?_
      obtain ⟨it, dt, hit, hdt, _, _, _, _, _, _, _, _, hst, _, _, _, hfok, _⟩ := tiOf_some ht
      obtain ⟨F, rfl, hF⟩ := hst rfl
      have hF : fs = _ := hF
      have hfok := hfok.symm
      simp only at hfok
      obtain ⟨zv, hzv, hz⟩ := zero_run ht rfl w
      have hz : zv.cells.toList = z := hz
      have hall : ∀ f ∈ F.toList, (P.info? f.type).isSome = true := fun f hf => by simpa using List.all_eq_true.1 hfok f hf
      have hpl : (F.mapM fun f => (do pure (f.offset, ← sizeOf f.type) : Sem (Nat × Nat))).run P w = .ok (F.toList.map fun f => (f.offset, ((P.info? f.type).map (·.size)).getD 0)).toArray w := by
        have hmp := mapM_places (P := P) w F.toList hall
        rw [Array.mapM_eq_mapM_toList, Sem.run_map, hmp]
        rfl
      obtain ⟨hr, hr2⟩ := mem_l hr
      have hc := onesP_congr (l := parts) hr hr2 hc
      rw [← evs_map hr] at hcs
      obtain ⟨cells', h1, h2, h3⟩ := fill_okA hg (placeF fs) parts (z.map fun v => .val (.sc v)) cs zv.cells (by rw [← hz]; simp) (fun i hi => by
        simp at hi
        rw [← hz] at hi
        refine ⟨zv.cells[i]'(by simpa using hi), by simp at hi; simp [hi], ?_⟩
        simp [← hz]; exact Rd.sc _) hc hcs
      refine ⟨.agg cells', ?_, agA_of h2 h3⟩
      have hpf : (fun i => (F.toList.map fun f => (f.offset, ((P.info? f.type).map (·.size)).getD 0)).toArray[i]?) = placeF fs := by
        funext i
        simp only [placeF, hF, List.getElem?_toArray, List.getElem?_map, Option.map_map]
        rfl
      have hmap : (List.map (fun p => (p.1, a.eval p.2)) parts).toArray.toList = parts.map fun p => (p.1, a.eval p.2) := by simp
      have hb : (Instr.build t (List.map (fun p => (p.1, a.eval p.2)) parts).toArray).run P w = .ok (.agg cells') w := by
        unfold Instr.build
        simp only [Sem.run_bind, hzv, run_underlying hdt, Result.andThen_ok, hpl, hpf, hmap, h1, Sem.run_pure]
      simp only [execOp, List.map_toArray, Sem.run_bind, hb, Result.andThen_ok, Sem.run_pure]
    · intro _ _ _ h; cases h
  · intro _ _ _ h; cases h

def stBoxA (σ : St) (d : Tmp) (x : Operand) : Stp :=
  match ev σ x with
  | .ag xs => some (True, .g (d, 0) :: rdl x, newW (d, 0) (gg σ (d, 0)) xs.length xs ++ [(.s d, .av (.ptr (d, 0) (gg σ (d, 0) + 1) 0))])
  | _ => none
theorem ok_boxA (d : Tmp) (t : TypeId) (x : Operand) : StOk P C σ (some d) (.box t x) (stBoxA σ d x) := by
  unfold stBoxA
  split
  · rename_i xs hx
    refine ok_value fun hc ty pos af E σ' a w hr hg hd => ?_
    have h5 := ev_ok hg x
    rw [ev_congr (fun l hl => hr l (by simp [hl])), hx] at h5
    obtain ⟨ys, hv, hl, hrd⟩ := h5
    obtain ⟨E', h1, h2, h3⟩ := hg.object (d, 0) (gg σ (d, 0)) (gg_of (hr _ (by simp))) t ys.toArray xs (by simpa using hl) (fun i hi => by
      have := hrd i hi (by omega)
      simpa using this.toA) (C.np d hd) rfl
    exact ⟨.pointer (some ⟨w.heap.size, 0, none⟩), _, E', by simp [execOp, hv, Instr.box, Value.cells, newVar, newRow, newObj]; rfl, h1, h3⟩
  · intro _ _ _ h; cases h
end
attribute [go_sem] stBuildA stBoxA fillA partA spliceA onesP onePt livesP
section
variable {P : Program} {ops : Array Oper} {C : Ctx} {σ : St} {md : Bool} {K : St → List FP → Prop} {acc : List FP} {rest : List Oper}
theorem bldA_s {d : Tmp} {t : TypeId} {ps : List (Nat × Operand)} {ty : TypeId} {pos : String} {af : Array Edge} {c : Prop} {L : List Pl} {W : List (Pl × X)} (h : stBuildA P σ d t ps = some (c, L, W)) (hc : c)
    (k : Run P ops C md K rest (puts σ W) ((L, locs W) :: acc)) : Run P ops C md K (⟨some d, .build t ps.toArray, ty, pos, af, none⟩ :: rest) σ acc := run_cons (ok_buildA d t ps c L W h hc ops ty pos af) k
theorem boxA_s {d : Tmp} {t : TypeId} {x : Operand} {ty : TypeId} {pos : String} {af : Array Edge} {c : Prop} {L : List Pl} {W : List (Pl × X)} (h : stBoxA σ d x = some (c, L, W)) (hc : c)
    (k : exec P ops C md K rest (puts σ W) ((L, locs W) :: acc)) : Run P ops C md K (⟨some d, .box t x, ty, pos, af, none⟩ :: rest) σ acc := run_any (ok_boxA d t x) h hc k
end
end Go.Proofs.Ytekpaepkoeelfaa
