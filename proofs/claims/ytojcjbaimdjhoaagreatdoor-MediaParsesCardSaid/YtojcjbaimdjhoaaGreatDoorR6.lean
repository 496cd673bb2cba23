
/- Built values, indexes, slices, lengths. -/
import Derived.Test.YtojcjbaimdjhoaaGreatDoorR5
namespace Go.Proofs.YtojcjbaimdjhoaaGreatDoor
open Go.RowKit
set_option linter.unusedVariables false
set_option linter.unusedSimpArgs false

/-- Cells of a part. -/
def partV : AV → Option (List V)
  | .val (.agg xs) => some xs
  | .val (.sc v) => if v.oneCell' then some [.sc v] else none
  | .val (.lst sz es) | .own _ _ _ sz es => some [.lst sz es]
  | .val (.ep xs) => some [.ep xs]
  | .val (.ifc t x) => some [.ifc t x]
  | _ => none
def spliceV (cs : List V) (off : Nat) (vs : List V) : List V := cs.take off ++ vs ++ cs.drop (off + vs.length)
def fillV (place : Nat → Option (Nat × Nat)) : List V → List (Nat × AV) → Option (List V)
  | cs, [] => some cs
  | cs, (i, x) :: rest => match place i, partV x with
    | some (off, size), some vs => if vs.length = size ∧ off + size ≤ cs.length then fillV place (spliceV cs off vs) rest else none
    | _, _ => none
section
variable {P : Program} {ops : Array Oper} {C : Ctx} {E : Env} {σ : St} {a : Act} {w : World}
theorem partV_ok {x : AV} {v : Value} {vs : List V} (h : RdA E σ x v) (hp : partV x = some vs) : v.cells.size = vs.length ∧ ∀ i (hi : i < vs.length), ∃ u, v.cells[i]? = some u ∧ Rd E.m vs[i] u := by
  have one : ∀ y : V, Rd E.m y v → v.oneCell' = true → v.cells.size = [y].length ∧ ∀ i (hi : i < [y].length), ∃ u, v.cells[i]? = some u ∧ Rd E.m [y][i] u := fun y hy ho => by
    rw [one_cells ho]
    refine ⟨rfl, fun i hi => ?_⟩
    obtain rfl : i = 0 := by simpa using hi
    exact ⟨v, rfl, hy⟩
  cases x with
  | ptr => simp [partV] at hp
  | ref => simp [partV] at hp
  | elp => simp [partV] at hp
  | ag => simp [partV] at hp
  | fn => simp [partV] at hp
  | own k g e sz es => simp [partV] at hp; subst hp; exact one _ h.1 (oneV_ok h.1 rfl)
  | val y =>
    have h : Rd E.m y v := h
    cases y with
    | sc u =>
      simp only [partV] at hp
      split at hp
      · cases hp
        rename_i ho
        have := Rd.sc_eq h
        subst this
        exact one _ h ho
      · cases hp
    | lst sz es => simp [partV] at hp; subst hp; exact one _ h (oneV_ok h rfl)
    | ep xs => simp [partV] at hp; subst hp; exact one _ h (oneV_ok h rfl)
    | ifc t x => simp [partV] at hp; subst hp; exact one _ h (oneV_ok h rfl)
    | agg xs =>
      simp [partV] at hp
      subst hp
      cases h with
      | agg _ ys hl hr => exact ⟨hl, fun i hi => ⟨ys[i]'(hl ▸ hi), by simp [Value.cells, hl ▸ hi], hr i hi⟩⟩
    | tup => simp [partV] at hp
    | any => simp [partV] at hp
theorem fold_splice (off : Nat) : ∀ (l : List Value) (k : Nat) (cs : Array Value), off + k + l.length ≤ cs.size →
    ((l.zipIdx k).foldl (fun cs (c : Value × Nat) => cs.setIfInBounds (off + c.2) c.1) cs).toList = cs.toList.take (off + k) ++ l ++ cs.toList.drop (off + k + l.length)
  | [], k, cs, _ => by simp
  | x :: l, k, cs, h => by
    rw [List.zipIdx_cons, List.foldl_cons, fold_splice off l (k + 1) _ (by simp at h ⊢; omega)]
    simp only [Array.toList_setIfInBounds]
    have hlt : off + k < cs.toList.length := by simp at h ⊢; omega
    have e1 : (cs.toList.set (off + k) x).take (off + (k + 1)) = cs.toList.take (off + k) ++ [x] := by
      rw [show off + (k + 1) = off + k + 1 by omega, List.take_succ_eq_append_getElem (by simpa using hlt), List.take_set_of_le (Nat.le_refl _)]
      simp
    have e2 : (cs.toList.set (off + k) x).drop (off + (k + 1) + l.length) = cs.toList.drop (off + k + (x :: l).length) := by
      rw [List.drop_set_of_lt (by omega)]
      congr 1
      simp; omega
    rw [e1, e2]
    simp
theorem fill_ok (hg : Gm C E σ a w) (place : Nat → Option (Nat × Nat)) : ∀ (parts : List (Nat × Operand)) (cs cs' : List V) (cells : Array Value), cells.size = cs.length → (∀ i (hi : i < cs.length), ∃ u, cells[i]? = some u ∧ Rd E.m cs[i] u) →
    fillV place cs (parts.map fun p => (p.1, ev σ p.2)) = some cs' → ∃ cells', Instr.fill place cells (parts.map fun p => (p.1, a.eval p.2)) = some cells' ∧ cells'.size = cs'.length ∧ ∀ i (hi : i < cs'.length), ∃ u, cells'[i]? = some u ∧ Rd E.m cs'[i] u
  | [], cs, cs', cells, hl, hr, h => by simp [fillV] at h; subst h; exact ⟨cells, rfl, hl, hr⟩
  | (i, x) :: rest, cs, cs', cells, hl, hr, h => by
    simp only [List.map_cons, fillV] at h
    split at h
    · rename_i off size vs hp hv
      split at h
      · rename_i hc
        obtain ⟨h1, h2⟩ := partV_ok (ev_ok hg x) hv
        obtain ⟨cells1, hcells1⟩ : ∃ c, c = (a.eval x).cells.zipIdx.foldl (fun cs (c, j) => cs.setIfInBounds (off + j) c) cells := ⟨_, rfl⟩
        have htl : cells1.toList = cells.toList.take off ++ (a.eval x).cells.toList ++ cells.toList.drop (off + (a.eval x).cells.toList.length) := by
          have h3 := fold_splice off (a.eval x).cells.toList 0 cells (by simp; omega)
          rw [Nat.add_zero] at h3
          rw [hcells1, ← h3, ← Array.foldl_toList, Array.toList_zipIdx]
        have hlen : cells1.size = (spliceV cs off vs).length := by
          rw [← Array.length_toList, htl]
          simp [spliceV]; omega
        have hrest : ∀ j (hj : j < (spliceV cs off vs).length), ∃ u, cells1[j]? = some u ∧ Rd E.m (spliceV cs off vs)[j] u := by
          intro j hj
          have hcl : ∀ j : Nat, cells1[j]? = cells1.toList[j]? := fun j => by rw [Array.getElem?_toList]
          rw [hcl, htl]
          simp only [spliceV] at hj ⊢
          by_cases c1 : j < off
          · obtain ⟨u, hu, hru⟩ := hr j (by omega)
            refine ⟨u, ?_, ?_⟩
            · rw [List.append_assoc, List.getElem?_append_left (by simp; omega), List.getElem?_take_of_lt c1]; simpa using hu
            · rw [List.getElem_append_left (by simp; omega), List.getElem_append_left (by simp; omega), List.getElem_take]; exact hru
          · by_cases c2 : j < off + vs.length
            · obtain ⟨u, hu, hru⟩ := h2 (j - off) (by omega)
              refine ⟨u, ?_, ?_⟩
              · rw [List.getElem?_append_left (by simp; omega), List.getElem?_append_right (by simp; omega), show j - (cells.toList.take off).length = j - off by simp; omega]; simpa using hu
              · rw [List.getElem_append_left (by simp; omega), List.getElem_append_right (by simp; omega)]
                have : j - (cs.take off).length = j - off := by simp; omega
                simp only [this]; exact hru
            · have hj' : j < cs.length := by simp at hj; omega
              obtain ⟨u, hu, hru⟩ := hr j hj'
              refine ⟨u, ?_, ?_⟩
              · rw [List.getElem?_append_right (by simp; omega), List.getElem?_drop]
                rw [show off + (a.eval x).cells.toList.length + (j - (cells.toList.take off ++ (a.eval x).cells.toList).length) = j by simp; omega]
                simpa using hu
              · rw [List.getElem_append_right (by simp; omega), List.getElem_drop]
                have : off + vs.length + (j - (cs.take off ++ vs).length) = j := by simp; omega
                simp only [this]; exact hru
        obtain ⟨cells', h4, h5, h6⟩ := fill_ok hg place rest (spliceV cs off vs) cs' cells1 hlen hrest h
        refine ⟨cells', ?_, h5, h6⟩
        simp only [List.map_cons, Instr.fill, hp]
        rw [if_neg (by simp; omega), ← hcells1]
        exact h4
      · cases h
    · cases h

def opsL : List (Nat × Operand) → List Pl
  | [] => []
  | p :: l => rdl p.2 ++ opsL l
def evs (σ : St) : List (Nat × Operand) → List (Nat × AV)
  | [] => []
  | p :: l => (p.1, ev σ p.2) :: evs σ l
theorem evs_map {σ σ' : St} : ∀ {l : List (Nat × Operand)}, (∀ x ∈ opsL l, σ' x = σ x) → l.map (fun p => (p.1, ev σ' p.2)) = evs σ l
  | [], _ => rfl
  | p :: l, h => by
    obtain ⟨h1, h2⟩ := mem_l (L := rdl p.2) (M := opsL l) h
    simp only [List.map_cons, evs, ev_congr h1, evs_map h2]
def placeF (fs : List (Nat × Nat × Bool)) (i : Nat) : Option (Nat × Nat) := (fs[i]?).map fun f => (f.1, f.2.1)
def stBuild (P : Program) (σ : St) (d : Tmp) (t : TypeId) (parts : List (Nat × Operand)) : Stp :=
  match tiOf P t with
  | some { sh := .strct, fields := fs, fok := true, zero := z, zok := true, .. } => match fillV (placeF fs) (z.map .sc) (evs σ parts) with
    | some cs => some (True, opsL parts, [(.s d, .av (.val (.agg cs)))])
    | none => none
  | _ => none
theorem mapM_places (w : World) : ∀ (fs : List Field), (∀ f ∈ fs, (P.info? f.type).isSome = true) → (fs.mapM fun f => (do pure (f.offset, ← sizeOf f.type) : Sem (Nat × Nat))).run P w = .ok (fs.map fun f => (f.offset, ((P.info? f.type).map (·.size)).getD 0)) w
  | [], _ => by simp
  | f :: fs, h => by
    obtain ⟨i, hi⟩ := Option.isSome_iff_exists.1 (h f (by simp))
    rw [List.mapM_cons]
    have h1 : (do pure (f.offset, ← sizeOf f.type) : Sem (Nat × Nat)).run P w = .ok (f.offset, i.size) w := by simp [sizeOf, typeInfo, hi]
    simp only [Sem.run_bind, h1, Result.andThen_ok, mapM_places w fs (fun g hg => h g (by simp [hg])), Sem.run_pure, List.map_cons, hi, Option.map_some, Option.getD_some]
theorem agg_of {m : Mem} {cs : List V} {cells : Array Value} (h1 : cells.size = cs.length) (h2 : ∀ i (hi : i < cs.length), ∃ u, cells[i]? = some u ∧ Rd m cs[i] u) : Rd m (.agg cs) (.agg cells) :=
  Rd.agg _ _ h1 fun i hi => by
    obtain ⟨u, hu, hr⟩ := h2 i hi
    have : cells[i]'(h1 ▸ hi) = u := by rw [Array.getElem?_eq_getElem (h1 ▸ hi)] at hu; exact Option.some.inj hu
    rw [this]; exact hr
theorem ok_build (d : Tmp) (t : TypeId) (parts : List (Nat × Operand)) : StOk P C σ (some d) (.build t parts.toArray) (stBuild P σ d t parts) := by
  unfold stBuild
  split
  · rename_i z e0 fs ht
    split
    · rename_i cs hcs
      refine ok_pure fun hc ty pos af E σ' a w hr hg => ?_
      obtain ⟨it, dt, hit, hdt, _, _, _, _, _, _, _, _, hst, _, _, _, hfok, _⟩ := tiOf_some ht
      obtain ⟨F, rfl, hF⟩ := hst rfl
      have hF : fs = _ := hF
      have hfok := hfok.symm
      simp only at hfok
      obtain ⟨zv, hzv, hz⟩ := zero_run ht rfl w
      have hz : zv.cells.toList = z := hz
      have hall : ∀ f ∈ F.toList, (P.info? f.type).isSome = true := fun f hf => by simpa using List.all_eq_true.1 hfok f hf
      have hpl : (F.mapM fun f => (do pure (f.offset, ← sizeOf f.type) : Sem (Nat × Nat))).run P w = .ok (F.toList.map fun f => (f.offset, ((P.info? f.type).map (·.size)).getD 0)).toArray w := by
        have hmp := mapM_places (P := P) w F.toList hall
        rw [Array.mapM_eq_mapM_toList, Sem.run_map, hmp]
        rfl
      rw [← evs_map hr] at hcs
      obtain ⟨cells', h1, h2, h3⟩ := fill_ok hg (placeF fs) parts (z.map .sc) cs zv.cells (by rw [← hz]; simp) (fun i hi => by
        simp at hi
        rw [← hz] at hi
        refine ⟨zv.cells[i]'(by simpa using hi), by simp at hi; simp [hi], ?_⟩
        simp [← hz]; exact Rd.sc _) hcs
      refine ⟨.agg cells', ?_, agg_of h2 h3⟩
      have hpf : (fun i => (F.toList.map fun f => (f.offset, ((P.info? f.type).map (·.size)).getD 0)).toArray[i]?) = placeF fs := by
        funext i
        simp only [placeF, hF, List.getElem?_toArray, List.getElem?_map, Option.map_map]
        rfl
      have hmap : (List.map (fun p => (p.1, a.eval p.2)) parts).toArray.toList = parts.map fun p => (p.1, a.eval p.2) := by simp
      have hb : (Instr.build t (List.map (fun p => (p.1, a.eval p.2)) parts).toArray).run P w = .ok (.agg cells') w := by
        unfold Instr.build
        simp only [Sem.run_bind, hzv, run_underlying hdt, Result.andThen_ok, hpl, hpf, hmap, h1, Sem.run_pure]
      simp only [execOp, List.map_toArray, Sem.run_bind, hb, Result.andThen_ok, Sem.run_pure]
    · intro _ _ _ h; cases h
  · intro _ _ _ h; cases h

def chunk (sz : Nat) : Nat → List V → List (List V)
  | 0, _ => []
  | n + 1, cs => cs.take sz :: chunk sz n (cs.drop sz)
theorem chunk_length (sz : Nat) : ∀ (n : Nat) (cs : List V), (chunk sz n cs).length = n
  | 0, _ => rfl
  | n + 1, cs => by simp [chunk, chunk_length sz n]
theorem chunk_get (sz : Nat) : ∀ (n : Nat) (cs : List V) (i : Nat) (hi : i < (chunk sz n cs).length), (chunk sz n cs)[i] = (cs.drop (i * sz)).take sz
  | n + 1, cs, 0, hi => by simp [chunk]
  | n + 1, cs, i + 1, hi => by
    show (chunk sz n (cs.drop sz))[i]'_ = _
    rw [chunk_get sz n (cs.drop sz) i, List.drop_drop, Nat.add_mul, Nat.one_mul, Nat.add_comm]
def stBuildS (P : Program) (σ : St) (d : Tmp) (t : TypeId) (len : Nat) (parts : List (Nat × Operand)) : Stp :=
  match tiOf P t with
  | some { sh := .slice, elem := e, .. } => match tiOf P e with
    | some { size := s, zok := true, .. } => match fillV (fun i => some (i * s, s)) (List.replicate (len * s) .any) (evs σ parts) with
      | some cs => some (len * s ≤ 16777216 ∧ len ≤ 16777216, .q (d, 0) :: opsL parts, [(.q (d, 0), .num (gq σ (d, 0) + 1)), (.k (d, 0), .row e s len)] ++ [(.s d, .av (.own (d, 0) (gq σ (d, 0) + 1) e s (chunk s len cs)))])
      | none => none
    | _ => none
  | _ => none
theorem fillV_length (place : Nat → Option (Nat × Nat)) : ∀ (parts : List (Nat × AV)) (cs cs' : List V), fillV place cs parts = some cs' → cs'.length = cs.length
  | [], cs, cs', h => by simp [fillV] at h; rw [h]
  | (i, x) :: rest, cs, cs', h => by
    simp only [fillV] at h
    split at h
    · split at h
      · rename_i hc
        rw [fillV_length place rest _ _ h]
        simp [spliceV]; omega
      · cases h
    · cases h
theorem ok_buildS (d : Tmp) (t : TypeId) (len : Nat) (parts : List (Nat × Operand)) : StOk P C σ (some d) (.buildSlice t len parts.toArray) (stBuildS P σ d t len parts) := by
  unfold stBuildS
  split
  · rename_i e _ _ _ ht
    split
    · rename_i s by_ z el fs fk hte
      split
      · rename_i cs hcs
        obtain ⟨G, hG⟩ : ∃ G, gq σ (d, 0) = G := ⟨_, rfl⟩
        rw [hG]
        refine ok_value (W0 := [(.q (d, 0), .num (G + 1)), (.k (d, 0), .row _ _ _)]) fun hc ty pos af E σ' a w hr hg hd => ?_
        have hr1 : ∀ l ∈ opsL parts, σ' l = σ l := fun l hl => hr l (List.mem_cons_of_mem _ hl)
        have hq := hr (.q (d, 0)) (by simp)
        rw [← evs_map hr1] at hcs
        obtain ⟨it, dt, _, hdt, _, _, _, hsl, _⟩ := tiOf_some ht
        have hsl : dt = .slice e := hsl rfl
        subst hsl
        have hso := sizeOf_run (P := P) hte w
        obtain ⟨zv, hzv, _⟩ := zero_run hte rfl w
        obtain ⟨zero, hz0, hz1⟩ : ∃ zero : Array Value, (len * s = 0 → zero = #[]) ∧ (¬ len * s = 0 → zero = zv.cells) := by
          by_cases h0 : len * s = 0
          · exact ⟨#[], fun _ => rfl, fun h => absurd h0 h⟩
          · exact ⟨zv.cells, fun h => absurd h h0, fun _ => rfl⟩
        have hcl := fillV_length _ _ _ _ hcs
        rw [List.length_replicate] at hcl
        obtain ⟨cells', h1, h2, h3⟩ := fill_ok hg (fun i => some (i * s, s)) parts (List.replicate (len * s) .any) cs ((Array.range (len * s)).map (zero[· % zero.size]!)) (by simp) (fun i hi => by
          simp at hi
          exact ⟨_, by simp [hi]; rfl, by rw [List.getElem_replicate]; exact Rd.any _⟩) hcs
        have hown : (w.alloc (.cells cells' e)).ownsRow 0 e s (.slice (some ⟨w.heap.size, 0, none⟩) len len) len cells'.toList := by
          refine ⟨by simp; omega, .inr ⟨w.heap.size, len, cells', rfl, Nat.zero_le _, heap_alloc_new w _, Nat.le_refl _, by unfold maxLen; omega, by omega, ?_⟩⟩
          rw [List.take_of_length_le (by simp; omega)]
        obtain ⟨E', g1, g2, _, g3, g4, g5⟩ := hg.row (d, 0) G (G + 1) (by rw [gq_of hq]; exact hG) e s len (.slice (some ⟨w.heap.size, 0, none⟩) len len) (w.alloc (.cells cells' e)) cells'.toList (.inr rfl)
          (fun b hb => .inl (by cases hb; exact Nat.le_refl _)) hown ((Chg.refl _ _).alloc _)
        have hmap : (List.map (fun p => (p.1, a.eval p.2)) parts).toArray.toList = parts.map fun p => (p.1, a.eval p.2) := by simp
        have hb : (Instr.buildSlice t len (List.map (fun p => (p.1, a.eval p.2)) parts).toArray).run P w = .ok (.slice (some ⟨w.heap.size, 0, none⟩) len len) (w.alloc (.cells cells' e)) := by
          unfold Instr.buildSlice
          have hbig : ¬ len * s > 2 ^ 24 := by omega
          simp only [Sem.run_bind, run_underlying hdt, hso, Result.andThen_ok, if_neg hbig, Sem.run_pure, hmap]
          by_cases h0 : len * s = 0
          · obtain rfl := hz0 h0
            simp only [if_pos h0, Sem.run_bind, Sem.run_pure, Result.andThen_ok, h1]
            rfl
          · obtain rfl := hz1 h0
            simp only [if_neg h0, Sem.run_bind, hzv, Sem.run_pure, Result.andThen_ok, h1]
            rfl
        refine ⟨_, _, E', ?_, g1, g5 (chunk s len cs) (chunk_length _ _ _) (rd_row hown (chunk_length _ _ _) (fun i hi => ?_) g3 (fun i j hi hj => ?_))⟩
        · simp only [execOp, List.map_toArray, Sem.run_bind, hb, Result.andThen_ok, Sem.run_pure]
        · rw [chunk_get, List.length_take, List.length_drop]
          rw [chunk_length] at hi
          have : (i + 1) * s ≤ len * s := Nat.mul_le_mul_right _ hi
          rw [Nat.add_mul, Nat.one_mul] at this
          omega
        · have hj0 := hj
          rw [chunk_get, List.length_take, List.length_drop] at hj
          have hlt : i * s + j < cs.length := by omega
          obtain ⟨u, hu, hru⟩ := h3 (i * s + j) hlt
          refine ⟨u, by simpa using hu, ?_⟩
          have he : (chunk s len cs)[i][j] = cs[i * s + j] := by
            simp only [chunk_get, List.getElem_take, List.getElem_drop]
          rw [he]; exact hru.mono g4
      · intro _ _ _ h; cases h
    · intro _ _ _ h; cases h
  · intro _ _ _ h; cases h
end
end Go.Proofs.YtojcjbaimdjhoaaGreatDoor
