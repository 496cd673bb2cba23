
/- What operations on memory do to abstract values. -/
import Derived.Test.YtojcjbaimdjhoaaGreatDoorR3
namespace Go.Proofs.YtojcjbaimdjhoaaGreatDoor
open Go.RowKit
set_option linter.unusedVariables false
set_option linter.unusedSimpArgs false

theorem addr_add (b o n : Nat) : (⟨b, o, none⟩ : Addr).add n = ⟨b, o + n, none⟩ := by unfold Addr.add; split <;> simp_all
def plainP : AV → V
  | .val x => x
  | .own _ _ _ sz es => .lst sz es
  | _ => .any
def plain : AV → V
  | .val x => x
  | .own _ _ _ sz es => .lst sz es
  | .ptr _ _ _ => .any
  | .ref _ _ => .any
  | .elp _ _ _ _ _ => .any
  | .ag xs => .agg (xs.map plainP)
  | .fn _ _ => .any
section
variable {P : Program} {ops : Array Oper} {C : Ctx} {E : Env} {σ : St} {a : Act} {w : World}
theorem plain_ok {x : AV} {v : Value} (h : RdA E σ x v) : Rd E.m (plain x) v := by
  cases x with
  | val x => exact h
  | own k g e sz es => exact h.1
  | ptr o g off => exact Rd.any _
  | ref => exact Rd.any _
  | elp => exact Rd.any _
  | fn => exact Rd.any _
  | ag xs =>
    obtain ⟨ys, rfl, h2, h3⟩ := h
    refine Rd.agg _ _ (by simpa using h2) fun i hi => ?_
    have hi' : i < xs.length := by simpa using hi
    have := h3 i hi' (by omega)
    rw [List.getElem_map]
    generalize xs[i] = x at this
    cases x with
    | val x => exact this
    | own k g e sz es => exact this.1
    | _ => exact Rd.any _

/-! ### fields -/
def stFieldA (P : Program) (σ : St) (d : Tmp) (s : TypeId) (x : Operand) (f : Nat) : Stp :=
  match tiOf P s with
  | some { sh := .strct, fields := fs, fok := true, .. } => match fs[f]? with
    | some (off, size, _) => match ev σ x with
      | .ptr o g i => some (size ≠ 0 ∧ gg σ o = g, rdl x ++ [.g o], [(.s d, .av (.ptr o g (i + off)))])
      | .val (.ep xs) => some (size ≠ 0, rdl x, [(.s d, .av (.val (.ep (xs.drop off))))])
      | _ => none
    | none => none
  | _ => none
theorem fieldAt_run {s : TypeId} {T : TI} {fs : List (Nat × Nat × Bool)} {f off size : Nat} {ag : Bool} {b i : Nat} (ht : tiOf P s = some T) (h1 : T.sh = .strct) (h2 : T.fields = fs) (h3 : T.fok = true) (hf : fs[f]? = some (off, size, ag)) (hs : size ≠ 0) (w : World) :
    (Instr.fieldAt s (.pointer (some ⟨b, i, none⟩)) f).run P w = .ok (.pointer (some ⟨b, i + off, none⟩)) w := by
  obtain ⟨ti, d, hi, hd, _, _, _, _, _, _, _, _, h4, _, _, _, h5, _⟩ := tiOf_some ht
  obtain ⟨F, rfl, h6⟩ := h4 h1
  rw [← h2, h6, List.getElem?_map] at hf
  cases hF : F.toList[f]? with
  | none => rw [hF] at hf; cases hf
  | some fl =>
    rw [hF] at hf
    simp only [Option.map_some, Option.some.injEq, Prod.mk.injEq] at hf
    obtain ⟨e1, e2, _⟩ := hf
    rw [h3] at h5
    have h7 : (P.info? fl.type).isSome = true := by
      have := List.all_eq_true.1 h5.symm fl (List.mem_of_getElem? hF)
      simpa using this
    obtain ⟨fi, hfi⟩ := Option.isSome_iff_exists.1 h7
    rw [hfi] at e2
    simp at e2
    have hF' : F[f]? = some fl := by simpa using hF
    simp [Instr.fieldAt, run_underlying hd, hF', Instr.sureAddr, fieldPlace, sizeOf, typeInfo, hfi, e2, hs, addr_add, e1]
theorem ok_fieldA (d : Tmp) (s : TypeId) (x : Operand) (f : Nat) : StOk P C σ (some d) (.fieldAddr s x f) (stFieldA P σ d s x f) := by
  unfold stFieldA
  split
  · rename_i T ag sz by_ z e fs zk ht
    split
    · rename_i off size ag2 hf
      split
      · rename_i o g i hx
        refine ok_pure fun hc ty pos af E σ' a w hr hg => ?_
        obtain ⟨h1, h2⟩ := mem_l hr
        have h3 := ev_ok hg x
        rw [ev_congr h1, hx] at h3
        have h4 := h3.2 (by rw [gg_of (h2 (.g o) (by simp))]; exact hc.2.symm)
        refine ⟨.pointer (some ⟨E.loc o, i + off, none⟩), ?_, ?_⟩
        · simp [execOp, h4, fieldAt_run ht rfl rfl rfl hf hc.1]
        · exact ⟨h3.1, fun _ => rfl⟩
      · rename_i xs hx
        refine ok_pure fun hc ty pos af E σ' a w hr hg => ?_
        have h3 := ev_ok hg x
        rw [ev_congr hr, hx] at h3
        have h3 : Rd E.m (.ep xs) (a.eval x) := h3
        generalize hv : a.eval x = v at h3
        cases h3 with
        | ep _ b i f hm hrd =>
          refine ⟨.pointer (some ⟨b, i + off, none⟩), ?_, ?_⟩
          · simp [execOp, hv, fieldAt_run ht rfl rfl rfl hf hc]
          · refine Rd.ep _ b (i + off) (fun j => f (off + j)) (fun j hj => ?_) (fun j hj => ?_)
            · rw [List.length_drop] at hj; have := hm (off + j) (by omega); rwa [← Nat.add_assoc] at this
            · rw [List.length_drop] at hj; have := hrd (off + j) (by omega); simpa using this
      · intro _ _ _ h; cases h
    · intro _ _ _ h; cases h
  · intro _ _ _ h; cases h

/-! ### loads -/
def cellAV (σ : St) (o : Id) (i : Nat) : AV := match σ (.c o i) with | .av x => x | _ => .val .any
def cellsV (σ : St) (o : Id) : Nat → Nat → List V
  | _, 0 => []
  | i, n + 1 => plain (cellAV σ o i) :: cellsV σ o (i + 1) n
def cellsL (o : Id) : Nat → Nat → List Pl
  | _, 0 => []
  | i, n + 1 => .c o i :: cellsL o (i + 1) n
theorem cellsL_mem (o : Id) : ∀ (n i j : Nat), j < n → Pl.c o (i + j) ∈ cellsL o i n
  | n + 1, i, 0, _ => by simp [cellsL]
  | n + 1, i, j + 1, h => by
    have := cellsL_mem o n (i + 1) j (by omega)
    rw [show i + (j + 1) = i + 1 + j by omega]
    simp [cellsL, this]
theorem cellsV_length (σ : St) (o : Id) : ∀ (n i : Nat), (cellsV σ o i n).length = n
  | 0, _ => rfl
  | n + 1, i => by simp [cellsV, cellsV_length σ o n (i + 1)]
theorem cellsV_get (σ : St) (o : Id) : ∀ (n i j : Nat) (h : j < (cellsV σ o i n).length), (cellsV σ o i n)[j] = plain (cellAV σ o (i + j))
  | n + 1, i, 0, h => rfl
  | n + 1, i, j + 1, h => by
    show (cellsV σ o (i + 1) n)[j]'_ = _
    rw [cellsV_get σ o n (i + 1) j, show i + (j + 1) = i + 1 + j by omega]
theorem cellAV_ok (h : Gm C E σ a w) {o : Id} {n i : Nat} (ho : σ (.o o) = .num n) (hi : i < n) : ∃ v, w.cell? ⟨E.loc o, i, none⟩ = some v ∧ RdA E σ (cellAV σ o i) v := by
  unfold cellAV
  split
  · rename_i x hx; exact h.ce o i x n hx ho hi
  · obtain ⟨⟨cs, ty, h1, h2⟩, _⟩ := h.ob o n ho
    exact ⟨cs[i]'(h2 ▸ hi), by rw [cell_of_row _ _ _ _ _ _ h1]; simp [h2 ▸ hi], Rd.any _⟩
theorem isAgg_run {t : TypeId} {T : TI} (ht : tiOf P t = some T) (w : World) : (isAgg t).run P w = .ok T.agg w := by
  obtain ⟨ti, d, hi, hd, _, _, h3, _⟩ := tiOf_some ht
  rw [h3]
  unfold isAgg
  simp only [Sem.run_bind, run_underlying hd, Result.andThen_ok]
  cases d <;> rfl
theorem sizeOf_run {t : TypeId} {T : TI} (ht : tiOf P t = some T) (w : World) : (sizeOf t).run P w = .ok T.size w := by
  obtain ⟨ti, d, hi, hd, h3, _⟩ := tiOf_some ht
  simp [sizeOf, typeInfo, hi, h3]
theorem zero_run {t : TypeId} {T : TI} (ht : tiOf P t = some T) (hz : T.zok = true) (w : World) : ∃ z, (zeroValue t).run P w = .ok z w ∧ z.cells.toList = T.zero := by
  obtain ⟨ti, d, hi, hd, _, _, _, _, _, _, _, _, _, h4, _, _, _, h5⟩ := tiOf_some ht
  rw [hz] at h5
  obtain ⟨z, hz⟩ := Option.isSome_iff_exists.1 h5.symm
  refine ⟨z, by simp [zeroValue, typeInfo, hi, hz], by rw [h4, hz]⟩
def stLoad (P : Program) (σ : St) (d : Tmp) (t : TypeId) (x : Operand) : Stp :=
  match tiOf P t, ev σ x with
  | some { agg := false, .. }, .ptr o g i => match σ (.o o) with
    | .num n => some (gg σ o = g ∧ i < n, rdl x ++ [.g o, .o o, .c o i], [(.s d, .av (cellAV σ o i))])
    | _ => none
  | some { agg := true, size := s, .. }, .ptr o g i => match σ (.o o) with
    | .num n => some (gg σ o = g ∧ i + s ≤ n, rdl x ++ (.g o :: .o o :: cellsL o i s), [(.s d, .av (.val (.agg (cellsV σ o i s))))])
    | _ => none
  | some { agg := false, .. }, .val (.ep (y :: _)) => some (True, rdl x, [(.s d, .av (.val y))])
  | some { agg := true, size := s, .. }, .val (.ep xs) => some (s ≤ xs.length, rdl x, [(.s d, .av (.val (.agg (xs.take s))))])
  | _, _ => none
theorem cellAV_congr {σ σ' : St} {o : Id} {i : Nat} (h : σ' (.c o i) = σ (.c o i)) : cellAV σ' o i = cellAV σ o i := by unfold cellAV; rw [h]
theorem ok_load (d : Tmp) (t : TypeId) (x : Operand) : StOk P C σ (some d) (.load t x) (stLoad P σ d t x) := by
  unfold stLoad
  split
  · rename_i _ _ _ _ _ _ _ _ _ o g i ht hx
    split
    · rename_i n hn
      refine ok_pure fun hc ty pos af E σ' a w hr hg => ?_
      obtain ⟨h1, h2⟩ := mem_l hr
      have h3 := ev_ok hg x
      rw [ev_congr h1, hx] at h3
      have h4 := h3.2 (by rw [gg_of (h2 (.g o) (by simp))]; exact hc.1.symm)
      obtain ⟨v, hv, hrd⟩ := cellAV_ok hg (o := o) (n := n) (i := i) (by rw [h2 (.o o) (by simp)]; exact hn) hc.2
      rw [cellAV_congr (h2 (.c o i) (by simp))] at hrd
      exact ⟨v, by simp [execOp, h4, Instr.loadAt, Instr.sureAddr, loadVar, isAgg_run ht, hv], hrd⟩
    · intro _ _ _ h; cases h
  · rename_i _ s _ _ _ _ _ _ o g i ht hx
    split
    · rename_i n hn
      refine ok_pure fun hc ty pos af E σ' a w hr hg => ?_
      obtain ⟨h1, h2⟩ := mem_l hr
      have h3 := ev_ok hg x
      rw [ev_congr h1, hx] at h3
      have h4 := h3.2 (by rw [gg_of (h2 (.g o) (by simp))]; exact hc.1.symm)
      have hcell : ∀ j, j < s → ∃ v, w.cell? ⟨E.loc o, i + j, none⟩ = some v ∧ Rd E.m (plain (cellAV σ o (i + j))) v := fun j hj => by
        obtain ⟨v, hv, hrd⟩ := cellAV_ok hg (o := o) (n := n) (i := i + j) (by rw [h2 (.o o) (by simp)]; exact hn) (by omega)
        rw [cellAV_congr (h2 (.c o (i + j)) (by simp [cellsL_mem o s i j hj]))] at hrd
        exact ⟨v, hv, plain_ok hrd⟩
      obtain ⟨f, hf⟩ : ∃ f : Nat → Value, ∀ j, j < s → w.cell? ⟨E.loc o, i + j, none⟩ = some (f j) ∧ Rd E.m (plain (cellAV σ o (i + j))) (f j) :=
        ⟨fun j => if h : j < s then (hcell j h).choose else undef, fun j h => by simp only [dif_pos h]; exact (hcell j h).choose_spec⟩
      have hl := run_loadCells (P := P) w ⟨E.loc o, i, none⟩ s f (fun j hj => by rw [addr_add]; exact (hf j hj).1)
      refine ⟨.agg ((List.range s).map f).toArray, by simp [execOp, h4, Instr.loadAt, Instr.sureAddr, loadVar, isAgg_run ht, sizeOf_run ht, hl], ?_⟩
      refine Rd.agg _ _ (by simp [cellsV_length]) (fun j hj => ?_)
      rw [cellsV_get]
      rw [cellsV_length] at hj
      simpa using (hf j hj).2
    · intro _ _ _ h; cases h
  · rename_i _ _ _ _ _ _ _ _ _ y ys ht hx
    refine ok_pure fun hc ty pos af E σ' a w hr hg => ?_
    have h3 := ev_ok hg x
    rw [ev_congr hr, hx] at h3
    have h3 : Rd E.m (.ep (y :: ys)) (a.eval x) := h3
    generalize hv : a.eval x = v at h3
    cases h3 with
    | ep _ b i f hm hrd =>
      have h5 := hg.ms _ _ _ (hm 0 (by simp))
      exact ⟨f 0, by simp at h5; simp [execOp, hv, Instr.loadAt, Instr.sureAddr, loadVar, isAgg_run ht, h5], hrd 0 (by simp)⟩
  · rename_i _ s _ _ _ _ _ _ xs ht hx
    refine ok_pure fun hc ty pos af E σ' a w hr hg => ?_
    have h3 := ev_ok hg x
    rw [ev_congr hr, hx] at h3
    have h3 : Rd E.m (.ep xs) (a.eval x) := h3
    generalize hv : a.eval x = v at h3
    cases h3 with
    | ep _ b i f hm hrd =>
      have hl := run_loadCells (P := P) w ⟨b, i, none⟩ s f (fun j hj => by rw [addr_add]; exact hg.ms _ _ _ (hm j (by omega)))
      refine ⟨.agg ((List.range s).map f).toArray, by simp [execOp, hv, Instr.loadAt, Instr.sureAddr, loadVar, isAgg_run ht, sizeOf_run ht, hl], ?_⟩
      refine Rd.agg _ _ (by simp; omega) (fun j hj => ?_)
      have hj' : j < xs.length := by rw [List.length_take] at hj; omega
      have := hrd j hj'
      simpa using this
  · intro _ _ _ h; cases h

/-! ### stores -/
def oneV : V → Bool
  | .sc v => v.oneCell'
  | .lst _ _ | .ep _ | .ifc _ _ => true
  | _ => false
def liveL : AV → List Pl
  | .ptr o _ _ => [.g o]
  | .ref k _ => [.h k, .r k]
  | _ => []
def isTree : X → Prop
  | .tree _ => True
  | _ => False
def oneA (σ : St) : AV → Prop
  | .val x => oneV x = true
  | .own .. => True
  | .ptr o g _ => gg σ o = g
  | .ref k g => gh σ k = g ∧ isTree (σ (.r k))
  | .fn _ _ => True
  | _ => False
theorem oneV_ok {m : Mem} {x : V} {v : Value} (h : Rd m x v) (ho : oneV x = true) : v.oneCell' = true := by
  cases h <;> simp [oneV, Value.oneCell'] at ho ⊢
  exact ho
theorem Hg.one {m : Mem} {w : World} {x : T} {v : Value} {F : List Nat} (h : Hg m w [x] [v] F) (hx : ∀ y, x ≠ .av y) : v.oneCell' = true := by
  cases h with
  | av => exact absurd rfl (hx _)
  | box => rfl
  | row ho => rcases ho.2 with ⟨h, _⟩ | ⟨_, _, _, h, _⟩ <;> rw [h] <;> rfl
  | rw ho => rcases ho.2 with ⟨h, _⟩ | ⟨_, _, _, h, _⟩ <;> rw [h] <;> rfl
  | mp => rfl
theorem oneA_ok {x : AV} {v : Value} (hg : Gm C E σ a w) (h : RdA E σ x v) (ho : oneA σ x) : v.oneCell' = true := by
  cases x with
  | val x => exact oneV_ok h ho
  | own k g e sz es => exact oneV_ok h.1 rfl
  | ptr o g off => rw [h.2 (Eq.symm ho)]; rfl
  | ref k g =>
    obtain ⟨h1, h2⟩ := ho
    rw [h.2 h1.symm]
    unfold isTree at h2
    split at h2
    · rename_i y hy
      obtain ⟨h3, h4⟩ := hg.tr.hg k y hy
      exact h3.one h4
    · exact h2.elim
  | fn => obtain ⟨ys, rfl, _⟩ := h; rfl
  | _ => exact ho.elim
theorem oneA_congr {σ' : St} {x : AV} (h : ∀ l ∈ liveL x, σ' l = σ l) (ho : oneA σ x) : oneA σ' x := by
  cases x with
  | val => exact ho
  | own => trivial
  | ptr o g i => show gg σ' o = _; rw [gg_of (h _ (by simp [liveL]))]; exact ho
  | ref k g => exact ⟨by rw [gh_of (h _ (by simp [liveL]))]; exact ho.1, by rw [h _ (by simp [liveL])]; exact ho.2⟩
  | fn => trivial
  | _ => exact ho.elim
theorem one_cells {v : Value} (h : v.oneCell' = true) : v.cells = #[v] := by cases v <;> simp [Value.oneCell'] at h <;> rfl
theorem run_store_one {v : Value} (h : v.oneCell' = true) {x : Addr} {u : Value} (hc : w.cell? x = some u) (hf : w.frozen? x = false) : (Go.store x v).run P w = .ok () (w.setCell x v) := by
  cases v <;> simp [Value.oneCell'] at h <;> simp [Go.store, Sem.run, hc, hf]
theorem store_cells {o : Id} {n : Nat} : ∀ (vs : List Value) (xs : List V) (i j : Nat) (E : Env) (σ : St) (w : World), Gm C E σ a w → σ (.o o) = .num n → i + j + vs.length ≤ n → vs.length = xs.length →
    (∀ k (h : k < vs.length) (h' : k < xs.length), Rd E.m xs[k] vs[k]) → (∀ v ∈ vs, v.oneCell' = true) → ∃ w', (storeCells ⟨E.loc o, i, none⟩ vs j).run P w = .ok () w' ∧ Gm C E (puts σ (cellsW o (i + j) (xs.map .val))) a w'
  | [], [], i, j, E, σ, w, hg, ho, _, _, _, _ => ⟨w, by simp [storeCells], hg⟩
  | v :: vs, y :: xs, i, j, E, σ, w, hg, ho, hn, hl, hr, h1 => by
    have h0 := hr 0 (by simp) (by simp)
    simp at h0
    obtain ⟨hs, ⟨u, hu⟩, hf⟩ := hg.store o n (i + j) ho (by simp at hn; omega) (.val y) v h0
    obtain ⟨w', hw, hg'⟩ := store_cells vs xs i (j + 1) E _ _ hs (by rw [put_ne _ _ (by simp)]; exact ho) (by simp at hn; omega) (by simpa using hl)
      (fun k h h' => by have := hr (k + 1) (by simpa using h) (by simpa using h'); simpa using this) (fun v hv => h1 v (by simp [hv]))
    refine ⟨w', ?_, hg'⟩
    simp only [storeCells, addr_add, Sem.run_bind, run_store_one (h1 v (by simp)) hu hf, Result.andThen_ok]
    exact hw
def stStore (P : Program) (σ : St) (t : TypeId) (x y : Operand) : Stp :=
  match tiOf P t, ev σ x with
  | some { agg := false, size := s, .. }, .ptr o g i => match σ (.o o) with
    | .num n => some (s = 1 ∧ gg σ o = g ∧ i < n ∧ oneA σ (ev σ y), rdl x ++ (rdl y ++ (.g o :: .o o :: liveL (ev σ y))), [(.c o i, .av (ev σ y))])
    | _ => none
  | some { agg := true, size := s, .. }, .ptr o g i => match σ (.o o), ev σ y with
    | .num n, .val (.agg xs) => some (xs.length = s ∧ gg σ o = g ∧ i + s ≤ n ∧ xs.all oneV = true, rdl x ++ (rdl y ++ [.g o, .o o]), cellsW o i (xs.map .val))
    | _, _ => none
  | _, _ => none
theorem ok_store (t : TypeId) (x y : Operand) : StOk P C σ none (.store t x y) (stStore P σ t x y) := by
  unfold stStore
  split
  · rename_i _ s _ _ _ _ _ _ o g i ht hx
    split
    · rename_i n hn
      intro c' L' W' he hc ops ty pos af E σ' a w K Q hd hr hg hK
      simp only [Option.some.injEq, Prod.mk.injEq] at he
      obtain ⟨rfl, rfl, rfl⟩ := he
      obtain ⟨h1, h2⟩ := mem_l (rds_all hr)
      obtain ⟨h2, h2'⟩ := mem_l h2
      have h3 := ev_ok hg x
      rw [ev_congr h1, hx] at h3
      have h4 := h3.2 (by rw [gg_of (h2' (.g o) (by simp))]; exact hc.2.1.symm)
      have h5 := ev_ok hg y
      rw [ev_congr h2] at h5
      have h6 : (a.eval y).oneCell' = true := oneA_ok hg h5 (oneA_congr (fun l hl => h2' l (List.mem_cons_of_mem _ (List.mem_cons_of_mem _ hl))) hc.2.2.2)
      obtain ⟨hs, ⟨u, hu⟩, hf⟩ := hg.store o n i (by rw [h2' (.o o) (by simp)]; exact hn) hc.2.2.1 _ _ h5
      rw [if_pos (by simp [Region.wanted])]
      have hrun : (execOp a.eval ⟨none, .store t x y, ty, pos, af, none⟩).run P w = .ok .skip (w.setCell ⟨E.loc o, i, none⟩ (a.eval y)) := by
        have hsz := sizeOf_run (P := P) ht w
        simp only [hc.1] at hsz
        simp [execOp, h4, Instr.storeAt, Instr.sureAddr, storeVar, hsz, one_cells h6, storeCells, addr_add, run_store_one h6 hu hf]
      show Oper.upon _ _ _ _ _ _
      rw [hrun]
      exact hK _ _ E hs
    · intro _ _ _ h; cases h
  · rename_i _ s _ _ _ _ _ _ o g i ht hx
    split
    · rename_i n xs hn hy
      intro c' L' W' he hc ops ty pos af E σ' a w K Q hd hr hg hK
      simp only [Option.some.injEq, Prod.mk.injEq] at he
      obtain ⟨rfl, rfl, rfl⟩ := he
      obtain ⟨h1, h2⟩ := mem_l (rds_all hr)
      obtain ⟨h2, h2'⟩ := mem_l h2
      have h3 := ev_ok hg x
      rw [ev_congr h1, hx] at h3
      have h4 := h3.2 (by rw [gg_of (h2' (.g o) (by simp))]; exact hc.2.1.symm)
      have h5 := ev_ok hg y
      rw [ev_congr h2, hy] at h5
      have h5 : Rd E.m (.agg xs) (a.eval y) := h5
      generalize hv : a.eval y = v at h5
      cases h5 with
      | agg _ ys hl hrd =>
        obtain ⟨hc1, hc2, hc3, hc4⟩ := hc
        obtain ⟨w', hw, hg'⟩ := store_cells (P := P) (o := o) (n := n) ys.toList xs i 0 E σ' w hg (by rw [h2' (.o o) (by simp)]; exact hn) (by simp; omega) (by simpa using hl)
          (fun k h h' => by have := hrd k h'; simpa using this) (fun v hv => by
            obtain ⟨k, hk, rfl⟩ := List.getElem_of_mem hv
            have hk' : k < xs.length := by simp at hk; omega
            have := hrd k hk'
            have h1 := List.all_eq_true.1 hc4 xs[k] (by simp)
            simpa using oneV_ok this h1)
        rw [if_pos (by simp [Region.wanted])]
        have hrun : (execOp a.eval ⟨none, .store t x y, ty, pos, af, none⟩).run P w = .ok .skip w' := by
          have hsz := sizeOf_run (P := P) ht w
          have hcl : (Value.agg ys).cells = ys := rfl
          simp [execOp, h4, hv, Instr.storeAt, Instr.sureAddr, storeVar, hsz, hcl, hl, hc1, hw]
        show Oper.upon _ _ _ _ _ _
        rw [hrun]
        exact hK _ _ E (by simpa [Act.put] using hg')
    · intro _ _ _ h; cases h
  · intro _ _ _ h; cases h

/-! ### new objects -/
def stAlloc (P : Program) (σ : St) (d : Tmp) (t : TypeId) : Stp :=
  match tiOf P t with
  | some { zero := z, zok := true, .. } => some (True, [.g (d, 0)], newW (d, 0) (gg σ (d, 0)) z.length (z.map fun v => .val (.sc v)) ++ [(.s d, .av (.ptr (d, 0) (gg σ (d, 0) + 1) 0))])
  | _ => none
theorem ok_alloc (d : Tmp) (t : TypeId) : StOk P C σ (some d) (.alloc t) (stAlloc P σ d t) := by
  unfold stAlloc
  split
  · rename_i _ _ _ _ z _ _ _ ht
    refine ok_value fun hc ty pos af E σ' a w hr hg hd => ?_
    obtain ⟨v, hv, hz⟩ := zero_run ht rfl w
    have hz : v.cells.toList = z := hz
    subst hz
    obtain ⟨E', h1, h2, h3⟩ := hg.object (d, 0) (gg σ (d, 0)) (gg_of (hr _ (by simp))) t v.cells (v.cells.toList.map fun v => AV.val (.sc v)) (by simp) (fun i hi => by simp; exact Rd.sc _) (C.np d hd) rfl
    simp only [List.length_map] at h1 h3
    exact ⟨.pointer (some ⟨w.heap.size, 0, none⟩), _, E', by simp [execOp, Instr.alloc, hv, newVar, newRow, newObj]; rfl, h1, h3⟩
  · intro _ _ _ h; cases h
def stBox (σ : St) (d : Tmp) (x : Operand) : Stp :=
  match ev σ x with
  | .val (.agg xs) => some (True, .g (d, 0) :: rdl x, newW (d, 0) (gg σ (d, 0)) xs.length (xs.map .val) ++ [(.s d, .av (.ptr (d, 0) (gg σ (d, 0) + 1) 0))])
  | y => some (oneA σ y, .g (d, 0) :: (rdl x ++ liveL y), newW (d, 0) (gg σ (d, 0)) 1 [y] ++ [(.s d, .av (.ptr (d, 0) (gg σ (d, 0) + 1) 0))])
theorem ok_box (d : Tmp) (t : TypeId) (x : Operand) : StOk P C σ (some d) (.box t x) (stBox σ d x) := by
  unfold stBox
  split
  · rename_i xs hx
    refine ok_value fun hc ty pos af E σ' a w hr hg hd => ?_
    have h5 := ev_ok hg x
    rw [ev_congr (fun l hl => hr l (by simp [hl])), hx] at h5
    have h5 : Rd E.m (.agg xs) (a.eval x) := h5
    generalize hv : a.eval x = v at h5
    cases h5 with
    | agg _ ys hl hrd =>
      obtain ⟨E', h1, h2, h3⟩ := hg.object (d, 0) (gg σ (d, 0)) (gg_of (hr _ (by simp))) t ys (xs.map AV.val) (by simpa using hl) (fun i hi => by simp at hi; simp; exact hrd i hi) (C.np d hd) rfl
      simp only [List.length_map] at h1 h3
      exact ⟨.pointer (some ⟨w.heap.size, 0, none⟩), _, E', by simp [execOp, hv, Instr.box, Value.cells, newVar, newRow, newObj]; rfl, h1, h3⟩
  · rename_i y hy
    refine ok_value fun hc ty pos af E σ' a w hr hg hd => ?_
    have hr1 : ∀ l ∈ rdl x ++ liveL (ev σ x), σ' l = σ l := fun l hl => hr l (List.mem_cons_of_mem _ hl)
    obtain ⟨h1, h2⟩ := mem_l hr1
    have h5 := ev_ok hg x
    rw [ev_congr h1] at h5
    have h6 : (a.eval x).oneCell' = true := oneA_ok hg h5 (oneA_congr h2 hc)
    obtain ⟨E', h1, h2, h3⟩ := hg.object (d, 0) (gg σ (d, 0)) (gg_of (hr _ (by simp))) t #[a.eval x] [ev σ x] rfl (fun i hi => by
      simp at hi; subst hi; exact h5) (C.np d hd) rfl
    exact ⟨.pointer (some ⟨w.heap.size, 0, none⟩), _, E', by simp [execOp, Instr.box, one_cells h6, newVar, newRow, newObj]; rfl, h1, h3⟩
end
end Go.Proofs.YtojcjbaimdjhoaaGreatDoor
