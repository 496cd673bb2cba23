
/- Maps that are owned whole. -/
import Derived.Test.YtojcjbaimdjhoaaGreatDoorRT1
import Derived.ChangeMaps4
namespace Go.Proofs.YtojcjbaimdjhoaaGreatDoor
open Go.RowKit
set_option linter.unusedVariables false
set_option linter.unusedSimpArgs false

/-! ### What is known of a map -/
open Classical in
noncomputable def kvGet : List (Value × T) → Value → Option T
  | [], _ => none
  | p :: l, k => if p.1 = k then some p.2 else kvGet l k
open Classical in
noncomputable def kvSet : List (Value × T) → Value → T → List (Value × T)
  | [], k, x => [(k, x)]
  | p :: l, k, x => if p.1 = k then (k, x) :: l else p :: kvSet l k x
open Classical in
noncomputable def kvDel : List (Value × T) → Value → List (Value × T)
  | [], _ => []
  | p :: l, k => if p.1 = k then l else p :: kvDel l k
theorem kvSet_nil {k : Value} {x : T} : kvSet [] k x = [(k, x)] := rfl
open Classical in
theorem kvSet_cons {p : Value × T} {l : List (Value × T)} {k : Value} {x : T} : kvSet (p :: l) k x = if p.1 = k then (k, x) :: l else p :: kvSet l k x := rfl
theorem kvGet_nil {k : Value} : kvGet [] k = none := rfl
open Classical in
theorem kvGet_cons {p : Value × T} {l : List (Value × T)} {k : Value} : kvGet (p :: l) k = if p.1 = k then some p.2 else kvGet l k := rfl
theorem kvGet_none : ∀ {l : List (Value × T)} {k : Value}, k ∉ l.map (·.1) → kvGet l k = none
  | [], _, _ => rfl
  | p :: l, k, h => by
    simp only [List.map_cons, List.mem_cons, not_or] at h
    rw [kvGet, if_neg (fun e => h.1 e.symm), kvGet_none h.2]
theorem kvSet_none : ∀ {l : List (Value × T)} {k : Value} {x : T}, k ∉ l.map (·.1) → kvSet l k x = l ++ [(k, x)]
  | [], _, _, _ => rfl
  | p :: l, k, x, h => by
    simp only [List.map_cons, List.mem_cons, not_or] at h
    rw [kvSet, if_neg (fun e => h.1 e.symm), kvSet_none h.2]; rfl
theorem kvDel_none : ∀ {l : List (Value × T)} {k : Value}, k ∉ l.map (·.1) → kvDel l k = l
  | [], _, _ => rfl
  | p :: l, k, h => by
    simp only [List.map_cons, List.mem_cons, not_or] at h
    rw [kvDel, if_neg (fun e => h.1 e.symm), kvDel_none h.2]
theorem kv_at : ∀ {l : List (Value × T)} {k : Value} {y : T} {j : Nat}, (l.map (·.1)).Nodup → l[j]? = some (k, y) → kvGet l k = some y ∧ (∀ x, kvSet l k x = l.set j (k, x)) ∧ kvDel l k = l.eraseIdx j
  | p :: l, k, y, 0, _, h => by
    simp at h; subst h
    exact ⟨by rw [kvGet, if_pos rfl], fun x => by rw [kvSet, if_pos rfl]; rfl, by rw [kvDel, if_pos rfl]; rfl⟩
  | p :: l, k, y, j + 1, hn, h => by
    have h : l[j]? = some (k, y) := by simpa using h
    rw [List.map_cons, List.nodup_cons] at hn
    have hne : p.1 ≠ k := fun e => hn.1 (e ▸ List.mem_map.2 ⟨_, List.mem_of_getElem? h, rfl⟩)
    obtain ⟨h1, h2, h3⟩ := kv_at hn.2 h
    exact ⟨by rw [kvGet, if_neg hne, h1], fun x => by rw [kvSet, if_neg hne, h2]; rfl, by rw [kvDel, if_neg hne, h3]; rfl⟩
theorem kvSet_keys {l : List (Value × T)} {k : Value} {x : T} (hn : (l.map (·.1)).Nodup) : ((kvSet l k x).map (·.1)).Nodup := by
  by_cases h : k ∈ l.map (·.1)
  · obtain ⟨p, hp, rfl⟩ := List.mem_map.1 h
    obtain ⟨j, hj⟩ := List.getElem?_of_mem hp
    rw [(kv_at hn (y := p.2) hj).2.1 x, List.map_set]
    have : (l.map (·.1)).set j p.1 = l.map (·.1) := by
      apply List.ext_getElem?
      intro i
      rw [List.getElem?_set]
      split
      · rename_i e; subst e
        split
        · rw [List.getElem?_map, hj]; rfl
        · rename_i h; rw [List.getElem?_eq_none (by omega)]
      · rfl
    rw [this]; exact hn
  · rw [kvSet_none h, List.map_append, List.map_cons, List.map_nil]
    exact List.nodup_append.2 ⟨hn, by simp, fun a ha b hb => by simp at hb; subst hb; exact fun e => h (e ▸ ha)⟩

/-! ### What the world holds -/
section
variable {m : Mem} {w : World}
theorem mp_inv {kvs : List (Value × T)} {v : Value} {F : List Nat} (h : Hg m w [.mp kvs] [v] F) : ∃ b ents clock F1, v = .map (some b) ∧ w.heap[b]? = some (.map ents clock) ∧ (∀ i, m b i = none) ∧ ents.toList.map (·.key) = kvs.map (·.1) ∧
    (kvs.map (·.1)).Nodup ∧ (ents.toList.map (·.born)).Nodup ∧ (∀ e ∈ ents.toList, e.born < clock) ∧ Hg m w (kvs.map (·.2)) (ents.toList.map (·.val)) F1 ∧ b ∉ F1 ∧ F = b :: F1 := by
  cases h with
  | mp hb hm hk hk2 hn hc h hs h1 h2 h3 => cases hs; exact ⟨_, _, _, _, rfl, hb, hm, hk, hk2, hn, hc, h, h1, by simp⟩
theorem mp_mk {kvs : List (Value × T)} {b : Nat} {ents : Array MapEntry} {clock : Nat} {F : List Nat} (hb : w.heap[b]? = some (.map ents clock)) (hm : ∀ i, m b i = none) (hk : ents.toList.map (·.key) = kvs.map (·.1)) (hk2 : (kvs.map (·.1)).Nodup) (hn : (ents.toList.map (·.born)).Nodup) (hc : ∀ e ∈ ents.toList, e.born < clock)
    (h : Hg m w (kvs.map (·.2)) (ents.toList.map (·.val)) F) (h1 : b ∉ F) : Hg m w [.mp kvs] [.map (some b)] (b :: F) := by
  have := Hg.mp hb hm hk hk2 hn hc h .nil h1 (by simp) (by simp)
  simpa using this
theorem Hg.get_av : ∀ {xs : List T} {vs : List Value} {F : List Nat} {j : Nat} {x : V}, Hg m w xs vs F → xs[j]? = some (.av x) → ∃ u, vs[j]? = some u ∧ Rd m x u := by
  intro xs vs F j x h
  induction h generalizing j with
  | nil => intro hj; simp at hj
  | av h0 _ ih =>
    intro hj
    cases j with
    | zero => simp at hj; subst hj; exact ⟨_, rfl, h0⟩
    | succ j => exact ih (by simpa using hj)
  | box _ _ _ _ _ _ _ _ ih => intro hj; cases j with | zero => simp at hj | succ j => exact ih (by simpa using hj)
  | row _ _ _ _ _ _ _ ih => intro hj; cases j with | zero => simp at hj | succ j => exact ih (by simpa using hj)
  | rw _ _ _ _ _ ih => intro hj; cases j with | zero => simp at hj | succ j => exact ih (by simpa using hj)
  | mp _ _ _ _ _ _ _ _ _ _ _ _ ih => intro hj; cases j with | zero => simp at hj | succ j => exact ih (by simpa using hj)
theorem Hg.push_av {xs : List T} {vs : List Value} {F : List Nat} {x : V} {u : Value} (h : Hg m w xs vs F) (hr : Rd m x u) : Hg m w (xs ++ [.av x]) (vs ++ [u]) F := by
  induction h with
  | nil => exact .av hr .nil
  | av h0 _ ih => exact .av h0 ih
  | box a1 a2 a3 _ a5 a6 a7 _ ih => exact .box a1 a2 a3 ih a5 a6 a7
  | row a1 a2 a3 a4 _ a6 _ ih => exact .row a1 a2 a3 a4 ih a6
  | rw a1 a2 a3 a4 _ ih => exact .rw a1 a2 a3 a4 ih
  | mp a1 a2 a3 a4 a5 a6 a7 _ a9 a10 a11 _ ih => exact .mp a1 a2 a3 a4 a5 a6 a7 ih a9 a10 a11
theorem Hg.set_av {xs : List T} {vs : List Value} {F : List Nat} {x : V} {u : Value} (h : Hg m w xs vs F) (hr : Rd m x u) : ∀ j, j < xs.length → ∃ F', Hg m w (xs.set j (.av x)) (vs.set j u) F' ∧ ∀ b ∈ F', b ∈ F := by
  induction h with
  | nil => intro j hj; simp at hj
  | av h0 hs ih =>
    intro j hj
    cases j with
    | zero => exact ⟨_, .av hr hs, fun b h => h⟩
    | succ j => obtain ⟨F', h1, h2⟩ := ih j (by simpa using hj); exact ⟨F', .av h0 h1, h2⟩
  | box a1 a2 a3 hs a5 a6 a7 _ ih =>
    intro j hj
    cases j with
    | zero => exact ⟨_, .av hr hs, fun b h => List.mem_cons_of_mem _ (List.mem_append_right _ h)⟩
    | succ j =>
      obtain ⟨F', h1, h2⟩ := ih j (by simpa using hj)
      refine ⟨_, .box a1 a2 a3 h1 a5 (fun h => a6 (h2 _ h)) (fun i hi hF => a7 i hi (h2 _ hF)), fun b h => ?_⟩
      rcases List.mem_cons.1 h with rfl | h
      · simp
      · rcases List.mem_append.1 h with h | h
        · exact List.mem_cons_of_mem _ (List.mem_append_left _ h)
        · exact List.mem_cons_of_mem _ (List.mem_append_right _ (h2 _ h))
  | row a1 a2 a3 a4 hs a6 _ ih =>
    intro j hj
    cases j with
    | zero => exact ⟨_, .av hr hs, fun b h => List.mem_append_right _ (List.mem_append_right _ h)⟩
    | succ j =>
      obtain ⟨F', h1, h2⟩ := ih j (by simpa using hj)
      refine ⟨_, .row a1 a2 (fun b hb => ⟨(a3 b hb).1, (a3 b hb).2.1, fun h => (a3 b hb).2.2 (h2 _ h)⟩) a4 h1 (fun i hi hF => a6 i hi (h2 _ hF)), fun b h => ?_⟩
      rcases List.mem_append.1 h with h | h
      · exact List.mem_append_left _ h
      · rcases List.mem_append.1 h with h | h
        · exact List.mem_append_right _ (List.mem_append_left _ h)
        · exact List.mem_append_right _ (List.mem_append_right _ (h2 _ h))
  | rw a1 a2 a3 a4 hs ih =>
    intro j hj
    cases j with
    | zero => exact ⟨_, .av hr hs, fun b h => List.mem_append_right _ h⟩
    | succ j =>
      obtain ⟨F', h1, h2⟩ := ih j (by simpa using hj)
      refine ⟨_, .rw a1 a2 a3 (fun b hb => ⟨(a4 b hb).1, fun h => (a4 b hb).2 (h2 _ h)⟩) h1, fun b h => ?_⟩
      rcases List.mem_append.1 h with h | h
      · exact List.mem_append_left _ h
      · exact List.mem_append_right _ (h2 _ h)
  | mp a1 a2 a3 a4 a5 a6 a7 hs a9 a10 a11 _ ih =>
    intro j hj
    cases j with
    | zero => exact ⟨_, .av hr hs, fun b h => List.mem_cons_of_mem _ (List.mem_append_right _ h)⟩
    | succ j =>
      obtain ⟨F', h1, h2⟩ := ih j (by simpa using hj)
      refine ⟨_, .mp a1 a2 a3 a4 a5 a6 a7 h1 a9 (fun h => a10 (h2 _ h)) (fun i hi hF => a11 i hi (h2 _ hF)), fun b h => ?_⟩
      rcases List.mem_cons.1 h with rfl | h
      · simp
      · rcases List.mem_append.1 h with h | h
        · exact List.mem_cons_of_mem _ (List.mem_append_left _ h)
        · exact List.mem_cons_of_mem _ (List.mem_append_right _ (h2 _ h))
end

/-! ### Keys -/
/-- A key that is found among these, or not. -/
def KeyOk (P : Program) (kt : TypeId) (key : Value) (ks : List Value) : Prop :=
  (∀ (b : Bool) (w : World), (Instr.checkKey b 10000 kt key).run P w = .ok () w) ∧ (∀ w : World, (Instr.keyThatStays key key).run P w = .ok key w) ∧
  ∀ (w : World) (l : List MapEntry), l.map (·.key) = ks → ((Instr.findKey kt key l).run P w = .ok none w ∧ key ∉ ks) ∨ ∃ j e, (Instr.findKey kt key l).run P w = .ok (some (j, e.val)) w ∧ l[j]? = some e ∧ e.key = key
def mapOf (P : Program) (t : TypeId) : Option (TypeId × TypeId) := match P.underlying t with | some (.map k e) => some (k, e) | _ => none
theorem mapOf_some {P : Program} {t k e : TypeId} (h : mapOf P t = some (k, e)) : P.underlying t = some (.map k e) := by
  unfold mapOf at h
  split at h
  · rename_i h1; cases h; exact h1
  · cases h
def keyIs : Sh → Value → Prop
  | .int k, .int k' _ => k' = k
  | .str, .string _ => True
  | .bool, .bool _ => True
  | _, _ => False
theorem keyIs_int {k k' : IntKind} {n : Int} : keyIs (.int k) (.int k' n) = (k' = k) := rfl
theorem keyIs_str {s : ByteArray} : keyIs .str (.string s) = True := rfl
theorem keyIs_bool {b : Bool} : keyIs .bool (.bool b) = True := rfl
def keysIs (s : Sh) : List Value → Prop
  | [] => True
  | k :: ks => keyIs s k ∧ keysIs s ks
theorem keysIs_mem {s : Sh} : ∀ {ks : List Value}, keysIs s ks → ∀ k ∈ ks, keyIs s k
  | _ :: _, h, k, hk => by
    rcases List.mem_cons.1 hk with rfl | hk
    · exact h.1
    · exact keysIs_mem h.2 k hk
theorem keysIs_of {s : Sh} : ∀ {ks : List Value}, (∀ k ∈ ks, keyIs s k) → keysIs s ks
  | [], _ => trivial
  | k :: ks, h => ⟨h k (by simp), keysIs_of fun k hk => h k (by simp [hk])⟩
def keyC (T : Option TI) (key : Value) (ks : List Value) : Prop := match T with
  | some T => keyIs T.sh key ∧ keysIs T.sh ks
  | none => False
theorem keyC_ok {P : Program} {kt : TypeId} {key : Value} {ks : List Value} (h : keyC (tiOf P kt) key ks) : KeyOk P kt key ks := by
  cases ht : tiOf P kt with
  | none => rw [ht] at h; exact h.elim
  | some T =>
    rw [ht] at h
    obtain ⟨h1, h2⟩ := h
    obtain ⟨i, d, _, hd, _, _, _, _, _, hstr, hint, hbool, _⟩ := tiOf_some ht
    have hk : ∀ v, keyIs T.sh v → MapKept.IsKey d v := fun v hv => by
      cases hs : T.sh with
      | int k => rw [hint k hs]; rw [hs] at hv; cases v <;> first | exact hv.elim | exact hv
      | str => rw [hstr hs]; rw [hs] at hv; cases v <;> first | exact hv.elim | exact hv
      | bool => rw [hbool hs]; rw [hs] at hv; cases v <;> first | exact hv.elim | exact hv
      | _ => rw [hs] at hv; cases v <;> exact hv.elim
    refine ⟨fun b w => MapKept.run_checkKey hd (hk _ h1) b 9999, fun w => MapKept.run_keyThatStays (hk _ h1), fun w l hl => ?_⟩
    rcases MapKept.findNow_spec (hk _ h1) l 0 (fun x hx => hk _ (keysIs_mem h2 _ (by rw [← hl]; exact List.mem_map.2 ⟨x, hx, rfl⟩))) with ⟨q1, q2⟩ | ⟨j, e, q1, q2, q3⟩
    · refine .inl ⟨MapKept.run_findKey hd q1, fun hm => ?_⟩
      rw [← hl] at hm
      obtain ⟨x, hx, hxe⟩ := List.mem_map.1 hm
      exact q2 x hx hxe
    · rw [Nat.zero_add] at q1
      exact .inr ⟨j, e, MapKept.run_findKey hd q1, q2, q3⟩

section
variable {P : Program} {ops : Array Oper} {C : Ctx} {E : Env} {σ : St} {a : Act} {w : World}
theorem setBlock_chg {b : Nat} {o : Obj} {F : List Nat} (hb : b ∈ F) : Chg (fun i => i ∈ F) w (ChangeMaps.setBlock w b o) :=
  ⟨rfl, rfl, rfl, by simp [ChangeMaps.setBlock], fun i _ hi => by
    have : b ≠ i := fun e => hi (e ▸ hb)
    simp [ChangeMaps.setBlock, this]⟩
theorem setBlock_at {b : Nat} {o o' : Obj} (hb : w.heap[b]? = some o') : (ChangeMaps.setBlock w b o).heap[b]? = some o := (MapKept.heap_set hb).1
theorem setBlock_ne {b i : Nat} {o : Obj} (h : i ≠ b) : (ChangeMaps.setBlock w b o).heap[i]? = w.heap[i]? := by
  simp [ChangeMaps.setBlock, Ne.symm h]

/-! ### Making one -/
def stMakeMap (σ : St) (d : Tmp) : Stp := some (True, [.h (d, 1), .g (d, 1)], treeW σ (d, 1) (.mp []) ++ [(.s d, .av (.ref (d, 1) (gh σ (d, 1) + 1)))])
theorem ok_makeMap (d : Tmp) (t : TypeId) : StOk P C σ (some d) (.makeMap t none) (stMakeMap σ d) := by
  refine ok_value (W0 := treeW σ (d, 1) (.mp [])) fun _ ty pos af E σ' a w hr hg hd => ?_
  have e0 : treeW σ (d, 1) (.mp []) = treeW σ' (d, 1) (.mp []) := by unfold treeW; rw [gh_of (hr (.h (d, 1)) (by simp)), gg_of (hr (.g (d, 1)) (by simp))]
  have e1 : gh σ (d, 1) = gh σ' (d, 1) := (gh_of (hr (.h (d, 1)) (by simp))).symm
  rw [e0, e1]
  have hA := hg.alloc (.map #[] 0)
  have hfresh : ∀ i, E.m w.heap.size i = none := by
    intro i
    cases hc : E.m w.heap.size i with
    | none => rfl
    | some v => have := hg.ms _ _ _ hc; simp [World.cell?] at this
  have hh : Hg E.m (w.alloc (.map #[] 0)) [.mp []] [.map (some w.heap.size)] [w.heap.size] :=
    mp_mk (ents := #[]) (clock := 0) (F := []) (MapKept.heap_alloc w _).1 hfresh rfl (by simp) (by simp) (fun e h => by simp at h) .nil (by simp)
  obtain ⟨E', g1, _, _, _, _, g6⟩ := hA.gainTree (d, 1) (.mp []) (.map (some w.heap.size)) [w.heap.size] (fun y h => by cases h) hh (fun b hb => by
    simp at hb; subst hb
    exact ⟨.inr hg.fr.size, fun ⟨t, ht⟩ => by have := (hg.ho_dd ht).1; omega⟩) (by simp)
  refine ⟨_, _, E', ?_, g1, g6.toA⟩
  simp [execOp, run_makeMap]

/-! ### Putting in -/
noncomputable def stInsert (P : Program) (σ : St) (t : TypeId) (m k v : Operand) : Stp :=
  match mapOf P t, ev σ m, scOf σ k, ev σ v with
  | some (kt, e), .ref id g, some key, .val x => match σ (.r id), σ (.l id) with
    | .tree (.mp kvs), .lent _ _ => none
    | .tree (.mp kvs), _ => some (gh σ id = g ∧ keyC (tiOf P kt) key (kvs.map (·.1)), [.h id, .g id, .r id, .l id] ++ (rdl m ++ (rdl k ++ rdl v)), setTW σ id (.mp (kvSet kvs key (.av x))))
    | _, _ => none
  | _, _, _, _ => none
theorem mapUpdate_ok (hg : Gm C E σ a w) {id : Id} {kvs : List (Value × T)} (hx : σ (.r id) = .tree (.mp kvs)) (hl : ∀ i y, σ (.l id) ≠ .lent i y) {t kt e : TypeId} (ht : P.underlying t = some (.map kt e)) {key : Value} (hk : KeyOk P kt key (kvs.map (·.1))) {x : V} {u : Value} (hr : Rd E.m x u) :
    ∃ w' E', (Instr.mapUpdate t (E.bv id) key u).run P w = .ok () w' ∧ Gm C E' (puts σ (setTW σ id (.mp (kvSet kvs key (.av x))))) a w' ∧ Mo E σ E' (puts σ (setTW σ id (.mp (kvSet kvs key (.av x))))) := by
  obtain ⟨hgg, _⟩ := hg.tr.hg id _ hx
  obtain ⟨b, ents, clock, F1, h1, h2, h3, h4, h5, h6, h7, h8, h9, h10⟩ := mp_inv hgg
  obtain ⟨k1, k2, k3⟩ := hk
  have hbF : b ∈ E.bf id := by rw [h10]; simp
  have hnoto : ∀ o : Obj, Hg E.m (ChangeMaps.setBlock w b o) (kvs.map (·.2)) (ents.toList.map (·.val)) F1 := fun o =>
    h8.mono (Mem.le_refl _) fun i hi => ⟨setBlock_ne (fun e => h9 (e ▸ hi)), fun _ => rfl⟩
  have fin : ∀ (ents' : Array MapEntry) (clock' : Nat) (F' : List Nat), (Instr.mapUpdate t (E.bv id) key u).run P w = .ok () (ChangeMaps.setBlock w b (.map ents' clock')) → ents'.toList.map (·.key) = (kvSet kvs key (.av x)).map (·.1) → (ents'.toList.map (·.born)).Nodup → (∀ e ∈ ents'.toList, e.born < clock') →
      Hg E.m (ChangeMaps.setBlock w b (.map ents' clock')) ((kvSet kvs key (.av x)).map (·.2)) (ents'.toList.map (·.val)) F' → (∀ i ∈ F', i ∈ F1) →
      ∃ w' E', (Instr.mapUpdate t (E.bv id) key u).run P w = .ok () w' ∧ Gm C E' (puts σ (setTW σ id (.mp (kvSet kvs key (.av x))))) a w' ∧ Mo E σ E' (puts σ (setTW σ id (.mp (kvSet kvs key (.av x))))) := by
    intro ents' clock' F' q1 q2 q3 q4 q5 q6
    have hh : Hg E.m (ChangeMaps.setBlock w b (.map ents' clock')) [.mp (kvSet kvs key (.av x))] [E.bv id] (b :: F') := by
      rw [h1]
      exact mp_mk (setBlock_at h2) h3 q2 (kvSet_keys h5) q3 q4 q5 (fun h => h9 (q6 _ h))
    obtain ⟨E', g1, g2, _, _⟩ := hg.setT id _ _ _ _ hx (fun ys h => by cases h) (fun y h => by cases h) (fun ys h => by cases h) hh (fun i hi => by
      rcases List.mem_cons.1 hi with rfl | hi
      · exact .inl hbF
      · rw [h10]; exact .inl (List.mem_cons_of_mem _ (q6 _ hi))) (setBlock_chg hbF) (fun i y h => absurd h (hl i y))
    exact ⟨_, E', q1, g1, g2⟩
  have hgo := MapKept.run_getObj_map (P := P) h2
  rcases k3 w ents.toList h4 with ⟨q1, q2⟩ | ⟨j, e0, q1, q2, q3⟩
  · refine fin (ents.push { key := key, val := u, born := clock }) (clock + 1) F1 ?_ ?_ ?_ ?_ ?_ (fun i h => h)
    · rw [h1]
      simp [Instr.mapUpdate, run_underlying ht, hgo, k1, q1, MapKept.run_setObj_map _ h2, Result.andThen, ChangeMaps.setBlock]
    · rw [kvSet_none q2]; simp [h4]
    · simp only [Array.toList_push, List.map_append, List.map_cons, List.map_nil]
      exact List.nodup_append.2 ⟨h6, by simp, fun a ha c hc => by
        simp at hc; subst hc
        obtain ⟨z, hz, rfl⟩ := List.mem_map.1 ha
        exact Nat.ne_of_lt (h7 z hz)⟩
    · intro z hz
      simp only [Array.toList_push, List.mem_append, List.mem_singleton] at hz
      rcases hz with hz | rfl
      · exact Nat.lt_succ_of_lt (h7 z hz)
      · exact Nat.lt_succ_self _
    · rw [kvSet_none q2]
      simp only [Array.toList_push, List.map_append, List.map_cons, List.map_nil]
      exact (hnoto _).push_av hr
  · have hj : ents[j]? = some e0 := by simpa using q2
    have hjk : kvs[j]? = some (key, (kvs.map (·.2)).getD j (.av .any)) := by
      have hlen := congrArg (fun l => l[j]?) h4
      simp only [List.getElem?_map, q2, Option.map_some] at hlen
      cases hkj : kvs[j]? with
      | none => rw [hkj] at hlen; simp at hlen
      | some p => rw [hkj] at hlen; simp at hlen; simp [hkj, ← q3, hlen]
    have hset := (kv_at h5 hjk).2.1 (.av x)
    have hjl : j < kvs.length := (List.getElem?_eq_some_iff.1 hjk).1
    have hmod : (ents.modify j fun e => { e with key := key, val := u }).toList = ents.toList.set j { e0 with key := key, val := u } := by
      rw [Array.toList_modify, ChangeMaps.modify_eq_set _ _ _ _ q2]
    obtain ⟨F', f1, f2⟩ := (hnoto (.map (ents.modify j fun e => { e with key := key, val := u }) clock)).set_av hr j (by simpa using hjl)
    refine fin (ents.modify j fun e => { e with key := key, val := u }) clock F' ?_ ?_ ?_ ?_ ?_ f2
    · rw [h1]
      simp [Instr.mapUpdate, run_underlying ht, hgo, k1, q1, hj, q3, k2, MapKept.run_setObj_map _ h2, Result.andThen, ChangeMaps.setBlock]
    · rw [hmod, hset, List.map_set, List.map_set, h4]
    · rw [hmod, List.map_set]
      have : (ents.toList.map (·.born)).set j e0.born = ents.toList.map (·.born) := by
        apply List.ext_getElem?
        intro i
        rw [List.getElem?_set]
        split
        · rename_i e; subst e
          split
          · rw [List.getElem?_map, q2]; rfl
          · rename_i h; rw [List.getElem?_eq_none (by omega)]
        · rfl
      rw [this]; exact h6
    · intro z hz
      rw [hmod] at hz
      rcases List.mem_or_eq_of_mem_set hz with hz | rfl
      · exact h7 z hz
      · exact h7 e0 (List.mem_of_getElem? q2)
    · rw [hmod, hset, List.map_set, List.map_set]
      exact f1
theorem insert_ok' (t : TypeId) (m k v : Operand) (op : Op) (hop : op = .insert t m k v ∨ op = .mapUpdate t m k v) : StOk P C σ none op (stInsert P σ t m k v) := by
  unfold stInsert
  split
  · rename_i kt e id g key x hm hmv hkv hv
    have key1 : ∀ kvs, σ (.r id) = .tree (.mp kvs) → (∀ i y, σ (.l id) ≠ .lent i y) → StOk P C σ none op (some (gh σ id = g ∧ keyC (tiOf P kt) key (kvs.map (·.1)), [.h id, .g id, .r id, .l id] ++ (rdl m ++ (rdl k ++ rdl v)), setTW σ id (.mp (kvSet kvs key (.av x))))) := by
      intro kvs hr hl
      intro c' L' W' he hc ops ty pos af E σ' a w Kt Q hd hr0 hg hK
      simp only [Option.some.injEq, Prod.mk.injEq] at he
      obtain ⟨rfl, rfl, rfl⟩ := he
      obtain ⟨h1, h2⟩ := mem_l (rds_all hr0)
      obtain ⟨h2, h3⟩ := mem_l h2
      obtain ⟨h3, h4⟩ := mem_l h3
      have hgen : gh σ' id = g := by rw [gh_of (h1 (.h id) (by simp))]; exact hc.1
      have hmap := ev_ok hg m
      rw [ev_congr h2, hmv] at hmap
      have hmap := hmap.2 hgen.symm
      have hval := ev_ok hg v
      rw [ev_congr h4, hv] at hval
      have hkey : a.eval k = key := scOf_ok hkv h3 hg
      have hr' : σ' (.r id) = .tree (.mp kvs) := by rw [h1 _ (by simp)]; exact hr
      have hl' : ∀ i y, σ' (.l id) ≠ .lent i y := fun i y => by rw [h1 _ (by simp)]; exact hl i y
      obtain ⟨w', E', q1, q2, q3⟩ := mapUpdate_ok hg hr' hl' (mapOf_some hm) (keyC_ok hc.2) hval
      have e0 : setTW σ id (.mp (kvSet kvs key (.av x))) = setTW σ' id (.mp (kvSet kvs key (.av x))) := by unfold setTW; rw [gg_of (h1 (.g id) (by simp))]
      rw [e0] at hK
      rw [if_pos (by simp [Region.wanted])]
      have hrun : (execOp a.eval ⟨none, op, ty, pos, af, none⟩).run P w = .ok .skip w' := by
        rcases hop with rfl | rfl <;> simp [execOp, hmap, hkey, q1]
      show Oper.upon _ _ _ _ _ _
      rw [hrun]
      exact hK _ _ E' (by simpa [Act.put] using q2)
    split
    · intro _ _ _ h; cases h
    · rename_i kvs hr hl
      exact key1 kvs hr (fun i y h => hl i y h)
    · intro _ _ _ h; cases h
  · intro _ _ _ h; cases h
end
end Go.Proofs.YtojcjbaimdjhoaaGreatDoor
