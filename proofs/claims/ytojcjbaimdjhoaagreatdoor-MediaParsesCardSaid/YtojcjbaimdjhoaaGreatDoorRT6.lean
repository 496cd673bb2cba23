
/- Rows that change: made, grown, cut short, copied into, read as a text, let go. -/
import Derived.Test.YtojcjbaimdjhoaaGreatDoorRT5
import Derived.Laws.OwnMore
namespace Go.Proofs.YtojcjbaimdjhoaaGreatDoor
open Go.RowKit
set_option linter.unusedVariables false
set_option linter.unusedSimpArgs false

section
variable {P : Program} {ops : Array Oper} {C : Ctx} {E : Env} {σ : St} {a : Act} {w : World}
theorem Gm.fresh (hg : Gm C E σ a w) {b : Nat} (hb : w.heap.size ≤ b) (i : Nat) : E.m b i = none := by
  cases hc : E.m b i with
  | none => rfl
  | some v =>
    have h1 := World.block_lt_of_cell? w _ (hg.ms _ _ _ hc)
    exact absurd h1 (Nat.not_lt.2 hb)
/-- The world allocates one block more, a row of cells; it is owned whole. -/
theorem Gm.treeAt (hg : Gm C E σ a w) (k : Id) (hk : k.2 ≠ 0) {e : TypeId} {sz : Nat} {es : List (List V)} {v : Value} {w' : World} {us : List Value} (hc : Chg (fun b => v.ownBlock = some b) w w') (hb : ∀ b, v.ownBlock = some b → w.heap.size ≤ b) (ho : w'.ownsRow 0 e sz v es.length us)
    (hz : ∀ r ∈ es, r.length = sz) (hr : ∀ i j (hi : i < es.length) (hj : j < es[i].length), ∃ u, us[i * sz + j]? = some u ∧ Rd E.m (es[i][j]) u) :
    ∃ E', Gm C E' (puts σ (treeW σ k (.rw e sz es))) a w' ∧ RdA E' (puts σ (treeW σ k (.rw e sz es))) (.ref k (gh σ k + 1)) v := by
  have hc0 : Chg (fun _ => False) w w' := ⟨hc.os, hc.tape, hc.output, hc.size, fun b h1 _ => hc.block b h1 fun h2 => by have := hb b h2; omega⟩
  have hA : Gm C { E with m := E.m } σ a w' := hg.turn (fun _ => False) w' E.m hc0 (Mem.le_refl _) (fun b i u hu => by
      have h1 := hg.ms _ _ _ hu
      have hlt := World.block_lt_of_cell? w _ h1
      rw [World.cell?_of_block (w := w) (hc0.block _ hlt id)]; exact h1) (fun b h => h.elim) (fun b _ h => h) (fun b mb n bs l _ h => h) (fun b i _ _ => rfl)
  obtain ⟨E', g1, _, _, _, _, g6⟩ := hA.gainTree k (.rw e sz es) v v.ownBlock.toList (fun y h => by cases h) (rw_mk ho hz hr fun b h i => hg.fresh (hb b h) i) (fun b h => by
    have h1 : v.ownBlock = some b := by simpa using h
    have h2 := hb b h1
    exact ⟨.inr (Nat.le_trans hg.fr.size h2), fun ⟨t, ht⟩ => by have := (hg.ho_dd (E := E) (t := t) (by cases t <;> exact ht)).1; omega⟩) hk
  exact ⟨E', g1, g6.toA⟩

/-! ### Grown -/
def growC (P : Program) (σ : St) (tx : TypeId) (x : Operand) (new : List (List V)) (n by_ sz : Nat) (z : List Value) : Prop :=
  (n + new.length) * by_ ≤ 140737488355328 ∧ n + new.length ≤ 9223372036854775807 ∧ z.length = sz ∧ 0 < sz ∧ (∀ r ∈ new, r.length = sz) ∧ (∀ r ∈ new, ∀ y ∈ r, oneV y = true) ∧
    (if isSliceA (ev σ x) then (tiOf P tx).map (·.sh) = some .slice else (tiOf P tx).map (·.sh) = some .str ∧ sz = 1)
def stAppendT (P : Program) (σ : St) (d : Tmp) (t tx : TypeId) (s x : Operand) : Stp :=
  match tiOf P t, ev σ s with
  | some { sh := .slice, elem := e, .. }, .ref k g => match σ (.r k), tiOf P e, elsOf (ev σ x) with
    | .tree (.rw e' sz' old), some { size := sz, bytes := by_, zero := z, zok := true, .. }, some new =>
      some (growC P σ tx x new old.length by_ sz z ∧ e' = e ∧ sz' = sz ∧ gh σ k = g, [.h k, .g k, .r k] ++ (rdl s ++ rdl x), newTW σ k (.rw e sz (old ++ new)) ++ [(.s d, .av (.ref k (gh σ k + 1)))])
    | _, _, _ => none
  | _, _ => none
theorem newTW_congr {σ' : St} {k : Id} {x : T} (h1 : σ' (.g k) = σ (.g k)) (h2 : σ' (.h k) = σ (.h k)) : newTW σ' k x = newTW σ k x := by unfold newTW; rw [gg_of h1, gh_of h2]
theorem ok_appendT (d : Tmp) (t tx : TypeId) (s x : Operand) : StOk P C σ (some d) (.call { callee := .builtin .append, args := #[s, x], argTypes := #[t, tx] }) (stAppendT P σ d t tx s x) := by
  unfold stAppendT
  split
  · rename_i e _ _ _ k g ht hs
    split
    · rename_i e' sz' old _ _ sz by_ z _ _ _ new hr hte hnew
      refine ok_value (W0 := newTW σ k (.rw e sz (old ++ new))) fun hc ty pos af E σ' a w hr0 hg hd => ?_
      obtain ⟨hc0, rfl, rfl, hcg⟩ := hc
      obtain ⟨c1, c2, c3, c4, c5, c6, c7⟩ := hc0
      obtain ⟨h1, h2⟩ := mem_l hr0
      obtain ⟨h2, h3⟩ := mem_l h2
      obtain ⟨it, dt, _, hdt, _, _, _, hsl, _⟩ := tiOf_some ht
      have hsl : dt = .slice e' := hsl rfl
      subst hsl
      obtain ⟨ie, de, hie, hde, hsz, hby, _, _, _, _, _, _, _, hz, _, _, _, hzk⟩ := tiOf_some hte
      obtain ⟨zv, hzv⟩ := Option.isSome_iff_exists.1 hzk.symm
      have hz : z = zv.cells.toList := by rw [hzv] at hz; exact hz
      have hk' : σ' (.r k) = .tree (.rw e' sz' old) := by rw [h1 _ (by simp)]; exact hr
      have e0 : newTW σ k (.rw e' sz' (old ++ new)) = newTW σ' k (.rw e' sz' (old ++ new)) := (newTW_congr (h1 _ (by simp)) (h1 _ (by simp))).symm
      have e1 : gh σ k = gh σ' k := (gh_of (h1 (.h k) (by simp))).symm
      have hvs := ev_ok hg s
      rw [ev_congr h2, hs] at hvs
      have hvs := hvs.2 (by rw [← e1]; exact hcg.symm)
      have hvx := ev_ok hg x
      rw [ev_congr h3] at hvx
      obtain ⟨us, q1, q2, q3, q4, q5⟩ := tree_row hg hk'
      obtain ⟨news, hsrc, hnr⟩ := src_of (P := P) (tx := tx) hg hvx hnew c5 c6 (by
        split
        · rename_i hb; rw [if_pos hb] at c7; exact sh_slice c7
        · rename_i hb; rw [if_neg hb] at c7; exact ⟨sh_str c7.1, c7.2⟩)
      have hzs : zv.cells.size = sz' := by rw [← c3, hz]; simp
      obtain ⟨v', w', r1, r2, r3, r4, _⟩ := run_append_two w t tx ty e' ie zv sz' by_ hdt hie hzv hsz.symm hby.symm hzs c4 (E.bv k) old.length us q1 _ _ _ hsrc (by unfold maxLen; omega) c1
      have hl : (old ++ new).length = old.length + new.length := by simp
      have hfr : ∀ b, v'.ownBlock = some b → ∀ i, E.m b i = none := fun b hb i => by
        rcases r4 b hb with h | h
        · exact hg.fresh h i
        · exact q4 b h i
      have hh : Hg E.m w' [.rw e' sz' (old ++ new)] [v'] v'.ownBlock.toList := rw_mk (by rw [hl]; exact r2) (fun r h => by
        rcases List.mem_append.1 h with h | h
        · exact q2 r h
        · exact c5 r h) (append_el q1.1 (fun i h => q2 _ (List.getElem_mem h)) q3 hnr) hfr
      have hF : ∀ b ∈ v'.ownBlock.toList, b ∈ E.bf k ∨ w.heap.size ≤ b := fun b hb => by
        have hb : v'.ownBlock = some b := by simpa using hb
        rcases r4 b hb with h | h
        · exact .inr h
        · exact .inl (by rw [q5, h]; simp)
      have hch : Chg (fun b => b ∈ E.bf k) w w' := ⟨r3.os, r3.tape, r3.output, r3.size, fun b h5 h6 => r3.block b h5 fun h7 => by
        rcases r4 b h7 with h | h
        · omega
        · exact h6 (by rw [q5, h]; simp)⟩
      obtain ⟨E', g1, g2, g3, g4⟩ := hg.newT k _ _ v' _ w' hk' (fun y h => by cases h) (fun ys h => by cases h) hh hF hch
      rw [e0, e1]
      refine ⟨v', w', E', ?_, g1, g4⟩
      simp [execOp, resolve, invoke, builtin, hvs, r1]
    · intro _ _ _ h; cases h
  · intro _ _ _ h; cases h

/-! ### Cut short -/
def stSliceT (P : Program) (σ : St) (d : Tmp) (t : TypeId) (x : Operand) (lo hi mx : Option Operand) : Stp :=
  match boundOf σ lo, boundOf σ hi, mx with
  | some l, some h, none => match tiOf P t, ev σ x with
    | some { sh := .slice, elem := e, .. }, .ref k g => match σ (.r k) with
      | .tree (.rw e' sz es) => some ((tiOf P e).map (·.size) = some sz ∧ loOf l = 0 ∧ 0 ≤ hiOf es.length h ∧ hiOf es.length h ≤ es.length ∧ gh σ k = g, [.h k, .g k, .r k] ++ (rdl x ++ (bl lo ++ bl hi)),
          newTW σ k (.rw e' sz (es.take (hiOf es.length h).toNat)) ++ [(.s d, .av (.ref k (gh σ k + 1)))])
      | _ => none
    | _, _ => none
  | _, _, _ => none
theorem own_take {b e : Nat} {sz n n' : Nat} {v : Value} {us : List Value} (h : w.ownsRow 0 e sz v n us) (hn : n' ≤ n) : ∃ A c, v = .slice A n c ∧ n ≤ c ∧ (A = none ∨ ∃ b, A = some ⟨b, 0, none⟩) ∧ w.ownsRow 0 e sz (.slice A n' c) n' (us.take (n' * sz)) := by
  have hmul : n' * sz ≤ n * sz := Nat.mul_le_mul_right _ hn
  rcases h.2 with ⟨rfl, rfl⟩ | ⟨g, cap, cur, rfl, h0, hg, hnc, hcm, hcs, htake⟩
  · obtain rfl : n' = 0 := by omega
    exact ⟨none, 0, rfl, Nat.le_refl _, .inl rfl, by simp, .inl ⟨rfl, rfl⟩⟩
  · refine ⟨some ⟨g, 0, none⟩, cap, rfl, hnc, .inr ⟨g, rfl⟩, ?_, .inr ⟨g, cap, cur, rfl, h0, hg, by omega, hcm, hcs, ?_⟩⟩
    · rw [List.length_take, h.1]; omega
    · rw [← htake, List.take_take, Nat.min_eq_left hmul]
theorem ok_sliceT (d : Tmp) (t : TypeId) (x : Operand) (lo hi mx : Option Operand) : StOk P C σ (some d) (.slice t x lo hi mx) (stSliceT P σ d t x lo hi mx) := by
  unfold stSliceT
  split
  · rename_i _ _ _ l h hl hh
    split
    · rename_i e _ _ _ k g ht hx
      split
      · rename_i e' sz es hr
        refine ok_value (W0 := newTW σ k (.rw e' sz (es.take (hiOf es.length h).toNat))) fun hc ty pos af E σ' a w hr0 hg hd => ?_
        obtain ⟨c0, c1, c2, c3, c4⟩ := hc
        obtain ⟨h1, h2⟩ := mem_l hr0
        obtain ⟨h2, h3⟩ := mem_l h2
        obtain ⟨h3, h4⟩ := mem_l h3
        obtain ⟨it, dt, _, hdt, _, _, _, hsl, _⟩ := tiOf_some ht
        have hsl : dt = .slice e := hsl rfl
        subst hsl
        have hse : (sizeOf e).run P w = .ok sz w := by
          cases hte : tiOf P e with
          | none => rw [hte] at c0; cases c0
          | some T => rw [hte] at c0; simp at c0; rw [sizeOf_run hte, c0]
        have e0 : newTW σ k (.rw e' sz (es.take (hiOf es.length h).toNat)) = newTW σ' k (.rw e' sz (es.take (hiOf es.length h).toNat)) := (newTW_congr (h1 _ (by simp)) (h1 _ (by simp))).symm
        have e1 : gh σ k = gh σ' k := (gh_of (h1 (.h k) (by simp))).symm
        have hk' : σ' (.r k) = .tree (.rw e' sz es) := by rw [h1 _ (by simp)]; exact hr
        have hvs := ev_ok hg x
        rw [ev_congr h2, hx] at hvs
        have hvs := hvs.2 (by rw [← e1]; exact c4.symm)
        obtain ⟨us, q1, q2, q3, q4, q5⟩ := tree_row hg hk'
        obtain ⟨n', hn'⟩ : ∃ n', n' = (hiOf es.length h).toNat := ⟨_, rfl⟩
        have hnl : n' ≤ es.length := by omega
        obtain ⟨A, c, hA, hcap, hA2, hown⟩ := own_take (b := 0) q1 hnl
        obtain ⟨k1, b1⟩ := boundOf_ok hl h3 hg
        obtain ⟨k2, b2⟩ := boundOf_ok hh h4 hg
        have hb := sliceBounds_run (P := P) (b := true) (n := es.length) (cap := c) (k := k1) (k' := k2) (k'' := k2) (lo := l) (hi := h) (mx := none) hcap (by omega) (by omega) c3 (fun m h => by cases h) w
        have hlen : (es.take n').length = n' := by rw [List.length_take]; omega
        have hob : (Value.slice A n' c).ownBlock = (E.bv k).ownBlock := by rw [hA]; rcases hA2 with rfl | ⟨b, rfl⟩ <;> rfl
        have hh : Hg E.m w [.rw e' sz (es.take n')] [.slice A n' c] (Value.slice A n' c).ownBlock.toList := rw_mk (by rw [hlen]; exact hown) (fun r h => q2 r (List.mem_of_mem_take h)) (fun i j hi hj => by
          have hi2 : i < es.length := by omega
          have e2 : (es.take n')[i] = es[i] := by simp
          have hj2 : j < es[i].length := by rw [← e2]; exact hj
          obtain ⟨u, r1, r2⟩ := q3 i j hi2 hj2
          have hjs : j < sz := by rw [← q2 _ (List.getElem_mem hi2)]; exact hj2
          have hlt : i * sz + j < n' * sz := by
            have : (i + 1) * sz ≤ n' * sz := Nat.mul_le_mul_right _ (by omega)
            rw [Nat.add_mul] at this; omega
          exact ⟨u, by rw [List.getElem?_take, if_pos hlt]; exact r1, by simp only [e2]; exact r2⟩) (fun b hb => by rw [hob] at hb; exact q4 b hb)
        obtain ⟨E', g1, g2, g3, g4⟩ := hg.newT k _ _ (.slice A n' c) _ w hk' (fun y h => by cases h) (fun ys h => by cases h) hh (fun b hb => .inl (by rw [q5, ← hob]; exact hb)) (Chg.refl _ _)
        rw [e0, e1, ← hn']
        refine ⟨.slice A n' c, w, E', ?_, g1, g4⟩
        simp only [Option.map_none, c1, ← hn', mxOf] at hb
        rw [hA] at hvs
        rcases hA2 with rfl | ⟨b, rfl⟩ <;> simp [execOp, hvs, b1, b2, Instr.sliceAt, Instr.slice, run_underlying hdt, hb, hse, addr_add]
      · intro _ _ _ h; cases h
    · intro _ _ _ h; cases h
  · intro _ _ _ h; cases h

/-! ### Copied into -/
theorem run_copy_src (dT sT ty elem : TypeId) (size : Nat) (base : Option Addr) (dLen dCap : Nat) (x : Value) (m : Nat) (news : List Value) (w' : World) (hu : P.underlying dT = some (.slice elem)) (hs : (P.info? elem).map (·.size) = some size) (hsrc : Src P size sT x m news w) (hle : m ≤ dLen)
    (hst : ∀ g, base = some g → (storeCells g news 0).run P w = .ok () w') (hn : base = none → w' = w) : (Builtin.copy_ #[dT, sT] ty #[.slice base dLen dCap, x]).run P w = .ok (goInt m) w' := by
  have hmin : Nat.min m dLen = m := Nat.min_eq_left hle
  cases hq : P.info? elem with
  | none => rw [hq] at hs; cases hs
  | some i =>
    have hi : i.size = size := by simpa [hq] using hs
    cases base with
    | none => rw [hn rfl]; simp [Builtin.copy_, run_underlying hu, hsrc.len, sizeOf, typeInfo, hq, hmin, hi, hsrc.cells]
    | some g => simp [Builtin.copy_, run_underlying hu, hsrc.len, sizeOf, typeInfo, hq, hmin, hi, hsrc.cells, hst g rfl]
def stCopyT (P : Program) (σ : St) (d : Tmp) (t tx : TypeId) (s x : Operand) : Stp :=
  match tiOf P t, ev σ s with
  | some { sh := .slice, elem := e, .. }, .ref k g => match σ (.r k), σ (.l k), elsOf (ev σ x) with
    | .tree (.rw e' sz old), .lent _ _, some new => none
    | .tree (.rw e' sz old), _, some new => some (new.length ≤ old.length ∧ (tiOf P e).map (·.size) = some sz ∧ (∀ r ∈ new, r.length = sz) ∧ (∀ r ∈ new, ∀ y ∈ r, oneV y = true) ∧ (if isSliceA (ev σ x) then (tiOf P tx).map (·.sh) = some .slice else (tiOf P tx).map (·.sh) = some .str ∧ sz = 1) ∧ gh σ k = g,
        [.h k, .g k, .r k, .l k] ++ (rdl s ++ rdl x), setTW σ k (.rw e' sz (new ++ old.drop new.length)) ++ [(.s d, .av (.val (.sc (.int .i64 new.length))))])
    | _, _, _ => none
  | _, _ => none
theorem drop_el {m : Mem} {old new : List (List V)} {us news : List Value} {sz : Nat} (hul : us.length = old.length * sz) (hso : ∀ r ∈ old, r.length = sz) (hnl : news.length = new.length * sz) (hle : new.length ≤ old.length) (hsn : ∀ r ∈ new, r.length = sz)
    (h1 : ∀ i j (hi : i < old.length) (hj : j < old[i].length), ∃ u, us[i * sz + j]? = some u ∧ Rd m (old[i][j]) u) (h2 : ∀ i j (hi : i < new.length) (hj : j < new[i].length), ∃ u, news[i * sz + j]? = some u ∧ Rd m (new[i][j]) u) :
    ∀ i j (hi : i < (new ++ old.drop new.length).length) (hj : j < (new ++ old.drop new.length)[i].length), ∃ u, (us.take 0 ++ news ++ us.drop (0 + news.length))[i * sz + j]? = some u ∧ Rd m ((new ++ old.drop new.length)[i][j]) u := by
  have h3 := append_el (m := m) (old := new) (new := old.drop new.length) (xs := news) (news := us.drop (new.length * sz)) (sz := sz) hnl (fun i h => hsn _ (List.getElem_mem h)) h2 (fun i j hi hj => by
    have hi2 : new.length + i < old.length := by rw [List.length_drop] at hi; omega
    have e1 : (old.drop new.length)[i] = old[new.length + i] := by simp
    have hj2 : j < old[new.length + i].length := by rw [← e1]; exact hj
    obtain ⟨u, q1, q2⟩ := h1 _ j hi2 hj2
    exact ⟨u, by rw [List.getElem?_drop, ← q1]; congr 1; rw [Nat.add_mul]; omega, by simp only [e1]; exact q2⟩)
  simpa [hnl] using h3
theorem ok_copyT (d : Tmp) (t tx : TypeId) (s x : Operand) : StOk P C σ (some d) (.call { callee := .builtin .copy, args := #[s, x], argTypes := #[t, tx] }) (stCopyT P σ d t tx s x) := by
  unfold stCopyT
  split
  · rename_i e _ _ _ k g ht hs
    have key : ∀ e' sz old new, σ (.r k) = .tree (.rw e' sz old) → (∀ i y, σ (.l k) ≠ .lent i y) → elsOf (ev σ x) = some new → StOk P C σ (some d) (.call { callee := .builtin .copy, args := #[s, x], argTypes := #[t, tx] })
        (some (new.length ≤ old.length ∧ (tiOf P e).map (·.size) = some sz ∧ (∀ r ∈ new, r.length = sz) ∧ (∀ r ∈ new, ∀ y ∈ r, oneV y = true) ∧ (if isSliceA (ev σ x) then (tiOf P tx).map (·.sh) = some .slice else (tiOf P tx).map (·.sh) = some .str ∧ sz = 1) ∧ gh σ k = g,
        [.h k, .g k, .r k, .l k] ++ (rdl s ++ rdl x), setTW σ k (.rw e' sz (new ++ old.drop new.length)) ++ [(.s d, .av (.val (.sc (.int .i64 new.length))))])) := by
      intro e' sz old new hr hl hnew
      refine ok_value (W0 := setTW σ k (.rw e' sz (new ++ old.drop new.length))) fun hc ty pos af E σ' a w hr0 hg hd => ?_
      obtain ⟨c1, c2, c3, c4, c5, c6⟩ := hc
      obtain ⟨h1, h2⟩ := mem_l hr0
      obtain ⟨h2, h3⟩ := mem_l h2
      obtain ⟨it, dt, _, hdt, _, _, _, hsl, _⟩ := tiOf_some ht
      have hsl : dt = .slice e := hsl rfl
      subst hsl
      have hie : (P.info? e).map (·.size) = some sz := by
        cases hte : tiOf P e with
        | none => rw [hte] at c2; cases c2
        | some T => obtain ⟨ie, de, hie, hde, hsz, _⟩ := tiOf_some hte; rw [hte] at c2; simp at c2; rw [hie]; simp [← hsz, c2]
      have hk' : σ' (.r k) = .tree (.rw e' sz old) := by rw [h1 _ (by simp)]; exact hr
      have hl' : ∀ i y, σ' (.l k) ≠ .lent i y := fun i y => by rw [h1 _ (by simp)]; exact hl i y
      have hvs := ev_ok hg s
      rw [ev_congr h2, hs] at hvs
      have hvs := hvs.2 (by rw [gh_of (h1 (.h k) (by simp))]; exact c6.symm)
      have hvx := ev_ok hg x
      rw [ev_congr h3] at hvx
      obtain ⟨us, q1, q2, q3, q4, q5⟩ := tree_row hg hk'
      obtain ⟨news, hsrc, hnr⟩ := src_of (P := P) (tx := tx) hg hvx hnew c3 c4 (by
        split
        · rename_i hb; rw [if_pos hb] at c5; exact sh_slice c5
        · rename_i hb; rw [if_neg hb] at c5; exact ⟨sh_str c5.1, c5.2⟩)
      have hnl := hsrc.newsLen
      have e0 : setTW σ k (.rw e' sz (new ++ old.drop new.length)) = setTW σ' k (.rw e' sz (new ++ old.drop new.length)) := by unfold setTW; rw [gg_of (h1 (.g k) (by simp))]
      have hz : ∀ r ∈ new ++ old.drop new.length, r.length = sz := fun r h => by
        rcases List.mem_append.1 h with h | h
        · exact c3 r h
        · exact q2 r (List.mem_of_mem_drop h)
      have hlen : (new ++ old.drop new.length).length = old.length := by simp; omega
      rw [e0]
      cases hob : (E.bv k).ownBlock with
      | some b =>
        have hmul : new.length * sz ≤ old.length * sz := Nat.mul_le_mul_right _ c1
        obtain ⟨w', E', r1, r2, ⟨cap, r3⟩, r4⟩ := tree_store (P := P) hg hk' hl' hob (p := 0) (ys := news) (new ++ old.drop new.length) (by omega) hsrc.one hlen hz (fun us' u1 u3 => drop_el u1 q2 hnl c1 c3 u3 hnr)
        have hrun := run_copy_src (P := P) (w := w) t tx ty e sz (some ⟨b, 0, none⟩) old.length cap _ _ news w' hdt hie hsrc c1 (fun g hg => by cases hg; exact r1) (fun h => by cases h)
        rw [r3] at hvs
        exact ⟨.int .i64 new.length, w', E', by simp [execOp, resolve, invoke, builtin, hvs, hrun, goInt], r2, Rd.sc _⟩
      | none =>
        rcases q1.2 with ⟨p1, p2⟩ | ⟨b, cap, cur, p1, _⟩
        · have hn0 : new.length = 0 := by omega
          have hne : new = [] := List.eq_nil_of_length_eq_zero hn0
          have hoe : old = [] := List.eq_nil_of_length_eq_zero p2
          subst hne
          subst hoe
          have hrun := run_copy_src (P := P) (w := w) t tx ty e sz none 0 0 _ _ news w hdt hie hsrc c1 (fun g hg => by cases hg) (fun _ => rfl)
          obtain ⟨E', g1, g2, _, _⟩ := hg.setT k _ (.rw e' sz []) _ w hk' (fun ys h => by cases h) (fun y h => by cases h) (fun ys h => by cases h) (hg.tr.hg k _ hk').1 (fun b hb => .inl hb) (Chg.refl _ _) (fun i y h => absurd h (hl' i y))
          rw [p1] at hvs
          exact ⟨.int .i64 0, w, E', by simp at hrun; simp [execOp, resolve, invoke, builtin, hvs, hrun, goInt], by simpa using g1, Rd.sc _⟩
        · rw [p1] at hob; cases hob
    split
    · intro _ _ _ h; cases h
    · rename_i e' sz old new hr hnew hl
      exact key e' sz old new hr (fun i y h => hl i y h) hnew
    · intro _ _ _ h; cases h
  · intro _ _ _ h; cases h
end
end Go.Proofs.YtojcjbaimdjhoaaGreatDoor
