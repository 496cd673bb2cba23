
/- Layer 18 in plain Lean: shared fairly; alike for weights that are so many times as great. -/
import Derived.Test.YtdgkehoodlncmaaShM
namespace Go.Proofs.Ytdgkehoodlncmaa
set_option linter.unusedVariables false
set_option linter.unusedSimpArgs false

/-- Paths from 1 on, of these weights. -/
def wsOf (ks : List Int) : List Wt := ks.mapIdx fun i k => ⟨1 + i, k⟩
def ldOf (ks : List Int) : List Ld := ks.mapIdx fun i k => ⟨1 + i, k, 0⟩
def psOf (n : Nat) : List Int := (List.range n).map fun (i : Nat) => 1 + (i : Int)
theorem wsOf_snoc (ks : List Int) (k : Int) : wsOf (ks ++ [k]) = wsOf ks ++ [⟨1 + ks.length, k⟩] := by unfold wsOf; rw [List.mapIdx_append]; simp
theorem ldOf_snoc (ks : List Int) (k : Int) : ldOf (ks ++ [k]) = ldOf ks ++ [⟨1 + ks.length, k, 0⟩] := by unfold ldOf; rw [List.mapIdx_append]; simp
theorem psOf_succ (n : Nat) : psOf (n + 1) = psOf n ++ [1 + (n : Int)] := by unfold psOf; rw [List.range_succ, List.map_append]; rfl
theorem wsOf_len (ks : List Int) : (wsOf ks).length = ks.length := by simp [wsOf]
theorem ldOf_len (ks : List Int) : (ldOf ks).length = ks.length := by simp [ldOf]
theorem psOf_len (n : Nat) : (psOf n).length = n := by simp [psOf]
theorem psOf_mem {n : Nat} {p : Int} : p ∈ psOf n ↔ 1 ≤ p ∧ p ≤ n := by
  unfold psOf
  simp only [List.mem_map, List.mem_range]
  constructor
  · rintro ⟨i, hi, rfl⟩; omega
  · rintro ⟨h1, h2⟩; exact ⟨(p - 1).toNat, by omega, by omega⟩
theorem snocInd {α : Type} {P : List α → Prop} (h0 : P []) (h1 : ∀ l a, P l → P (l ++ [a])) : ∀ l, P l := by
  have : ∀ n l, l.length = n → P l := by
    intro n
    induction n with
    | zero => intro l hl; rw [List.eq_nil_of_length_eq_zero hl]; exact h0
    | succ n ih =>
      intro l hl
      have hne : l ≠ [] := fun e => by rw [e] at hl; simp at hl
      rw [← List.dropLast_concat_getLast hne]
      exact h1 _ _ (ih _ (by simp [hl]))
  exact fun l => this _ l rfl
theorem loads_of : ∀ (ks : List Int), ks.length ≤ 15 → (∀ k ∈ ks, 1 ≤ k ∧ k ≤ 65535) → loadsF (wsOf ks) = ldOf ks := by
  refine snocInd (by intro _ _; rfl) fun ks k ih => ?_
  intro hl hk
  have hl : ks.length + 1 ≤ 15 := by simpa using hl
  have ih := ih (by omega) fun x hx => hk x (List.mem_append_left _ hx)
  have hkk := hk k (List.mem_append_right _ (by simp))
  rw [wsOf_snoc, ldOf_snoc]
  unfold loadsF at ih ⊢
  rw [List.foldl_append, ih]
  show addW (ldOf ks) ⟨1 + ks.length, k⟩ = _
  have hids : ∀ x ∈ (ldOf ks).map toE, x.id < 1 + (ks.length : Int) := fun x hx => by
    obtain ⟨y, hy, rfl⟩ := List.mem_map.1 hx
    unfold ldOf at hy
    obtain ⟨i, hi, rfl⟩ := List.mem_mapIdx.1 hy
    simp [toE]; omega
  have hh : hasL (ldOf ks) (1 + (ks.length : Int)) = false := by
    cases h : hasL (ldOf ks) (1 + (ks.length : Int)) with
    | false => rfl
    | true =>
      obtain ⟨e, h1, h2⟩ := hasP_iff.1 h
      have := hids e h1
      omega
  have ha : atL (ldOf ks) (1 + (ks.length : Int)) = (ldOf ks).length := by
    unfold atL atP
    have htw : ∀ (E : List En), (∀ x ∈ E, x.id < 1 + (ks.length : Int)) → E.takeWhile (fun e => decide (e.id < 1 + (ks.length : Int))) = E := by
      intro E
      induction E with
      | nil => intro _; rfl
      | cons x xs ih2 => intro h; simp [h x (List.mem_cons_self ..), ih2 fun y hy => h y (List.mem_cons_of_mem _ hy)]
    rw [htw _ hids, List.length_map]
  have hcw : cw k = k := by unfold cw; omega
  unfold addW
  rw [if_pos ⟨hh, by rw [ldOf_len]; omega⟩]
  dsimp only
  rw [ha, List.take_length, List.drop_length, hcw]
theorem set_nil (ws : List Wt) : (setF [] ws).1 = loadsF ws := by
  unfold setF
  cases h : loadsF ws with
  | nil => rfl
  | cons x xs => rfl
/-! ### Scaled -/
def scL (c : Int) (x : Ld) : Ld := { x with w := x.w * c }
theorem cmpZ_mul (a b c : Int) (hc : 0 < c) : cmpZ (a * c) (b * c) = cmpZ a b := by
  unfold cmpZ
  by_cases h1 : a < b
  · rw [if_pos h1, if_pos (Int.mul_lt_mul_of_pos_right h1 hc)]
  · rw [if_neg h1, if_neg (fun h => h1 (Int.lt_of_mul_lt_mul_right h (by omega)))]
    by_cases h2 : b < a
    · rw [if_pos h2, if_pos (Int.mul_lt_mul_of_pos_right h2 hc)]
    · rw [if_neg h2, if_neg (fun h => h2 (Int.lt_of_mul_lt_mul_right h (by omega)))]
theorem cmpL_sc (c : Int) (hc : 0 < c) (a b : Ld) : cmpL (scL c a) (scL c b) = cmpL a b := by
  unfold cmpL scL
  dsimp only
  rw [← Int.mul_assoc, ← Int.mul_assoc, cmpZ_mul _ _ c hc]
theorem minF_sc (c : Int) (hc : 0 < c) : ∀ (ys : List Ld) (y : Ld), minF cmpL (scL c y) (ys.map (scL c)) = scL c (minF cmpL y ys)
  | [], y => rfl
  | z :: ys, y => by
    simp only [List.map_cons, minF, cmpL_sc c hc]
    split
    · exact minF_sc c hc ys z
    · exact minF_sc c hc ys y
theorem pick_sc (c : Int) (hc : 0 < c) (l : List Ld) (may : List Int) : pickF (l.map (scL c)) may = pickF l may := by
  unfold pickF
  rw [List.filter_map]
  have e : ((fun x : Ld => decide (x.p ∈ may)) ∘ scL c) = fun x : Ld => decide (x.p ∈ may) := rfl
  rw [e]
  cases l.filter fun x => decide (x.p ∈ may) with
  | nil => rfl
  | cons y ys =>
    simp only [List.map_cons, minF_sc c hc]
    rfl
theorem idxF_map {α β : Type} (f : α → β) (q : β → Bool) : ∀ l : List α, idxF q (l.map f) = idxF (fun x => q (f x)) l
  | [] => rfl
  | x :: xs => by simp only [List.map_cons, idxF, idxF_map f q xs]
theorem carry_sc (c : Int) (l : List Ld) (p n : Int) : carryF (l.map (scL c)) p n = ((carryF l p n).1.map (scL c), (carryF l p n).2) := by
  unfold carryF
  dsimp only
  rw [idxF_map]
  have e : (fun x : Ld => decide ((scL c x).p = p)) = fun x : Ld => decide (x.p = p) := rfl
  rw [e]
  split
  · rfl
  · refine Prod.ext ?_ rfl
    dsimp only
    apply List.ext_getElem
    · simp
    · intro k h1 h2
      simp only [List.getElem_modify, List.getElem_map]
      split <;> rfl
theorem tot_sc (c : Int) (l : List Ld) : totF (l.map (scL c)) = totF l := by
  unfold totF
  rw [List.map_map]; rfl
theorem ldOf_sc (c : Int) (ks : List Int) : ldOf (ks.map (· * c)) = (ldOf ks).map (scL c) := by
  unfold ldOf
  apply List.ext_getElem
  · simp
  · intro k h1 h2
    simp [scL]
/-- The paths stay. -/
theorem carry_ps (l : List Ld) (p n : Int) : (carryF l p n).1.map (·.p) = l.map (·.p) ∧ (carryF l p n).1.map (·.w) = l.map (·.w) := by
  unfold carryF
  dsimp only
  split
  · exact ⟨rfl, rfl⟩
  · constructor
    all_goals
      apply List.ext_getElem
      · simp
      · intro k h1 h2
        simp only [List.getElem_map, List.getElem_modify]
        split <;> rfl
theorem ldOf_ps (ks : List Int) : (ldOf ks).map (·.p) = psOf ks.length ∧ (ldOf ks).map (·.w) = ks := by
  constructor
  · unfold ldOf psOf
    apply List.ext_getElem
    · simp
    · intro k h1 h2; simp
  · unfold ldOf
    apply List.ext_getElem
    · simp
    · intro k h1 h2; simp
theorem pick_all {l : List Ld} {n : Nat} (h : l.map (·.p) = psOf n) : (l.filter fun x => decide (x.p ∈ psOf n)) = l := by
  refine List.filter_eq_self.2 fun x hx => ?_
  have : x.p ∈ l.map (·.p) := List.mem_map.2 ⟨x, hx, rfl⟩
  rw [h] at this
  simpa using this
theorem pick_is {l : List Ld} {n : Nat} (h : l.map (·.p) = psOf n) : (pickF l (psOf n)).2 = decide (0 < n) := by
  have hn : l.length = n := by have := congrArg List.length h; rwa [List.length_map, psOf_len] at this
  unfold pickF
  rw [pick_all h]
  cases l with
  | nil => simp at hn; subst hn; rfl
  | cons y ys => simp at hn; subst hn; simp
end Go.Proofs.Ytdgkehoodlncmaa
