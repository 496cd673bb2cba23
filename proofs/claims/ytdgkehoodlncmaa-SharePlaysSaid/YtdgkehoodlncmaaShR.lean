
/- Layer 18 in plain Lean: a call, of both; who is next, one by one. -/
import Derived.Test.YtdgkehoodlncmaaShQ
import Derived.Test.YtdgkehoodlncmaaSl3
namespace Go.Proofs.Ytdgkehoodlncmaa
set_option linter.unusedVariables false
set_option linter.unusedSimpArgs false

structure A18 where
  kind : Int
  path : Int
  bytes : Int
  ws : List Wt
  may : List Int
def doS (l : List Ld) (a : A18) : List Ld := if a.kind = 0 then (setF l (a.ws.take 18)).1 else if a.kind = 1 then l else (carryF l a.path a.bytes).1
theorem doS_ok {B : Int} (hB : 0 ≤ B) {l : List Ld} (h : ShOk B l) (a : A18) : ShOk (B + 1073741824) (doS l a) := by
  unfold doS
  split
  · exact (setF_ok hB h _).mono (by omega)
  · split
    · exact h.mono (by omega)
    · exact carryF_ok h _ _
theorem hasL_any (l : List Ld) (p : Int) : hasL l p = l.any fun y => decide (y.p = p) := by
  unfold hasL hasP
  rw [List.any_map]; rfl
theorem atL_count {l : List Ld} (h : Up16 (l.map toE)) (p : Int) : atL l p = (l.filter fun y => decide (y.p < p)).length := by
  unfold atL atP
  rw [tw_filter h, List.filter_map, List.length_map]; rfl
/-- One carried. -/
def carE (p n : Int) (x : Ld) : Ld := if x.p = p then { x with b := x.b + carN n } else x
theorem carryF_map {B : Int} {l : List Ld} (h : ShOk B l) (p n : Int) : carryF l p n = (l.map (carE p n), l.any fun x => decide (x.p = p)) := by
  unfold carryF
  dsimp only
  rcases idxF_lt (fun x : Ld => decide (x.p = p)) l with hi | ⟨h1, h2, h3, h4⟩
  · rw [if_pos hi]
    have hno : ∀ x ∈ l, x.p ≠ p := fun x hx he => by
      obtain ⟨k, hk, rfl⟩ := List.mem_iff_getElem.1 hx
      have := idxF_ge (fun x : Ld => decide (x.p = p)) l k hk (decide_eq_true he)
      omega
    refine Prod.ext ?_ ?_
    · symm
      refine (List.map_congr_left fun x hx => ?_).trans (List.map_id l)
      unfold carE; rw [if_neg (hno x hx)]; rfl
    · symm
      refine List.any_eq_false.2 fun x hx => ?_
      simpa using hno x hx
  · rw [if_neg (by omega)]
    have hp : (l[(idxF (fun x : Ld => decide (x.p = p)) l).toNat]).p = p := by simpa using h2
    clear h3 h4 h2
    generalize (idxF (fun x : Ld => decide (x.p = p)) l).toNat = i at *
    refine Prod.ext ?_ ?_
    · apply List.ext_getElem
      · simp
      · intro k k1 k2
        rw [List.getElem_modify, List.getElem_map]
        have hk : k < l.length := by simpa using k2
        unfold carE
        by_cases e : i = k
        · subst e; rw [if_pos rfl, if_pos hp]
        · rw [if_neg e, if_neg]
          intro hc
          exact e (upE_inj h.up h1 hk (by rw [hp, hc]))
    · symm
      exact List.any_eq_true.2 ⟨_, List.getElem_mem h1, by simpa using hp⟩
/-- The best so far. -/
def pkA (l : List Ld) (may : List Int) (j : Nat) (b : Int) : Prop :=
  (b = -1 ∧ (l.take j).filter (fun x => decide (x.p ∈ may)) = []) ∨ ∃ (y : Ld) (ys : List Ld) (h : b.toNat < l.length), (l.take j).filter (fun x => decide (x.p ∈ may)) = y :: ys ∧ 0 ≤ b ∧ b < j ∧ l[b.toNat] = minF cmpL y ys
theorem pk_zero (l : List Ld) (may : List Int) : pkA l may 0 (-1) := .inl ⟨rfl, by simp⟩
theorem minF_snoc {α : Type} (c : α → α → Int) (x : α) : ∀ (ys : List α) (m : α), minF c m (ys ++ [x]) = if c x (minF c m ys) < 0 then x else minF c m ys
  | [], m => rfl
  | y :: ys, m => by simp only [List.cons_append, minF]; exact minF_snoc c x ys _
theorem pk_skip {l : List Ld} {may : List Int} {j : Nat} {b : Int} (hj : j < l.length) (h : pkA l may j b) (hn : l[j].p ∉ may) : pkA l may (j + 1) b := by
  have e : (l.take (j + 1)).filter (fun x => decide (x.p ∈ may)) = (l.take j).filter fun x => decide (x.p ∈ may) := by
    rw [← List.take_append_getElem hj, List.filter_append]; simp [hn]
  unfold pkA
  rw [e]
  rcases h with h | ⟨y, ys, h0, h1, h2, h3, h4⟩
  · exact .inl h
  · exact .inr ⟨y, ys, h0, h1, h2, by omega, h4⟩
theorem pk_first {l : List Ld} {may : List Int} {j : Nat} {b : Int} (hj : j < l.length) (h : pkA l may j b) (hi : l[j].p ∈ may) (hb : b < 0) : pkA l may (j + 1) j := by
  have e : (l.take (j + 1)).filter (fun x => decide (x.p ∈ may)) = (l.take j).filter (fun x => decide (x.p ∈ may)) ++ [l[j]] := by
    rw [← List.take_append_getElem hj, List.filter_append]; simp [hi]
  rcases h with ⟨_, h⟩ | ⟨y, ys, h0, h1, h2, h3, h4⟩
  · exact .inr ⟨l[j], [], by simpa using hj, by rw [e, h]; rfl, by omega, by omega, by simp [minF]⟩
  · omega
theorem cmpL_later {l : List Ld} (hu : Up16 (l.map toE)) {i j : Nat} (hi : i < j) (hj : j < l.length) : cmpL l[j] (l[i]'(by omega)) < 0 ↔ l[j].b * (l[i]'(by omega)).w < (l[i]'(by omega)).b * l[j].w := by
  have hp := upE_get hu hi hj
  generalize l[j] = x at *
  generalize l[i]'(by omega) = m at *
  unfold cmpL cmpZ
  generalize x.b * m.w = u
  generalize m.b * x.w = v
  by_cases h1 : u < v
  · simp [h1]
  · by_cases h2 : v < u
    · simp [h1, h2]
    · have h3 : ¬ x.p < m.p := by omega
      simp [h1, h2, h3, hp]
theorem pk_next {l : List Ld} (hu : Up16 (l.map toE)) {may : List Int} {j : Nat} {b : Int} (hj : j < l.length) (h : pkA l may j b) (hi : l[j].p ∈ may) (hb : 0 ≤ b) :
    ∃ h0 : b.toNat < l.length, (l[j].b * l[b.toNat].w < l[b.toNat].b * l[j].w → pkA l may (j + 1) j) ∧ (¬ l[j].b * l[b.toNat].w < l[b.toNat].b * l[j].w → pkA l may (j + 1) b) := by
  have e : (l.take (j + 1)).filter (fun x => decide (x.p ∈ may)) = (l.take j).filter (fun x => decide (x.p ∈ may)) ++ [l[j]] := by
    rw [← List.take_append_getElem hj, List.filter_append]; simp [hi]
  rcases h with ⟨h, _⟩ | ⟨y, ys, h0, h1, h2, h3, h4⟩
  · omega
  · refine ⟨h0, fun hc => ?_, fun hc => ?_⟩
    · refine .inr ⟨y, ys ++ [l[j]], by simpa using hj, by rw [e, h1]; rfl, by omega, by omega, ?_⟩
      rw [minF_snoc, ← h4, if_pos ((cmpL_later hu (by omega) hj).2 hc)]
      simp
    · refine .inr ⟨y, ys ++ [l[j]], h0, by rw [e, h1]; rfl, h2, by omega, ?_⟩
      rw [minF_snoc, ← h4, if_neg fun hq => hc ((cmpL_later hu (by omega) hj).1 hq)]
theorem pk_end {l : List Ld} {may : List Int} {b : Int} (h : pkA l may l.length b) : (b < 0 ∧ pickF l may = (0, false)) ∨ ∃ h0 : b.toNat < l.length, 0 ≤ b ∧ pickF l may = (l[b.toNat].p, true) := by
  unfold pkA at h
  rw [List.take_length] at h
  unfold pickF
  rcases h with ⟨h1, h2⟩ | ⟨y, ys, h0, h1, h2, h3, h4⟩
  · exact .inl ⟨by omega, by rw [h2]⟩
  · exact .inr ⟨h0, h2, by rw [h1, h4]⟩
theorem car_in {B : Int} {l : List Ld} (ok : ShOk B l) {j : Nat} (hj : j < l.length) : carF l l[j].p = l[j].b := by
  unfold carF
  dsimp only
  rcases idxF_lt (fun x : Ld => decide (x.p = l[j].p)) l with hi | ⟨h1, h2, h3, h4⟩
  · have := idxF_ge (fun x : Ld => decide (x.p = l[j].p)) l j hj (decide_eq_true rfl)
    omega
  · rw [if_neg (by omega)]
    have hp : (l[(idxF (fun x : Ld => decide (x.p = l[j].p)) l).toNat]).p = l[j].p := by simpa using h2
    have := upE_inj ok.up h1 hj hp
    simp only [this, hj, List.getElem?_eq_getElem, Option.map_some, Option.getD_some]
/-- The document's: others, or the same? -/
theorem setF_len (l : List Ld) (ws : List Wt) (h : (loadsF ws).length ≠ l.length) : setF l ws = (loadsF ws, true) := by
  unfold setF; rw [allF_len _ _ _ h]; rfl
theorem setF_all (l : List Ld) (ws : List Wt) (h : (loadsF ws).length = l.length) : setF l ws = if (∀ k (h1 : k < (loadsF ws).length) (h2 : k < l.length), sameW (loadsF ws)[k] l[k] = true) then (l, false) else (loadsF ws, true) := by
  unfold setF
  by_cases hq : ∀ k (h1 : k < (loadsF ws).length) (h2 : k < l.length), sameW (loadsF ws)[k] l[k] = true
  · rw [allF_yes _ _ _ h hq, if_pos hq]; rfl
  · rw [if_neg hq]
    simp only [Classical.not_forall] at hq
    obtain ⟨k, h1, h2, h3⟩ := hq
    rw [allF_no _ _ _ k h1 h2 (by simpa using h3)]; rfl
end Go.Proofs.Ytdgkehoodlncmaa
