/- Plain law of layer 12: what pieces say, and which may go together. -/
import Derived.Test.YtjkmnjmmnjhacaaGreatNackMz
import Derived.Test.YtjkmnjmmnjhacaaGreatNotesMz
import Derived.Test.YtjkmnjmmnjhacaaGreatNotes5z
import Derived.Test.YtjkmnjmmnjhacaaGreatCrc2z
namespace Go.Proofs.YtjkmnjmmnjhacaaGreat
open Go.RowKit
set_option linter.unusedVariables false
set_option linter.unusedSimpArgs false

def csum : List UInt8 := [99, 115, 117, 109]
/-- Which kind a piece is read as; 0: none. -/
def sayP (p : Pc) : Int :=
  if ofE p = 0 then 1 else if namesE p = 0 then 2 else if byeE p = 0 then 3 else if appE p = 0 then 4 else if nackE p = 0 then 5 else if linesE p = 0 then 6 else if adsE p = 0 then 7 else 0
/-- What the document says of a piece. -/
def whatP (p : Pc) : Int :=
  if ofE p = 0 then 1 else if namesE p = 0 ∧ namesR p ≠ [] then 2 else if byeE p = 0 then 3 else if appE p = 0 ∧ (appR p).name ≠ csum then 4
  else if nackE p = 0 then 5 else if linesE p = 0 then 6 else if adsE p = 0 then 7 else 0
theorem just_kind {p q : Pc} {k : Int} (h : justE p k q = 0) : p.2.1 = k ∧ q = p := by
  unfold justE at h
  split at h
  · cases h
  · split at h
    · cases h
    · rename_i h1 h2
      exact ⟨Classical.not_not.1 h1, Classical.not_not.1 h2⟩
theorem ofE_kind {p : Pc} (h : ofE p = 0) : p.2.1 = 200 ∨ p.2.1 = 201 := by
  unfold ofE at h
  split at h
  · cases h
  · omega
theorem nackE_kind {p : Pc} (h : nackE p = 0) : p.2.1 = 205 := by
  unfold nackE at h
  split at h
  · cases h
  · omega
theorem linesE_kind {p : Pc} (h : linesE p = 0) : p.2.1 = 211 := by
  unfold linesE at h
  split at h
  · cases h
  · omega
theorem adsE_kind {p : Pc} (h : adsE p = 0) : p.2.1 = 211 := by
  unfold adsE at h
  split at h
  · cases h
  · omega
theorem sayP_cases (p : Pc) : (sayP p = 1 ∧ ofE p = 0) ∨ (sayP p = 2 ∧ ofE p ≠ 0 ∧ namesE p = 0) ∨ (sayP p = 3 ∧ ofE p ≠ 0 ∧ namesE p ≠ 0 ∧ byeE p = 0) ∨ (sayP p = 4 ∧ ofE p ≠ 0 ∧ namesE p ≠ 0 ∧ byeE p ≠ 0 ∧ appE p = 0) ∨
    (sayP p = 5 ∧ ofE p ≠ 0 ∧ namesE p ≠ 0 ∧ byeE p ≠ 0 ∧ appE p ≠ 0 ∧ nackE p = 0) ∨ (sayP p = 6 ∧ ofE p ≠ 0 ∧ namesE p ≠ 0 ∧ byeE p ≠ 0 ∧ appE p ≠ 0 ∧ nackE p ≠ 0 ∧ linesE p = 0) ∨
    (sayP p = 7 ∧ ofE p ≠ 0 ∧ namesE p ≠ 0 ∧ byeE p ≠ 0 ∧ appE p ≠ 0 ∧ nackE p ≠ 0 ∧ linesE p ≠ 0 ∧ adsE p = 0) ∨ (sayP p = 0 ∧ ofE p ≠ 0 ∧ namesE p ≠ 0 ∧ byeE p ≠ 0 ∧ appE p ≠ 0 ∧ nackE p ≠ 0 ∧ linesE p ≠ 0 ∧ adsE p ≠ 0) := by
  unfold sayP
  by_cases h1 : ofE p = 0
  · simp [h1]
  by_cases h2 : namesE p = 0
  · simp [h1, h2]
  by_cases h3 : byeE p = 0
  · simp [h1, h2, h3]
  by_cases h4 : appE p = 0
  · simp [h1, h2, h3, h4]
  by_cases h5 : nackE p = 0
  · simp [h1, h2, h3, h4, h5]
  by_cases h6 : linesE p = 0
  · simp [h1, h2, h3, h4, h5, h6]
  by_cases h7 : adsE p = 0
  · simp [h1, h2, h3, h4, h5, h6, h7]
  · simp [h1, h2, h3, h4, h5, h6, h7]
/-- What the document says, by the kind that a piece is read as. -/
theorem whatP_eq (p : Pc) : whatP p = if (sayP p = 2 ∧ namesR p = []) ∨ (sayP p = 4 ∧ (appR p).name = csum) then 0 else sayP p := by
  have k2 : namesE p = 0 → p.2.1 = 202 := fun h => (just_kind h).1
  have k3 : byeE p = 0 → p.2.1 = 203 := fun h => (just_kind h).1
  have k4 : appE p = 0 → p.2.1 = 204 := fun h => (just_kind h).1
  have k5 := @nackE_kind p
  have k6 := @linesE_kind p
  have k7 := @adsE_kind p
  unfold whatP
  rcases sayP_cases p with ⟨h, h1⟩ | ⟨h, h1, h2⟩ | ⟨h, h1, h2, h3⟩ | ⟨h, h1, h2, h3, h4⟩ | ⟨h, h1, h2, h3, h4, h5⟩ | ⟨h, h1, h2, h3, h4, h5, h6⟩ | ⟨h, h1, h2, h3, h4, h5, h6, h7⟩ | ⟨h, h1, h2, h3, h4, h5, h6, h7⟩
  · rw [h, if_pos h1, if_neg (by omega)]
  · have hk := k2 h2
    rw [h, if_neg h1]
    by_cases hn : namesR p = []
    · rw [if_neg (fun h => h.2 hn), if_neg (fun h => by have := k3 h; omega), if_neg (fun h => by have := k4 h.1; omega), if_neg (fun h => by have := k5 h; omega), if_neg (fun h => by have := k6 h; omega), if_neg (fun h => by have := k7 h; omega), if_pos (.inl ⟨rfl, hn⟩)]
    · rw [if_pos ⟨h2, hn⟩, if_neg (by simp [hn])]
  · rw [h, if_neg h1, if_neg (fun h => h2 h.1), if_pos h3, if_neg (by omega)]
  · have hk := k4 h4
    rw [h, if_neg h1, if_neg (fun h => h2 h.1), if_neg h3]
    by_cases hn : (appR p).name = csum
    · rw [if_neg (fun h => h.2 hn), if_neg (fun h => by have := k5 h; omega), if_neg (fun h => by have := k6 h; omega), if_neg (fun h => by have := k7 h; omega), if_pos (.inr ⟨rfl, hn⟩)]
    · rw [if_pos ⟨h4, hn⟩, if_neg (by simp [hn])]
  · rw [h, if_neg h1, if_neg (fun h => h2 h.1), if_neg h3, if_neg (fun h => h4 h.1), if_pos h5, if_neg (by omega)]
  · rw [h, if_neg h1, if_neg (fun h => h2 h.1), if_neg h3, if_neg (fun h => h4 h.1), if_neg h5, if_pos h6, if_neg (by omega)]
  · rw [h, if_neg h1, if_neg (fun h => h2 h.1), if_neg h3, if_neg (fun h => h4 h.1), if_neg h5, if_neg h6, if_pos h7, if_neg (by omega)]
  · rw [h, if_neg h1, if_neg (fun h => h2 h.1), if_neg h3, if_neg (fun h => h4 h.1), if_neg h5, if_neg h6, if_neg h7, if_neg (by omega)]
/-- What pieces say. -/
structure Bag12 where
  reports : List R8
  names : List N9
  byes : List Y9
  apps : List A9
  nacks : List N10
  lines : List R11
  ads : List S11
def noBag : Bag12 := ⟨[], [], [], [], [], [], []⟩
def tookB (B : Bag12) (p : Pc) : Bag12 :=
  ⟨B.reports ++ (if sayP p = 1 then [ofR p] else []), B.names ++ (if sayP p = 2 then namesR p else []), B.byes ++ (if sayP p = 3 then [byeR p] else []),
   B.apps ++ (if sayP p = 4 ∧ (appR p).name ≠ csum then [appR p] else []), B.nacks ++ (if sayP p = 5 then [nackR p] else []), B.lines ++ (if sayP p = 6 then [linesR p] else []), B.ads ++ (if sayP p = 7 then [adsR p] else [])⟩
def bagOf (ps : List Pc) : Bag12 := ps.foldl tookB noBag
theorem bagOf_snoc (ps : List Pc) (p : Pc) : bagOf (ps ++ [p]) = tookB (bagOf ps) p := by simp [bagOf]
theorem bag_map (ps : List Pc) : bagOf ps = ⟨ps.flatMap fun p => if sayP p = 1 then [ofR p] else [], ps.flatMap fun p => if sayP p = 2 then namesR p else [], ps.flatMap fun p => if sayP p = 3 then [byeR p] else [],
    ps.flatMap fun p => if sayP p = 4 ∧ (appR p).name ≠ csum then [appR p] else [], ps.flatMap fun p => if sayP p = 5 then [nackR p] else [], ps.flatMap fun p => if sayP p = 6 then [linesR p] else [], ps.flatMap fun p => if sayP p = 7 then [adsR p] else []⟩ := by
  have key : ∀ (qs : List Pc) (B : Bag12), qs.foldl tookB B = ⟨B.reports ++ qs.flatMap fun p => if sayP p = 1 then [ofR p] else [], B.names ++ qs.flatMap fun p => if sayP p = 2 then namesR p else [], B.byes ++ qs.flatMap fun p => if sayP p = 3 then [byeR p] else [],
      B.apps ++ qs.flatMap fun p => if sayP p = 4 ∧ (appR p).name ≠ csum then [appR p] else [], B.nacks ++ qs.flatMap fun p => if sayP p = 5 then [nackR p] else [], B.lines ++ qs.flatMap fun p => if sayP p = 6 then [linesR p] else [], B.ads ++ qs.flatMap fun p => if sayP p = 7 then [adsR p] else []⟩ := by
    intro qs
    induction qs with
    | nil => intro B; simp
    | cons q qs ih =>
      intro B
      rw [List.foldl_cons, ih]
      simp only [tookB, List.flatMap_cons, List.append_assoc]
  unfold bagOf
  rw [key]
  rfl
/-- May pieces stand in this order? -/
def badAt (ps : List Pc) (i : Nat) : Prop := ∃ h : i < ps.length, (i = 0 ∧ whatP ps[i] ≠ 1) ∨ (whatP ps[i] = 3 ∧ i + 1 < ps.length)
def formOk (ps : List Pc) : Prop := ps ≠ [] ∧ ps.all mayP = true ∧ (∀ i, ¬ badAt ps i) ∧ ∃ p ∈ ps, whatP p = 2
open Classical in
/-- What is wrong first. -/
noncomputable def cmpE (ps : List Pc) : Int := if ¬ formOk ps then 1 else if ∃ p ∈ ps, whatP p = 0 then 5 else if 1500 < (packP ps).length + 16 then 3 else 0
theorem cmpE_form {ps : List Pc} (h : ¬ formOk ps) : cmpE ps = 1 := by unfold cmpE; rw [if_pos h]
theorem cmpE_zero {ps : List Pc} : cmpE ps = 0 ↔ formOk ps ∧ (∀ p ∈ ps, whatP p ≠ 0) ∧ (packP ps).length + 16 ≤ 1500 := by
  unfold cmpE
  constructor
  · intro h
    split at h
    · cases h
    rename_i h1
    split at h
    · cases h
    rename_i h2
    split at h
    · cases h
    rename_i h3
    exact ⟨Classical.not_not.1 h1, fun p hp h0 => h2 ⟨p, hp, h0⟩, by omega⟩
  · rintro ⟨h1, h2, h3⟩
    rw [if_neg (fun h => h h1), if_neg (fun ⟨p, hp, h0⟩ => h2 p hp h0), if_neg (by omega)]
/-- The last piece. -/
def sumP (d : List UInt8) : Pc := (0, 204, [0, 0, 0, 0] ++ csum ++ d)
def sumOk (p : Pc) : Bool := decide (p.1 = 0 ∧ p.2.1 = 204 ∧ p.2.2.length = 12 ∧ p.2.2.take 8 = [0, 0, 0, 0] ++ csum)
theorem sumOk_iff (p : Pc) : sumOk p = true ↔ ∃ d, d.length = 4 ∧ p = sumP d := by
  obtain ⟨n, k, b⟩ := p
  unfold sumOk sumP
  rw [decide_eq_true_eq]
  constructor
  · rintro ⟨rfl, rfl, h3, h4⟩
    dsimp only at h3 h4 ⊢
    exact ⟨b.drop 8, by rw [List.length_drop]; omega, by rw [← h4, List.take_append_drop]⟩
  · rintro ⟨d, hd, h⟩
    simp only [Prod.mk.injEq] at h
    obtain ⟨rfl, rfl, rfl⟩ := h
    refine ⟨rfl, rfl, ?_, ?_⟩
    · simp [csum, hd]
    · simp [csum]
end Go.Proofs.YtjkmnjmmnjhacaaGreat

