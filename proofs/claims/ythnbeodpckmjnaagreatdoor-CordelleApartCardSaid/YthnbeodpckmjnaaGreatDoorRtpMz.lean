/- Plain law of layer 12: what pieces say, and which may go together. -/
import Derived.Test.YthnbeodpckmjnaaGreatDoorOpenz
import Derived.Test.YthnbeodpckmjnaaGreatDoorQCmp07z
import Derived.Test.YthnbeodpckmjnaaGreatDoorNotes5z
import Derived.Test.YthnbeodpckmjnaaGreatDoorCrc2z
import Derived.Test.YthnbeodpckmjnaaGreatDoorQInz
namespace Go.Proofs.YthnbeodpckmjnaaGreatDoor
open Go.RowKit
set_option linter.unusedVariables false
set_option linter.unusedSimpArgs false

def csum : List UInt8 := [99, 115, 117, 109]
/-- Which kind a piece is read as; 0: none. -/
def sayP (p : Pc) : Int :=
  if ofE p = 0 then 1 else if namesE p = 0 then 2 else if byeE p = 0 then 3 else if appE p = 0 then 4 else if nackE p = 0 then 5 else if linesE p = 0 then 6 else if adsE p = 0 then 7 else 0
/-- What the document says of a piece. -/
def whatP (p : Pc) : Int :=
  if ofE p = 0 then 1 else if namesE p = 0 ∧ namesR p ≠ [] then 2 else if byeE p = 0 then 3 else if appE p = 0 ∧ (appR p).name ≠ csum then 4
  else if nackE p = 0 then 5 else if linesE p = 0 then 6 else if adsE p = 0 then 7 else 0
theorem just_kind {p q : Pc} {k : Int} (h : justE p k q = 0) : p.2.1 = k ∧ q = p := by
  unfold justE at h
  split at h
  · cases h
  · split at h
    · cases h
    · rename_i h1 h2
      exact ⟨Classical.not_not.1 h1, Classical.not_not.1 h2⟩
theorem ofE_kind {p : Pc} (h : ofE p = 0) : p.2.1 = 200 ∨ p.2.1 = 201 := by
  unfold ofE at h
  split at h
  · cases h
  · omega
theorem nackE_kind {p : Pc} (h : nackE p = 0) : p.2.1 = 205 := by
  unfold nackE at h
  split at h
  · cases h
  · omega
theorem linesE_kind {p : Pc} (h : linesE p = 0) : p.2.1 = 211 := by
  unfold linesE at h
  split at h
  · cases h
  · omega
theorem adsE_kind {p : Pc} (h : adsE p = 0) : p.2.1 = 211 := by
  unfold adsE at h
  split at h
  · cases h
  · omega
theorem sayP_cases (p : Pc) : (sayP p = 1 ∧ ofE p = 0) ∨ (sayP p = 2 ∧ ofE p ≠ 0 ∧ namesE p = 0) ∨ (sayP p = 3 ∧ ofE p ≠ 0 ∧ namesE p ≠ 0 ∧ byeE p = 0) ∨ (sayP p = 4 ∧ ofE p ≠ 0 ∧ namesE p ≠ 0 ∧ byeE p ≠ 0 ∧ appE p = 0) ∨
    (sayP p = 5 ∧ ofE p ≠ 0 ∧ namesE p ≠ 0 ∧ byeE p ≠ 0 ∧ appE p ≠ 0 ∧ nackE p = 0) ∨ (sayP p = 6 ∧ ofE p ≠ 0 ∧ namesE p ≠ 0 ∧ byeE p ≠ 0 ∧ appE p ≠ 0 ∧ nackE p ≠ 0 ∧ linesE p = 0) ∨
    (sayP p = 7 ∧ ofE p ≠ 0 ∧ namesE p ≠ 0 ∧ byeE p ≠ 0 ∧ appE p ≠ 0 ∧ nackE p ≠ 0 ∧ linesE p ≠ 0 ∧ adsE p = 0) ∨ (sayP p = 0 ∧ ofE p ≠ 0 ∧ namesE p ≠ 0 ∧ byeE p ≠ 0 ∧ appE p ≠ 0 ∧ nackE p ≠ 0 ∧ linesE p ≠ 0 ∧ adsE p ≠ 0) := by
  unfold sayP
  by_cases h1 : ofE p = 0
  · simp [h1]
  by_cases h2 : namesE p = 0
  · simp [h1, h2]
  by_cases h3 : byeE p = 0
  · simp [h1, h2, h3]
  by_cases h4 : appE p = 0
  · simp [h1, h2, h3, h4]
  by_cases h5 : nackE p = 0
  · simp [h1, h2, h3, h4, h5]
  by_cases h6 : linesE p = 0
  · simp [h1, h2, h3, h4, h5, h6]
  by_cases h7 : adsE p = 0
  · simp [h1, h2, h3, h4, h5, h6, h7]
  · simp [h1, h2, h3, h4, h5, h6, h7]
/-- What the document says, by the kind that a piece is read as. -/
theorem whatP_eq (p : Pc) : whatP p = if (sayP p = 2 ∧ namesR p = []) ∨ (sayP p = 4 ∧ (appR p).name = csum) then 0 else sayP p := by
  have k2 : namesE p = 0 → p.2.1 = 202 := fun h => (just_kind h).1
  have k3 : byeE p = 0 → p.2.1 = 203 := fun h => (just_kind h).1
  have k4 : appE p = 0 → p.2.1 = 204 := fun h => (just_kind h).1
  have k5 := @nackE_kind p
  have k6 := @linesE_kind p
  have k7 := @adsE_kind p
  unfold whatP
  rcases sayP_cases p with ⟨h, h1⟩ | ⟨h, h1, h2⟩ | ⟨h, h1, h2, h3⟩ | ⟨h, h1, h2, h3, h4⟩ | ⟨h, h1, h2, h3, h4, h5⟩ | ⟨h, h1, h2, h3, h4, h5, h6⟩ | ⟨h, h1, h2, h3, h4, h5, h6, h7⟩ | ⟨h, h1, h2, h3, h4, h5, h6, h7⟩
  · rw [h, if_pos h1, if_neg (by omega)]
  · have hk := k2 h2
    rw [h, if_neg h1]
    by_cases hn : namesR p = []
    · rw [if_neg (fun h => h.2 hn), if_neg (fun h => by have := k3 h; omega), if_neg (fun h => by have := k4 h.1; omega), if_neg (fun h => by have := k5 h; omega), if_neg (fun h => by have := k6 h; omega), if_neg (fun h => by have := k7 h; omega), if_pos (.inl ⟨rfl, hn⟩)]
    · rw [if_pos ⟨h2, hn⟩, if_neg (by simp [hn])]
  · rw [h, if_neg h1, if_neg (fun h => h2 h.1), if_pos h3, if_neg (by omega)]
  · have hk := k4 h4
    rw [h, if_neg h1, if_neg (fun h => h2 h.1), if_neg h3]
    by_cases hn : (appR p).name = csum
    · rw [if_neg (fun h => h.2 hn), if_neg (fun h => by have := k5 h; omega), if_neg (fun h => by have := k6 h; omega), if_neg (fun h => by have := k7 h; omega), if_pos (.inr ⟨rfl, hn⟩)]
    · rw [if_pos ⟨h4, hn⟩, if_neg (by simp [hn])]
  · rw [h, if_neg h1, if_neg (fun h => h2 h.1), if_neg h3, if_neg (fun h => h4 h.1), if_pos h5, if_neg (by omega)]
  · rw [h, if_neg h1, if_neg (fun h => h2 h.1), if_neg h3, if_neg (fun h => h4 h.1), if_neg h5, if_pos h6, if_neg (by omega)]
  · rw [h, if_neg h1, if_neg (fun h => h2 h.1), if_neg h3, if_neg (fun h => h4 h.1), if_neg h5, if_neg h6, if_pos h7, if_neg (by omega)]
  · rw [h, if_neg h1, if_neg (fun h => h2 h.1), if_neg h3, if_neg (fun h => h4 h.1), if_neg h5, if_neg h6, if_neg h7, if_neg (by omega)]
/-- What pieces say. -/
structure Bag12 where
  reports : List R8
  names : List N9
  byes : List Y9
  apps : List A9
  nacks : List N10
  lines : List R11
  ads : List S11
def noBag : Bag12 := ⟨[], [], [], [], [], [], []⟩
def tookB (B : Bag12) (p : Pc) : Bag12 :=
  ⟨B.reports ++ (if sayP p = 1 then [ofR p] else []), B.names ++ (if sayP p = 2 then namesR p else []), B.byes ++ (if sayP p = 3 then [byeR p] else []),
   B.apps ++ (if sayP p = 4 ∧ (appR p).name ≠ csum then [appR p] else []), B.nacks ++ (if sayP p = 5 then [nackR p] else []), B.lines ++ (if sayP p = 6 then [linesR p] else []), B.ads ++ (if sayP p = 7 then [adsR p] else [])⟩
def bagOf (ps : List Pc) : Bag12 := ps.foldl tookB noBag
theorem bagOf_snoc (ps : List Pc) (p : Pc) : bagOf (ps ++ [p]) = tookB (bagOf ps) p := by simp [bagOf]
theorem bag_map (ps : List Pc) : bagOf ps = ⟨ps.flatMap fun p => if sayP p = 1 then [ofR p] else [], ps.flatMap fun p => if sayP p = 2 then namesR p else [], ps.flatMap fun p => if sayP p = 3 then [byeR p] else [],
    ps.flatMap fun p => if sayP p = 4 ∧ (appR p).name ≠ csum then [appR p] else [], ps.flatMap fun p => if sayP p = 5 then [nackR p] else [], ps.flatMap fun p => if sayP p = 6 then [linesR p] else [], ps.flatMap fun p => if sayP p = 7 then [adsR p] else []⟩ := by
  have key : ∀ (qs : List Pc) (B : Bag12), qs.foldl tookB B = ⟨B.reports ++ qs.flatMap fun p => if sayP p = 1 then [ofR p] else [], B.names ++ qs.flatMap fun p => if sayP p = 2 then namesR p else [], B.byes ++ qs.flatMap fun p => if sayP p = 3 then [byeR p] else [],
      B.apps ++ qs.flatMap fun p => if sayP p = 4 ∧ (appR p).name ≠ csum then [appR p] else [], B.nacks ++ qs.flatMap fun p => if sayP p = 5 then [nackR p] else [], B.lines ++ qs.flatMap fun p => if sayP p = 6 then [linesR p] else [], B.ads ++ qs.flatMap fun p => if sayP p = 7 then [adsR p] else []⟩ := by
    intro qs
    induction qs with
    | nil => intro B; simp
    | cons q qs ih =>
      intro B
      rw [List.foldl_cons, ih]
      simp only [tookB, List.flatMap_cons, List.append_assoc]
  unfold bagOf
  rw [key]
  rfl
/-- May pieces stand in this order? -/
def badAt (ps : List Pc) (i : Nat) : Prop := ∃ h : i < ps.length, (i = 0 ∧ whatP ps[i] ≠ 1) ∨ (whatP ps[i] = 3 ∧ i + 1 < ps.length)
def formOk12 (ps : List Pc) : Prop := ps ≠ [] ∧ ps.all mayP = true ∧ (∀ i, ¬ badAt ps i) ∧ ∃ p ∈ ps, whatP p = 2
open Classical in
/-- What is wrong first. -/
noncomputable def cmpE (ps : List Pc) : Int := if ¬ formOk12 ps then 1 else if ∃ p ∈ ps, whatP p = 0 then 5 else if 1500 < (packP ps).length + 16 then 3 else 0
theorem cmpE_form {ps : List Pc} (h : ¬ formOk12 ps) : cmpE ps = 1 := by unfold cmpE; rw [if_pos h]
theorem cmpE_zero {ps : List Pc} : cmpE ps = 0 ↔ formOk12 ps ∧ (∀ p ∈ ps, whatP p ≠ 0) ∧ (packP ps).length + 16 ≤ 1500 := by
  unfold cmpE
  constructor
  · intro h
    split at h
    · cases h
    rename_i h1
    split at h
    · cases h
    rename_i h2
    split at h
    · cases h
    rename_i h3
    exact ⟨Classical.not_not.1 h1, fun p hp h0 => h2 ⟨p, hp, h0⟩, by omega⟩
  · rintro ⟨h1, h2, h3⟩
    rw [if_neg (fun h => h h1), if_neg (fun ⟨p, hp, h0⟩ => h2 p hp h0), if_neg (by omega)]
/-- The last piece. -/
def sumP (d : List UInt8) : Pc := (0, 204, [0, 0, 0, 0] ++ csum ++ d)
def sumOk (p : Pc) : Bool := decide (p.1 = 0 ∧ p.2.1 = 204 ∧ p.2.2.length = 12 ∧ p.2.2.take 8 = [0, 0, 0, 0] ++ csum)
theorem sumOk_iff (p : Pc) : sumOk p = true ↔ ∃ d, d.length = 4 ∧ p = sumP d := by
  obtain ⟨n, k, b⟩ := p
  unfold sumOk sumP
  rw [decide_eq_true_eq]
  constructor
  · rintro ⟨rfl, rfl, h3, h4⟩
    dsimp only at h3 h4 ⊢
    exact ⟨b.drop 8, by rw [List.length_drop]; omega, by rw [← h4, List.take_append_drop]⟩
  · rintro ⟨d, hd, h⟩
    simp only [Prod.mk.injEq] at h
    obtain ⟨rfl, rfl, rfl⟩ := h
    refine ⟨rfl, rfl, ?_, ?_⟩
    · simp [csum, hd]
    · simp [csum]
end Go.Proofs.YthnbeodpckmjnaaGreatDoor

namespace Go.Proofs.YthnbeodpckmjnaaGreatDoor
open Go.RowKit
set_option linter.unusedVariables false
set_option linter.unusedSimpArgs false

def sumH : List UInt8 := [128, 204, 0, 3, 0, 0, 0, 0, 99, 115, 117, 109]
theorem packOne_sum (d : List UInt8) (hd : d.length = 4) : packOne (sumP d) = sumH ++ d := by
  unfold packOne sumP
  dsimp only
  have hl : (([0, 0, 0, 0] ++ csum ++ d : List UInt8).length / 4 : Nat) = 3 := by simp [csum, hd]
  rw [hl]
  have h1 : putZ (128 + 0) 1 = [128] := by decide
  have h2 : putZ 204 1 = [204] := by decide
  have h3 : putZ ((3 : Nat) : Int) 2 = [0, 3] := by decide
  rw [h1, h2, h3]
  rfl
theorem sumP_may (d : List UInt8) (hd : d.length = 4) : mayP (sumP d) = true := by
  rw [mayP_iff]
  unfold sumP
  simp [csum, hd]
theorem seal_end (h F : List UInt8) (hF : F.length = 4) : sealS (h ++ F) (((h ++ F).length : Int) - 4) = sealB h [] := by
  have hl : (h ++ F).length = h.length + 4 := by rw [List.length_append, hF]
  unfold sealS sealOk
  rw [if_pos (by rw [decide_eq_true_eq]; omega)]
  have e1 : (((h ++ F).length : Int) - 4).toNat = h.length := by omega
  rw [e1, List.take_left, List.drop_of_length_le (by omega)]
noncomputable def packC (ps : List Pc) : List UInt8 := if cmpE ps = 0 then sealB (packP ps ++ sumH) [] else []
noncomputable def parseC (s : List UInt8) : Int × List Pc :=
  if 1500 < s.length then (3, []) else if rem s ≠ 0 then (4, []) else if (splitP s).1 ≠ 0 then ((splitP s).1, [])
  else if (splitP s).2 = [] then (1, []) else if sumOk ((splitP s).2.getD ((splitP s).2.length - 1) (0, 0, [])) = false then (1, [])
  else if cmpE (splitP s).2.dropLast ≠ 0 then (cmpE (splitP s).2.dropLast, []) else (0, (splitP s).2.dropLast)
theorem last_snoc (l : List Pc) (h : l ≠ []) : l = l.dropLast ++ [l.getD (l.length - 1) (0, 0, [])] := by
  have h2 := List.dropLast_concat_getLast h
  have e : l.getD (l.length - 1) (0, 0, []) = l.getLast h := by
    rw [List.getLast_eq_getElem, List.getD_eq_getElem?_getD, List.getElem?_eq_getElem (by have := List.length_pos_iff.2 h; omega)]
    rfl
  rw [e]
  exact h2.symm
theorem packP_app (ps : List Pc) (q : Pc) (h : (ps ++ [q]).all mayP = true) : packP (ps ++ [q]) = packP ps ++ packOne q := by
  have h1 : ps.all mayP = true := by
    rw [List.all_append] at h
    simp only [Bool.and_eq_true] at h
    exact h.1
  unfold packP
  rw [if_pos h, if_pos h1, List.flatMap_append]
  simp
theorem split_all (s : List UInt8) (h : (splitP s).1 = 0) : (splitP s).2.all mayP = true ∧ (splitP s).2.flatMap packOne = s := by
  have h0 : splitP s = (0, (splitP s).2) := by rw [← h]
  obtain ⟨qs, h1, h2, h3⟩ := pack_run s.length s [] (splitP s).2 (Nat.le_refl _) h0
  rw [List.nil_append] at h1
  rw [h1]
  exact ⟨h2, h3⟩
theorem parse_pack12 (s : List UInt8) (ps : List Pc) (h : parseC s = (0, ps)) : packC ps = s ∧ cmpE ps = 0 := by
  unfold parseC at h
  split at h
  · simp at h
  rename_i h1
  split at h
  · simp at h
  rename_i h2
  split at h
  · rename_i h3; simp only [Prod.mk.injEq] at h; exact absurd h.1 h3
  rename_i h3
  split at h
  · simp at h
  rename_i h4
  split at h
  · simp at h
  rename_i h5
  split at h
  · rename_i h6; simp only [Prod.mk.injEq] at h; exact absurd h.1 h6
  rename_i h6
  simp only [Prod.mk.injEq, true_and] at h
  have h3' : (splitP s).1 = 0 := Classical.not_not.1 h3
  obtain ⟨ha, hs⟩ := split_all s h3'
  have hlast := last_snoc _ h4
  rw [h] at hlast
  generalize (splitP s).2.getD ((splitP s).2.length - 1) (0, 0, []) = q at *
  obtain ⟨d, hd, rfl⟩ := (sumOk_iff q).1 (by simpa using h5)
  rw [hlast] at ha hs
  have hc : cmpE ps = 0 := by rw [← h]; exact Classical.not_not.1 h6
  have hp := packP_app ps _ ha
  have hpp : packP (ps ++ [sumP d]) = s := by unfold packP; rw [if_pos ha, hs]
  rw [hpp, packOne_sum d hd] at hp
  refine ⟨?_, hc⟩
  unfold packC
  rw [if_pos hc, hp]
  have hr : rem s = 0 := Classical.not_not.1 h2
  have hsr := sealB_rem (packP ps ++ sumH) []
  unfold sealB at hsr ⊢
  have hs2 : s = packP ps ++ sumH ++ d ++ [] := by rw [hp]; simp
  rw [hs2] at hr
  have := field_one (packP ps ++ sumH) [] (fieldB (packP ps ++ sumH) []) d (fieldB_len _ _) hd hsr hr
  rw [this]
  simp
theorem pack_parse12 (ps : List Pc) (h : cmpE ps = 0) : parseC (packC ps) = (0, ps) ∧ rem (packC ps) = 0 ∧ (packC ps).length ≤ 1500 ∧ packC ps ≠ [] := by
  obtain ⟨hf, hw, hl⟩ := cmpE_zero.1 h
  have hr : rem (packC ps) = 0 := by unfold packC; rw [if_pos h]; exact sealB_rem _ _
  have e : packC ps = packP ps ++ packOne (sumP (fieldB (packP ps ++ sumH) [])) := by
    unfold packC
    rw [if_pos h, packOne_sum _ (fieldB_len _ _)]
    unfold sealB
    simp
  have hd := fieldB_len (packP ps ++ sumH) []
  generalize fieldB (packP ps ++ sumH) [] = d at *
  have ha : (ps ++ [sumP d]).all mayP = true := by rw [List.all_append, hf.2.1]; simp [sumP_may d hd]
  have hpk : packP ps = ps.flatMap packOne := by unfold packP; rw [if_pos hf.2.1]
  have hs : splitP (packC ps) = (0, ps ++ [sumP d]) := by
    rw [e, hpk]
    have := split_pack (ps ++ [sumP d]) ha
    rw [List.flatMap_append] at this
    simpa using this
  have hlen : (packC ps).length ≤ 1500 := by
    rw [e, List.length_append, packOne_sum d hd, List.length_append, hd]
    simp [sumH]
    omega
  refine ⟨?_, hr, hlen, ?_⟩
  · unfold parseC
    rw [if_neg (by omega), if_neg (by simp [hr]), hs]
    dsimp only
    rw [if_neg (by simp), if_neg (by simp)]
    have hg : (ps ++ [sumP d]).getD ((ps ++ [sumP d]).length - 1) (0, 0, []) = sumP d := by simp [List.getD_eq_getElem?_getD]
    rw [hg, if_neg (by rw [(sumOk_iff _).2 ⟨d, hd, rfl⟩]; simp), List.dropLast_concat, if_neg (by simp [h])]
  · rw [e, packOne_sum d hd]
    simp [sumH]
/-! ### Opened and told again -/
end Go.Proofs.YthnbeodpckmjnaaGreatDoor

namespace Go.Proofs.YthnbeodpckmjnaaGreatDoor
open Go.RowKit
set_option linter.unusedVariables false
set_option linter.unusedSimpArgs false

structure P4 where
  marker : Bool
  kind : Int
  seq : Int
  time : Int
  src : Int
  others : List Int
  hasExt : Bool
  profile : Int
  ext : List UInt8
  data : List UInt8
  pad : Int
  deriving DecidableEq
def may4 (p : P4) : Bool := decide ((0 ≤ p.kind ∧ p.kind ≤ 127) ∧ p.others.length ≤ 15 ∧ (0 ≤ p.profile ∧ p.profile ≤ 65535) ∧ (0 ≤ p.pad ∧ p.pad ≤ 255) ∧ (if p.hasExt = true then p.ext.length % 4 = 0 ∧ p.ext.length ≤ 262140 else p.profile = 0 ∧ p.ext = []))
theorem may4_iff (p : P4) : may4 p = true ↔ ((0 ≤ p.kind ∧ p.kind ≤ 127) ∧ p.others.length ≤ 15 ∧ (0 ≤ p.profile ∧ p.profile ≤ 65535) ∧ (0 ≤ p.pad ∧ p.pad ≤ 255) ∧ (if p.hasExt = true then p.ext.length % 4 = 0 ∧ p.ext.length ≤ 262140 else p.profile = 0 ∧ p.ext = [])) := by unfold may4; rw [decide_eq_true_eq]
def first4 (p : P4) : Int := 128 + p.others.length + (if p.hasExt = true then 16 else 0) + (if 0 < p.pad then 32 else 0)
def second4 (p : P4) : Int := p.kind + (if p.marker = true then 128 else 0)
def extB (p : P4) : List UInt8 := if p.hasExt = true then puts' 2 [p.profile, ((p.ext.length / 4 : Nat) : Int)] ++ p.ext else []
def tailB (n : Int) : List UInt8 := if 0 < n then List.replicate (n - 1).toNat 0 ++ putZ n 1 else []
def body4 (p : P4) : List UInt8 := puts' 1 [first4 p, second4 p] ++ puts' 2 [p.seq] ++ puts' 4 [p.time, p.src] ++ puts' 4 p.others ++ extB p ++ p.data ++ tailB p.pad
def pack4 (p : P4) : List UInt8 := if may4 p = true then body4 p else []
structure P4.Ok (p : P4) : Prop where
  seq : 0 ≤ p.seq ∧ p.seq < 65536
  time : 0 ≤ p.time ∧ p.time < 4294967296
  src : 0 ≤ p.src ∧ p.src < 4294967296
  others : ∀ n ∈ p.others, 0 ≤ n ∧ n < 4294967296
theorem bit_or16 : ∀ n : Nat, n < 16 → bits .or .i64 (128 + (n : Int)) 16 = 128 + n + 16 := by decide +kernel
theorem bit_or32 : ∀ n : Nat, n < 32 → bits .or .i64 (128 + (n : Int)) 32 = 128 + n + 32 := by decide +kernel
theorem bit_or128 : ∀ n : Nat, n < 128 → bits .or .i64 (n : Int) 128 = n + 128 := by decide +kernel
theorem bit_192 : ∀ n : Nat, n < 256 → bits .and .i64 (n : Int) 192 = 64 * (n / 64 : Nat) := by decide +kernel
theorem bit_128 : ∀ n : Nat, n < 256 → bits .and .i64 (n : Int) 128 = 128 * (n / 128 : Nat) := by decide +kernel
theorem bit_16 : ∀ n : Nat, n < 256 → bits .and .i64 (n : Int) 16 = 16 * (n / 16 % 2 : Nat) := by decide +kernel
theorem bit_15 : ∀ n : Nat, n < 256 → bits .and .i64 (n : Int) 15 = (n % 16 : Nat) := by decide +kernel
theorem bit_32 : ∀ n : Nat, n < 256 → bits .and .i64 (n : Int) 32 = 32 * (n / 32 % 2 : Nat) := by decide +kernel
end Go.Proofs.YthnbeodpckmjnaaGreatDoor
namespace Go.Proofs.YthnbeodpckmjnaaGreatDoor
open Go.RowKit
set_option linter.unusedVariables false
set_option linter.unusedSimpArgs false

/-- So many numbers of four bytes. -/
def wds (n : Nat) (l : List UInt8) : List Int := (List.range n).map fun i => (getN ((l.drop (4 * i)).take 4) : Int)
theorem wds_len (n : Nat) (l : List UInt8) : (wds n l).length = n := by simp [wds]
theorem wds_in (n : Nat) (l : List UInt8) : ∀ m ∈ wds n l, 0 ≤ m ∧ m < 4294967296 := by
  intro m hm
  obtain ⟨i, _, rfl⟩ := List.mem_map.1 hm
  have h1 := getN_lt ((l.drop (4 * i)).take 4)
  have h2 : ((l.drop (4 * i)).take 4).length ≤ 4 := by rw [List.length_take]; omega
  have h3 : (256 : Nat) ^ ((l.drop (4 * i)).take 4).length ≤ 256 ^ 4 := Nat.pow_le_pow_right (by decide) h2
  have h4 : (256 : Nat) ^ 4 = 4294967296 := by decide
  omega
theorem wds_succ (n : Nat) (l : List UInt8) : wds (n + 1) l = wds n l ++ [(getN ((l.drop (4 * n)).take 4) : Int)] := by
  unfold wds
  rw [List.range_succ, List.map_append]
  rfl
theorem put_wds (n : Nat) (l : List UInt8) (h : 4 * n ≤ l.length) : puts' 4 (wds n l) = l.take (4 * n) := by
  induction n with
  | zero => simp [wds, puts']
  | succ n ih =>
    rw [wds_succ, puts'_snoc, ih (by omega), putZ_take l (4 * n) 4 (by omega), show 4 * (n + 1) = 4 * n + 4 by omega, List.take_add]
def no4 : P4 := ⟨false, 0, 0, 0, 0, [], false, 0, [], [], 0⟩
/-- What lies behind the header is padded wrongly. -/
def lastB (d : List UInt8) : Nat := (d.getD (d.length - 1) 0).toNat
def padBad (d : List UInt8) : Prop := d = [] ∨ lastB d = 0 ∨ d.length < lastB d ∨ (d.drop (d.length - lastB d)).take (lastB d - 1) ≠ List.replicate (lastB d - 1) 0
instance decPad (d : List UInt8) : Decidable (padBad d) := by unfold padBad; infer_instance
def b0 (s : List UInt8) : Nat := (s.getD 0 0).toNat
def b1 (s : List UInt8) : Nat := (s.getD 1 0).toNat
def oth (s : List UInt8) : Nat := 12 + 4 * (b0 s % 16)
def hasX (s : List UInt8) : Bool := decide (b0 s / 16 % 2 = 1)
def xlen (s : List UInt8) : Nat := 4 * getN ((s.drop (oth s + 2)).take 2)
def atD (s : List UInt8) : Nat := if hasX s = true then oth s + 4 + xlen s else oth s
def base4 (s : List UInt8) : P4 :=
  ⟨decide (128 ≤ b1 s), (b1 s % 128 : Nat), getN ((s.drop 2).take 2), getN ((s.drop 4).take 4), getN ((s.drop 8).take 4), wds (b0 s % 16) (s.drop 12), hasX s,
    if hasX s = true then getN ((s.drop (oth s)).take 2) else 0, if hasX s = true then (s.drop (oth s + 4)).take (xlen s) else [], s.drop (atD s), 0⟩
def parse4 (s : List UInt8) : P4 × Int :=
  if s.length < 12 then (no4, 2) else if b0 s / 64 ≠ 2 then (no4, 1) else if s.length < oth s then (no4, 2) else if hasX s = true ∧ s.length < oth s + 4 then (no4, 2)
  else if hasX s = true ∧ s.length < atD s then (no4, 2) else if b0 s / 32 % 2 = 1 then
    (if padBad (s.drop (atD s)) then (no4, 1) else ({ base4 s with data := (s.drop (atD s)).take ((s.drop (atD s)).length - lastB (s.drop (atD s))), pad := lastB (s.drop (atD s)) }, 0))
  else (base4 s, 0)
end Go.Proofs.YthnbeodpckmjnaaGreatDoor
namespace Go.Proofs.YthnbeodpckmjnaaGreatDoor
open Go.RowKit
set_option linter.unusedVariables false
set_option linter.unusedSimpArgs false

theorem put_byte (n : Nat) (h : n < 256) : putZ (n : Int) 1 = [UInt8.ofNat n] := by
  simp only [putZ, Int.pow_zero, Int.ediv_one, List.append_nil, List.nil_append, List.cons.injEq, and_true]
  congr 1
  omega
theorem pad_back (d : List UInt8) (h : ¬ padBad d) : d.take (d.length - lastB d) ++ tailB (lastB d) = d ∧ 0 < lastB d ∧ lastB d ≤ 255 := by
  unfold padBad at h
  rw [not_or, not_or, not_or] at h
  obtain ⟨h1, h2, h3, h4⟩ := h
  have hlt : lastB d < 256 := UInt8.toNat_lt _
  have hd : 0 < d.length := List.length_pos_iff.2 h1
  have h4 : (d.drop (d.length - lastB d)).take (lastB d - 1) = List.replicate (lastB d - 1) 0 := Classical.not_not.1 h4
  have hl : d.drop (d.length - 1) = [UInt8.ofNat (lastB d)] := by
    rw [List.drop_eq_getElem_cons (by omega), List.drop_of_length_le (by omega)]
    have : lastB d = d[d.length - 1].toNat := by unfold lastB; rw [List.getD_eq_getElem?_getD, List.getElem?_eq_getElem (by omega)]; rfl
    rw [this]
    simp
  refine ⟨?_, by omega, by omega⟩
  unfold tailB
  rw [if_pos (by omega), put_byte _ hlt, ← hl, show ((lastB d : Int) - 1).toNat = lastB d - 1 by omega, ← h4, bchunk d (d.length - lastB d) (lastB d - 1) (d.length - 1) (by omega), List.take_append_drop]
theorem pack_parse (s : List UInt8) (p : P4) (h : parse4 s = (p, 0)) (hl : s.length ≤ 262140) : body4 p = s ∧ may4 p = true ∧ p.Ok := by
  unfold parse4 at h
  split at h
  · simp only [Prod.mk.injEq] at h; omega
  rename_i c1
  split at h
  · simp only [Prod.mk.injEq] at h; omega
  rename_i c2
  split at h
  · simp only [Prod.mk.injEq] at h; omega
  rename_i c3
  split at h
  · simp only [Prod.mk.injEq] at h; omega
  rename_i c4
  split at h
  · simp only [Prod.mk.injEq] at h; omega
  rename_i c5
  have key : ∀ (d : List UInt8) (n : Nat), d ++ tailB n = s.drop (atD s) → n ≤ 255 → ((0 < n) ↔ b0 s / 32 % 2 = 1) → body4 { base4 s with data := d, pad := n } = s ∧ may4 { base4 s with data := d, pad := n } = true ∧ P4.Ok { base4 s with data := d, pad := n } := by
    intro d n hd hn hn32
    have hb0 : b0 s < 256 := UInt8.toNat_lt _
    have hb1 : b1 s < 256 := UInt8.toNat_lt _
    have g2 := getN_lt ((s.drop 2).take 2)
    have g4 := getN_lt ((s.drop 4).take 4)
    have g8 := getN_lt ((s.drop 8).take 4)
    have go := getN_lt ((s.drop (oth s)).take 2)
    have gx := getN_lt ((s.drop (oth s + 2)).take 2)
    have e2 : ((s.drop 2).take 2).length = 2 := by rw [List.length_take, List.length_drop]; omega
    have e4 : ((s.drop 4).take 4).length = 4 := by rw [List.length_take, List.length_drop]; omega
    have e8 : ((s.drop 8).take 4).length = 4 := by rw [List.length_take, List.length_drop]; omega
    rw [e2, show (256 : Nat) ^ 2 = 65536 by decide] at g2
    rw [e4, show (256 : Nat) ^ 4 = 4294967296 by decide] at g4
    rw [e8, show (256 : Nat) ^ 4 = 4294967296 by decide] at g8
    have ho : P4.Ok { base4 s with data := d, pad := n } := ⟨by unfold base4; dsimp only; omega, by unfold base4; dsimp only; omega, by unfold base4; dsimp only; omega, by unfold base4; dsimp only; exact wds_in _ _⟩
    have hw : puts' 4 (wds (b0 s % 16) (s.drop 12)) = (s.drop 12).take (4 * (b0 s % 16)) := put_wds _ _ (by rw [List.length_drop]; unfold oth at c3; omega)
    have hother : oth s = 12 + 4 * (b0 s % 16) := rfl
    have hH : puts' 1 [first4 { base4 s with data := d, pad := n }, second4 { base4 s with data := d, pad := n }] = s.take 2 := by
      have ef : first4 { base4 s with data := d, pad := n } = (b0 s : Int) := by
        unfold first4 base4 hasX
        dsimp only
        rw [wds_len]
        by_cases h16 : b0 s / 16 % 2 = 1
        · rw [if_pos (decide_eq_true h16)]
          by_cases h32 : b0 s / 32 % 2 = 1
          · rw [if_pos (by have := hn32.2 h32; omega)]; omega
          · rw [if_neg (fun hh => h32 (hn32.1 (by omega)))]; omega
        · rw [if_neg (fun hh => h16 (of_decide_eq_true hh))]
          by_cases h32 : b0 s / 32 % 2 = 1
          · rw [if_pos (by have := hn32.2 h32; omega)]; omega
          · rw [if_neg (fun hh => h32 (hn32.1 (by omega)))]; omega
      have es : second4 { base4 s with data := d, pad := n } = (b1 s : Int) := by
        unfold second4 base4
        dsimp only
        by_cases h1 : 128 ≤ b1 s
        · rw [if_pos (decide_eq_true h1)]; omega
        · rw [if_neg (fun hh => h1 (of_decide_eq_true hh))]; omega
      rw [ef, es]
      have e : puts' 1 [(b0 s : Int), (b1 s : Int)] = [UInt8.ofNat (b0 s), UInt8.ofNat (b1 s)] := by simp [puts', put_byte _ hb0, put_byte _ hb1]
      rw [e]
      match s, c1 with
      | x :: y :: t, _ => simp [b0, b1]
      | [x], c1 => simp at c1
      | [], c1 => simp at c1
    have hX : extB { base4 s with data := d, pad := n } ++ (d ++ tailB n) = s.drop (oth s) := by
      rw [hd]
      unfold extB base4
      dsimp only
      by_cases hx : hasX s = true
      · have c4' : ¬ s.length < oth s + 4 := fun hh => c4 ⟨hx, hh⟩
        have c5' : ¬ s.length < atD s := fun hh => c5 ⟨hx, hh⟩
        have hat : atD s = oth s + 4 + xlen s := by unfold atD; rw [if_pos hx]
        simp only [hx, if_true]
        have ex : ((s.drop (oth s + 4)).take (xlen s)).length = xlen s := by rw [List.length_take, List.length_drop]; omega
        have ex4 : xlen s / 4 = getN ((s.drop (oth s + 2)).take 2) := by unfold xlen; omega
        rw [ex, ex4]
        have p2 : puts' 2 [(getN ((s.drop (oth s)).take 2) : Int), (getN ((s.drop (oth s + 2)).take 2) : Int)] = (s.drop (oth s)).take 2 ++ (s.drop (oth s + 2)).take 2 := by
          simp only [puts', List.flatMap_cons, List.flatMap_nil, List.append_nil]
          rw [putZ_take s (oth s) 2 (by omega), putZ_take s (oth s + 2) 2 (by omega)]
        rw [p2, hat]
        simp only [List.append_assoc]
        rw [bchunk s (oth s + 4) (xlen s) _ rfl, bchunk s (oth s + 2) 2 (oth s + 4) rfl, bchunk s (oth s) 2 (oth s + 2) rfl]
      · have hat : atD s = oth s := by unfold atD; rw [if_neg hx]
        rw [if_neg hx, hat]
        rfl
    refine ⟨?_, ?_, ho⟩
    · unfold body4
      rw [hH]
      have e1 : puts' 2 [({ base4 s with data := d, pad := n } : P4).seq] = (s.drop 2).take 2 := by
        rw [puts1]; unfold base4; dsimp only; exact putZ_take s 2 2 (by omega)
      have e2' : puts' 4 [({ base4 s with data := d, pad := n } : P4).time, ({ base4 s with data := d, pad := n } : P4).src] = (s.drop 4).take 4 ++ (s.drop 8).take 4 := by
        simp only [puts', List.flatMap_cons, List.flatMap_nil, List.append_nil]
        unfold base4
        dsimp only
        rw [putZ_take s 4 4 (by omega), putZ_take s 8 4 (by omega)]
      have e3 : puts' 4 ({ base4 s with data := d, pad := n } : P4).others = (s.drop 12).take (4 * (b0 s % 16)) := hw
      rw [e1, e2', e3]
      simp only [List.append_assoc]
      rw [hX, hother, bchunk s 12 (4 * (b0 s % 16)) _ rfl, bchunk s 8 4 12 rfl, bchunk s 4 4 8 rfl, bchunk s 2 2 4 rfl, List.take_append_drop]
    · rw [may4_iff]
      unfold base4
      dsimp only
      rw [wds_len]
      refine ⟨by omega, by omega, ?_, by omega, ?_⟩
      · by_cases hx : hasX s = true
        · rw [if_pos hx]
          have c4' : ¬ s.length < oth s + 4 := fun hh => c4 ⟨hx, hh⟩
          have : ((s.drop (oth s)).take 2).length = 2 := by rw [List.length_take, List.length_drop]; omega
          rw [this, show (256 : Nat) ^ 2 = 65536 by decide] at go
          omega
        · rw [if_neg hx]; omega
      · by_cases hx : hasX s = true
        · have c5' : ¬ s.length < atD s := fun hh => c5 ⟨hx, hh⟩
          have hat : atD s = oth s + 4 + xlen s := by unfold atD; rw [if_pos hx]
          have ex : ((s.drop (oth s + 4)).take (xlen s)).length = xlen s := by rw [List.length_take, List.length_drop]; omega
          simp only [hx, if_true]
          rw [ex]
          refine ⟨by unfold xlen; omega, by omega⟩
        · rw [if_neg hx, if_neg hx, if_neg hx]
          exact ⟨rfl, rfl⟩
  split at h
  · rename_i c6
    split at h
    · simp only [Prod.mk.injEq] at h; omega
    · rename_i c7
      obtain ⟨k1, k2, k3⟩ := pad_back _ c7
      simp only [Prod.mk.injEq, and_true] at h
      subst h
      exact key _ (lastB (s.drop (atD s))) k1 k3 ⟨fun _ => c6, fun _ => k2⟩
  · rename_i c6
    simp only [Prod.mk.injEq, and_true] at h
    subst h
    have e : base4 s = { base4 s with data := s.drop (atD s), pad := ((0 : Nat) : Int) } := rfl
    rw [e]
    exact key (s.drop (atD s)) 0 (by show s.drop (atD s) ++ [] = _; rw [List.append_nil]) (by omega) ⟨fun hh => by omega, fun hh => absurd hh c6⟩
end Go.Proofs.YthnbeodpckmjnaaGreatDoor

