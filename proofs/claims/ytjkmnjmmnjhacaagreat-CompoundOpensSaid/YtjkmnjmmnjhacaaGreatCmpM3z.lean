/- Plain law of layer 12: packed and parsed; a piece more; opened and told again. -/
import Derived.Test.YtjkmnjmmnjhacaaGreatCmpMz
namespace Go.Proofs.YtjkmnjmmnjhacaaGreat
open Go.RowKit
set_option linter.unusedVariables false
set_option linter.unusedSimpArgs false

def sumH : List UInt8 := [128, 204, 0, 3, 0, 0, 0, 0, 99, 115, 117, 109]
theorem packOne_sum (d : List UInt8) (hd : d.length = 4) : packOne (sumP d) = sumH ++ d := by
  unfold packOne sumP
  dsimp only
  have hl : (([0, 0, 0, 0] ++ csum ++ d : List UInt8).length / 4 : Nat) = 3 := by simp [csum, hd]
  rw [hl]
  have h1 : putZ (128 + 0) 1 = [128] := by decide
  have h2 : putZ 204 1 = [204] := by decide
  have h3 : putZ ((3 : Nat) : Int) 2 = [0, 3] := by decide
  rw [h1, h2, h3]
  rfl
theorem sumP_may (d : List UInt8) (hd : d.length = 4) : mayP (sumP d) = true := by
  rw [mayP_iff]
  unfold sumP
  simp [csum, hd]
theorem seal_end (h F : List UInt8) (hF : F.length = 4) : sealS (h ++ F) (((h ++ F).length : Int) - 4) = sealB h [] := by
  have hl : (h ++ F).length = h.length + 4 := by rw [List.length_append, hF]
  unfold sealS sealOk
  rw [if_pos (by rw [decide_eq_true_eq]; omega)]
  have e1 : (((h ++ F).length : Int) - 4).toNat = h.length := by omega
  rw [e1, List.take_left, List.drop_of_length_le (by omega)]
noncomputable def packC (ps : List Pc) : List UInt8 := if cmpE ps = 0 then sealB (packP ps ++ sumH) [] else []
noncomputable def parseC (s : List UInt8) : Int × List Pc :=
  if 1500 < s.length then (3, []) else if rem s ≠ 0 then (4, []) else if (splitP s).1 ≠ 0 then ((splitP s).1, [])
  else if (splitP s).2 = [] then (1, []) else if sumOk ((splitP s).2.getD ((splitP s).2.length - 1) (0, 0, [])) = false then (1, [])
  else if cmpE (splitP s).2.dropLast ≠ 0 then (cmpE (splitP s).2.dropLast, []) else (0, (splitP s).2.dropLast)
theorem last_snoc (l : List Pc) (h : l ≠ []) : l = l.dropLast ++ [l.getD (l.length - 1) (0, 0, [])] := by
  have h2 := List.dropLast_concat_getLast h
  have e : l.getD (l.length - 1) (0, 0, []) = l.getLast h := by
    rw [List.getLast_eq_getElem, List.getD_eq_getElem?_getD, List.getElem?_eq_getElem (by have := List.length_pos_iff.2 h; omega)]
    rfl
  rw [e]
  exact h2.symm
theorem packP_app (ps : List Pc) (q : Pc) (h : (ps ++ [q]).all mayP = true) : packP (ps ++ [q]) = packP ps ++ packOne q := by
  have h1 : ps.all mayP = true := by
    rw [List.all_append] at h
    simp only [Bool.and_eq_true] at h
    exact h.1
  unfold packP
  rw [if_pos h, if_pos h1, List.flatMap_append]
  simp
theorem split_all (s : List UInt8) (h : (splitP s).1 = 0) : (splitP s).2.all mayP = true ∧ (splitP s).2.flatMap packOne = s := by
  have h0 : splitP s = (0, (splitP s).2) := by rw [← h]
  obtain ⟨qs, h1, h2, h3⟩ := pack_run s.length s [] (splitP s).2 (Nat.le_refl _) h0
  rw [List.nil_append] at h1
  rw [h1]
  exact ⟨h2, h3⟩
theorem parse_pack (s : List UInt8) (ps : List Pc) (h : parseC s = (0, ps)) : packC ps = s ∧ cmpE ps = 0 := by
  unfold parseC at h
  split at h
  · simp at h
  rename_i h1
  split at h
  · simp at h
  rename_i h2
  split at h
  · rename_i h3; simp only [Prod.mk.injEq] at h; exact absurd h.1 h3
  rename_i h3
  split at h
  · simp at h
  rename_i h4
  split at h
  · simp at h
  rename_i h5
  split at h
  · rename_i h6; simp only [Prod.mk.injEq] at h; exact absurd h.1 h6
  rename_i h6
  simp only [Prod.mk.injEq, true_and] at h
  have h3' : (splitP s).1 = 0 := Classical.not_not.1 h3
  obtain ⟨ha, hs⟩ := split_all s h3'
  have hlast := last_snoc _ h4
  rw [h] at hlast
  generalize (splitP s).2.getD ((splitP s).2.length - 1) (0, 0, []) = q at *
  obtain ⟨d, hd, rfl⟩ := (sumOk_iff q).1 (by simpa using h5)
  rw [hlast] at ha hs
  have hc : cmpE ps = 0 := by rw [← h]; exact Classical.not_not.1 h6
  have hp := packP_app ps _ ha
  have hpp : packP (ps ++ [sumP d]) = s := by unfold packP; rw [if_pos ha, hs]
  rw [hpp, packOne_sum d hd] at hp
  refine ⟨?_, hc⟩
  unfold packC
  rw [if_pos hc, hp]
  have hr : rem s = 0 := Classical.not_not.1 h2
  have hsr := sealB_rem (packP ps ++ sumH) []
  unfold sealB at hsr ⊢
  have hs2 : s = packP ps ++ sumH ++ d ++ [] := by rw [hp]; simp
  rw [hs2] at hr
  have := field_one (packP ps ++ sumH) [] (fieldB (packP ps ++ sumH) []) d (fieldB_len _ _) hd hsr hr
  rw [this]
  simp
theorem pack_parse (ps : List Pc) (h : cmpE ps = 0) : parseC (packC ps) = (0, ps) ∧ rem (packC ps) = 0 ∧ (packC ps).length ≤ 1500 ∧ packC ps ≠ [] := by
  obtain ⟨hf, hw, hl⟩ := cmpE_zero.1 h
  have hr : rem (packC ps) = 0 := by unfold packC; rw [if_pos h]; exact sealB_rem _ _
  have e : packC ps = packP ps ++ packOne (sumP (fieldB (packP ps ++ sumH) [])) := by
    unfold packC
    rw [if_pos h, packOne_sum _ (fieldB_len _ _)]
    unfold sealB
    simp
  have hd := fieldB_len (packP ps ++ sumH) []
  generalize fieldB (packP ps ++ sumH) [] = d at *
  have ha : (ps ++ [sumP d]).all mayP = true := by rw [List.all_append, hf.2.1]; simp [sumP_may d hd]
  have hpk : packP ps = ps.flatMap packOne := by unfold packP; rw [if_pos hf.2.1]
  have hs : splitP (packC ps) = (0, ps ++ [sumP d]) := by
    rw [e, hpk]
    have := split_pack (ps ++ [sumP d]) ha
    rw [List.flatMap_append] at this
    simpa using this
  have hlen : (packC ps).length ≤ 1500 := by
    rw [e, List.length_append, packOne_sum d hd, List.length_append, hd]
    simp [sumH]
    omega
  refine ⟨?_, hr, hlen, ?_⟩
  · unfold parseC
    rw [if_neg (by omega), if_neg (by simp [hr]), hs]
    dsimp only
    rw [if_neg (by simp), if_neg (by simp)]
    have hg : (ps ++ [sumP d]).getD ((ps ++ [sumP d]).length - 1) (0, 0, []) = sumP d := by simp [List.getD_eq_getElem?_getD]
    rw [hg, if_neg (by rw [(sumOk_iff _).2 ⟨d, hd, rfl⟩]; simp), List.dropLast_concat, if_neg (by simp [h])]
  · rw [e, packOne_sum d hd]
    simp [sumH]
/-- A piece more behind the first one. -/
theorem ins_form (p0 q : Pc) (ps : List Pc) (hq : mayP q = true) (hw : whatP q ≠ 3) (h : formOk (p0 :: ps)) : formOk (p0 :: q :: ps) := by
  obtain ⟨_, h2, h3, r, hr, h4⟩ := h
  have h0 : whatP p0 = 1 := Classical.byContradiction fun hn => h3 0 ⟨by simp, .inl ⟨rfl, hn⟩⟩
  refine ⟨by simp, ?_, ?_, ?_⟩
  · simp only [List.all_cons, Bool.and_eq_true] at h2 ⊢
    exact ⟨h2.1, hq, h2.2⟩
  · rintro i ⟨hi, hb⟩
    match i, hi, hb with
    | 0, hi, hb =>
      simp only [List.getElem_cons_zero, h0] at hb
      rcases hb with hb | hb
      · exact hb.2 rfl
      · exact absurd hb.1 (by decide)
    | 1, hi, hb =>
      simp only [List.getElem_cons_succ, List.getElem_cons_zero] at hb
      rcases hb with hb | hb
      · omega
      · exact hw hb.1
    | i + 2, hi, hb =>
      simp only [List.getElem_cons_succ] at hb
      rcases hb with hb | hb
      · omega
      · have hi2 : i < ps.length := by simpa using hi
        refine h3 (i + 1) ⟨by simpa using hi2, .inr ⟨by simpa using hb.1, ?_⟩⟩
        have := hb.2
        simp only [List.length_cons] at this ⊢
        omega
  · refine ⟨r, ?_, h4⟩
    rcases List.mem_cons.1 hr with h | h
    · simp [h]
    · simp [h]
/-! ### Opened and told again -/
theorem report_again {p : Pc} (hm : mayP p = true) (h : sayP p = 1) : pieceR (ofR p) = p := by
  rw [mayP_iff] at hm
  rcases sayP_cases p with ⟨h', h1⟩ | ⟨h', _⟩ | ⟨h', _⟩ | ⟨h', _⟩ | ⟨h', _⟩ | ⟨h', _⟩ | ⟨h', _⟩ | ⟨h', _⟩
  · exact piece_of p h1 ⟨hm.1, hm.2.1⟩
  all_goals omega
theorem names_again {p : Pc} (h : sayP p = 2) : namesP (namesR p) = p := by
  rcases sayP_cases p with ⟨h', h1⟩ | ⟨h', _, h1⟩ | ⟨h', _⟩ | ⟨h', _⟩ | ⟨h', _⟩ | ⟨h', _⟩ | ⟨h', _⟩ | ⟨h', _⟩
  · omega
  · unfold namesR
    rw [if_pos h1]
    exact (just_kind h1).2
  all_goals omega
theorem bye_again {p : Pc} (h : sayP p = 3) : byeP (byeR p) = p := by
  rcases sayP_cases p with ⟨h', h1⟩ | ⟨h', _⟩ | ⟨h', _, _, h1⟩ | ⟨h', _⟩ | ⟨h', _⟩ | ⟨h', _⟩ | ⟨h', _⟩ | ⟨h', _⟩
  · omega
  · omega
  · unfold byeR
    rw [if_pos h1]
    exact (just_kind h1).2
  all_goals omega
theorem app_again {p : Pc} (h : sayP p = 4) : appP (appR p) = p := by
  rcases sayP_cases p with ⟨h', h1⟩ | ⟨h', _⟩ | ⟨h', _⟩ | ⟨h', _, _, _, h1⟩ | ⟨h', _⟩ | ⟨h', _⟩ | ⟨h', _⟩ | ⟨h', _⟩
  · omega
  · omega
  · omega
  · unfold appR
    rw [if_pos h1]
    exact (just_kind h1).2
  all_goals omega
theorem nack_again {p : Pc} (h : sayP p = 5) : nackP (nackR p) = p := by
  rcases sayP_cases p with ⟨h', h1⟩ | ⟨h', _⟩ | ⟨h', _⟩ | ⟨h', _⟩ | ⟨h', _, _, _, _, h1⟩ | ⟨h', _⟩ | ⟨h', _⟩ | ⟨h', _⟩
  · omega
  · omega
  · omega
  · omega
  · exact nack_back p h1
  all_goals omega
theorem lines_again {p : Pc} (h : sayP p = 6) : linesP (linesR p) = p := by
  rcases sayP_cases p with ⟨h', h1⟩ | ⟨h', _⟩ | ⟨h', _⟩ | ⟨h', _⟩ | ⟨h', _⟩ | ⟨h', _, _, _, _, _, h1⟩ | ⟨h', _⟩ | ⟨h', _⟩
  · omega
  · omega
  · omega
  · omega
  · omega
  · exact lines_back p h1
  all_goals omega
theorem ads_again {p : Pc} (h : sayP p = 7) : adsP (adsR p) = p := by
  rcases sayP_cases p with ⟨h', h1⟩ | ⟨h', _⟩ | ⟨h', _⟩ | ⟨h', _⟩ | ⟨h', _⟩ | ⟨h', _⟩ | ⟨h', _, _, _, _, _, _, h1⟩ | ⟨h', _⟩
  · omega
  · omega
  · omega
  · omega
  · omega
  · omega
  · exact ads_back p h1
  · omega
def noPc : Pc := (0, 0, [])
/-- The pieces of some, those that may be. -/
def eachP {α : Type} (f : α → Pc) (l : List α) : List Pc := (l.map f).filter fun p => p ≠ noPc
theorem may_ne {p : Pc} (h : mayP p = true) : p ≠ noPc := by
  rintro rfl
  rw [mayP_iff] at h
  simp [noPc] at h
end Go.Proofs.YtjkmnjmmnjhacaaGreat

namespace Go.Proofs.YtjkmnjmmnjhacaaGreat
open Go.RowKit
set_option linter.unusedVariables false
set_option linter.unusedSimpArgs false

def isW (w : Int) (p : Pc) : Bool := decide (whatP p = w)
def ofW (w : Int) (ps : List Pc) : List Pc := ps.filter (isW w)
theorem ofW_snoc (w : Int) (ps : List Pc) (p : Pc) : ofW w (ps ++ [p]) = ofW w ps ++ (if whatP p = w then [p] else []) := by
  unfold ofW isW
  rw [List.filter_append, List.filter_cons, List.filter_nil]
  by_cases h : whatP p = w
  · simp [h]
  · simp [h]
theorem flat_filter {α : Type} (g : Pc → List α) (c : Pc → Bool) (c' : Pc → Prop) [DecidablePred c'] : ∀ (ps : List Pc), (∀ p ∈ ps, c' p ↔ c p = true) → (ps.flatMap fun p => if c' p then g p else []) = (ps.filter c).flatMap g
  | [], _ => rfl
  | p :: ps, h => by
    rw [List.flatMap_cons, flat_filter g c c' ps (fun q hq => h q (by simp [hq])), List.filter_cons]
    by_cases hc : c p = true
    · rw [if_pos ((h p (by simp)).2 hc), if_pos hc, List.flatMap_cons]
    · rw [if_neg (fun h2 => hc ((h p (by simp)).1 h2)), if_neg hc, List.nil_append]
theorem say_what {p : Pc} (h : whatP p ≠ 0) : whatP p = sayP p ∧ (sayP p = 4 → (appR p).name ≠ csum) ∧ (sayP p = 2 → namesR p ≠ []) := by
  have e := whatP_eq p
  by_cases hc : (sayP p = 2 ∧ namesR p = []) ∨ (sayP p = 4 ∧ (appR p).name = csum)
  · rw [if_pos hc] at e
    exact absurd e h
  · rw [if_neg hc] at e
    exact ⟨e, fun h4 hn => hc (.inr ⟨h4, hn⟩), fun h2 hn => hc (.inl ⟨h2, hn⟩)⟩
/-- The bag of pieces each of which may be. -/
theorem bag_ok (ps : List Pc) (h : ∀ p ∈ ps, whatP p ≠ 0) : bagOf ps = ⟨(ofW 1 ps).map ofR, (ofW 2 ps).flatMap namesR, (ofW 3 ps).map byeR, (ofW 4 ps).map appR, (ofW 5 ps).map nackR, (ofW 6 ps).map linesR, (ofW 7 ps).map adsR⟩ := by
  rw [bag_map]
  have hs : ∀ (w : Int), ∀ p ∈ ps, sayP p = w ↔ isW w p = true := fun w p hp => by
    unfold isW
    rw [decide_eq_true_eq, (say_what (h p hp)).1]
  have h4 : ∀ p ∈ ps, (sayP p = 4 ∧ (appR p).name ≠ csum) ↔ isW 4 p = true := fun p hp => by
    rw [← hs 4 p hp]
    exact ⟨fun h => h.1, fun h5 => ⟨h5, (say_what (h p hp)).2.1 h5⟩⟩
  rw [flat_filter (fun p => [ofR p]) (isW 1) (fun p => sayP p = 1) ps (hs 1), flat_filter namesR (isW 2) (fun p => sayP p = 2) ps (hs 2), flat_filter (fun p => [byeR p]) (isW 3) (fun p => sayP p = 3) ps (hs 3),
    flat_filter (fun p => [appR p]) (isW 4) (fun p => sayP p = 4 ∧ (appR p).name ≠ csum) ps h4, flat_filter (fun p => [nackR p]) (isW 5) (fun p => sayP p = 5) ps (hs 5), flat_filter (fun p => [linesR p]) (isW 6) (fun p => sayP p = 6) ps (hs 6), flat_filter (fun p => [adsR p]) (isW 7) (fun p => sayP p = 7) ps (hs 7)]
  simp only [← List.map_eq_flatMap]
  rfl
theorem each_map {α : Type} (f : α → Pc) (g : Pc → α) : ∀ (qs : List Pc), (∀ p ∈ qs, f (g p) = p ∧ mayP p = true) → eachP f (qs.map g) = qs
  | [], _ => rfl
  | p :: qs, h => by
    have ih := each_map f g qs fun q hq => h q (by simp [hq])
    unfold eachP at ih ⊢
    obtain ⟨h1, h2⟩ := h p (by simp)
    rw [List.map_cons, List.map_cons, List.filter_cons, if_pos (by rw [h1]; simp [may_ne h2]), ih, h1]
/-- The pieces that a bag is told by. -/
def gotB (B : Bag12) : List Pc :=
  eachP pieceR B.reports ++ (if B.names ≠ [] ∧ namesP B.names ≠ noPc then [namesP B.names] else []) ++ eachP appP B.apps ++ eachP nackP B.nacks ++ eachP linesP B.lines ++ eachP adsP B.ads ++ eachP byeP B.byes
def wantL (ps : List Pc) : List Pc := ofW 1 ps ++ (if (ofW 2 ps).length = 1 then ofW 2 ps else []) ++ ofW 4 ps ++ ofW 5 ps ++ ofW 6 ps ++ ofW 7 ps ++ ofW 3 ps
theorem ofW_mem {w : Int} {ps : List Pc} {p : Pc} (h : p ∈ ofW w ps) : p ∈ ps ∧ whatP p = w := by
  unfold ofW at h
  rw [List.mem_filter] at h
  unfold isW at h
  exact ⟨h.1, by simpa using h.2⟩
theorem got_ok (ps : List Pc) (h : ∀ p ∈ ps, whatP p ≠ 0) (hm : ps.all mayP = true) :
    gotB (bagOf ps) = ofW 1 ps ++ (if (ofW 2 ps).flatMap namesR ≠ [] ∧ namesP ((ofW 2 ps).flatMap namesR) ≠ noPc then [namesP ((ofW 2 ps).flatMap namesR)] else []) ++ ofW 4 ps ++ ofW 5 ps ++ ofW 6 ps ++ ofW 7 ps ++ ofW 3 ps := by
  have hmp : ∀ p ∈ ps, mayP p = true := by simpa using hm
  have key : ∀ {w : Int} {p : Pc}, p ∈ ofW w ps → sayP p = w ∧ mayP p = true := fun {w p} hp => by
    obtain ⟨h1, h2⟩ := ofW_mem hp
    exact ⟨by rw [← (say_what (h p h1)).1]; exact h2, hmp p h1⟩
  rw [bag_ok ps h]
  unfold gotB
  dsimp only
  rw [each_map pieceR ofR _ (fun p hp => ⟨report_again (key hp).2 (key hp).1, (key hp).2⟩), each_map appP appR _ (fun p hp => ⟨app_again (key hp).1, (key hp).2⟩), each_map nackP nackR _ (fun p hp => ⟨nack_again (key hp).1, (key hp).2⟩),
    each_map linesP linesR _ (fun p hp => ⟨lines_again (key hp).1, (key hp).2⟩), each_map adsP adsR _ (fun p hp => ⟨ads_again (key hp).1, (key hp).2⟩), each_map byeP byeR _ (fun p hp => ⟨bye_again (key hp).1, (key hp).2⟩)]
theorem namesP_some {l : List N9} (h : namesP l ≠ noPc) : l.length ≤ 31 ∧ l.all mayN = true ∧ (namesP l).1 = l.length := by
  unfold namesP at h ⊢
  by_cases hc : l.length ≤ 31 ∧ l.all mayN = true
  · rw [if_pos hc]
    exact ⟨hc.1, hc.2, rfl⟩
  · rw [if_neg hc] at h
    exact absurd rfl h
theorem name_facts (ps : List Pc) (h : ∀ p ∈ ps, whatP p ≠ 0) (hm : ps.all mayP = true) : ∀ p ∈ ofW 2 ps, namesP (namesR p) = p ∧ namesR p ≠ [] ∧ (namesR p).all mayN = true ∧ p.1 = (namesR p).length := by
  intro p hp
  have hmp : ∀ p ∈ ps, mayP p = true := by simpa using hm
  obtain ⟨h1, h2⟩ := ofW_mem hp
  obtain ⟨s1, _, s3⟩ := say_what (h p h1)
  have s2 : sayP p = 2 := by rw [← s1]; exact h2
  have e := names_again s2
  have hne : namesP (namesR p) ≠ noPc := by rw [e]; exact may_ne (hmp p h1)
  obtain ⟨n1, n2, n3⟩ := namesP_some hne
  exact ⟨e, s3 s2, n2, by rw [e] at n3; exact n3⟩
theorem got_one (ps : List Pc) (h : ∀ p ∈ ps, whatP p ≠ 0) (hm : ps.all mayP = true) (h2 : (ofW 2 ps).length = 1) : gotB (bagOf ps) = wantL ps := by
  rw [got_ok ps h hm]
  have hn := name_facts ps h hm
  have hmp : ∀ p ∈ ps, mayP p = true := by simpa using hm
  unfold wantL
  rw [if_pos h2]
  obtain ⟨q, hq⟩ : ∃ q, ofW 2 ps = [q] := List.length_eq_one_iff.1 h2
  obtain ⟨n1, n2, _⟩ := hn q (by rw [hq]; simp)
  have hqm : q ∈ ofW 2 ps := by rw [hq]; simp
  have hne := may_ne (hmp q (ofW_mem hqm).1)
  rw [hq]
  simp only [List.flatMap_cons, List.flatMap_nil, List.append_nil]
  rw [n1, if_pos ⟨n2, hne⟩]
theorem got_many (ps : List Pc) (h : ∀ p ∈ ps, whatP p ≠ 0) (hm : ps.all mayP = true) (hx : ∃ p ∈ ps, whatP p = 2) (h2 : (ofW 2 ps).length ≠ 1) :
    (gotB (bagOf ps)).length = (wantL ps).length + (if ((ofW 2 ps).flatMap namesR).length ≤ 31 then 1 else 0) := by
  rw [got_ok ps h hm]
  have hn := name_facts ps h hm
  unfold wantL
  rw [if_neg h2]
  have hall : ((ofW 2 ps).flatMap namesR).all mayN = true := by
    rw [List.all_eq_true]
    intro x hx
    obtain ⟨p, hp, hxp⟩ := List.mem_flatMap.1 hx
    exact List.all_eq_true.1 (hn p hp).2.2.1 x hxp
  have hne : (ofW 2 ps).flatMap namesR ≠ [] := by
    obtain ⟨p, hp, hw⟩ := hx
    have hpm : p ∈ ofW 2 ps := by unfold ofW isW; rw [List.mem_filter]; exact ⟨hp, by simpa using hw⟩
    have := (hn p hpm).2.1
    intro h0
    rw [List.flatMap_eq_nil_iff] at h0
    exact this (h0 p hpm)
  generalize (ofW 2 ps).flatMap namesR = N at *
  by_cases hl : N.length ≤ 31
  · rw [if_pos hl, if_pos ⟨hne, by unfold namesP; rw [if_pos ⟨hl, hall⟩]; simp [noPc]⟩]
    simp
    omega
  · rw [if_neg hl, if_neg (fun h => h.2 (by unfold namesP; rw [if_neg (fun h => hl h.1)]; rfl))]
    simp
/-- How many names there are. -/
def cntN12 (ps : List Pc) : Int := (ofW 2 ps).foldl (fun n p => n + p.1) 0
theorem cntN12_snoc (ps : List Pc) (p : Pc) : cntN12 (ps ++ [p]) = cntN12 ps + (if whatP p = 2 then p.1 else 0) := by
  unfold cntN12
  rw [ofW_snoc, List.foldl_append]
  split
  · rfl
  · simp
theorem cntN12_eq (ps : List Pc) (h : ∀ p ∈ ps, whatP p ≠ 0) (hm : ps.all mayP = true) : cntN12 ps = ((ofW 2 ps).flatMap namesR).length := by
  have hn := name_facts ps h hm
  have key : ∀ (qs : List Pc) (a : Int), (∀ p ∈ qs, p.1 = (namesR p).length) → qs.foldl (fun n p => n + p.1) a = a + ((qs.flatMap namesR).length : Int) := by
    intro qs
    induction qs with
    | nil => intro a _; simp
    | cons q qs ih =>
      intro a hq
      rw [List.foldl_cons, ih _ (fun p hp => hq p (by simp [hp])), hq q (by simp), List.flatMap_cons, List.length_append]
      omega
  unfold cntN12
  rw [key _ 0 (fun p hp => (hn p hp).2.2.2)]
  omega
end Go.Proofs.YtjkmnjmmnjhacaaGreat

