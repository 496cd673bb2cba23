
/- Layer 24: the document's answer is just the program's, in plain Lean. -/
import Derived.Test.YtekpaepkoeelfaaBufM
import Derived.Test.YtekpaepkoeelfaaDocM
namespace Go.Proofs.Ytekpaepkoeelfaa
open Go.RowKit
set_option linter.unusedVariables false
set_option linter.unusedSimpArgs false

/-! ### A frame -/
def hasF (ps : List (Nat × List UInt8)) (n : Nat) : List Bool := (List.range n).map fun i => (getP ps i).isSome
def prtF (ps : List (Nat × List UInt8)) (n : Nat) : List (List UInt8) := (List.range n).map fun i => (getP ps i).getD []
/-- A frame as the document has it. -/
def docF (f : Fr) : RF := ⟨f.tm, f.t0, hasF f.ps f.n, prtF f.ps f.n⟩
theorem hasF_len (ps : List (Nat × List UInt8)) (n : Nat) : (hasF ps n).length = n := by simp [hasF]
theorem prtF_len (ps : List (Nat × List UInt8)) (n : Nat) : (prtF ps n).length = n := by simp [prtF]
theorem hasF_succ (ps : List (Nat × List UInt8)) (n : Nat) : hasF ps (n + 1) = hasF ps n ++ [(getP ps n).isSome] := by simp [hasF, List.range_succ]
theorem prtF_succ (ps : List (Nat × List UInt8)) (n : Nat) : prtF ps (n + 1) = prtF ps n ++ [(getP ps n).getD []] := by simp [prtF, List.range_succ]
theorem hasF_get (ps : List (Nat × List UInt8)) {n i : Nat} (h : i < n) : (hasF ps n)[i]? = some (getP ps i).isSome := by simp [hasF, h]
theorem prtF_get (ps : List (Nat × List UInt8)) {n i : Nat} (h : i < n) : (prtF ps n)[i]? = some ((getP ps i).getD []) := by simp [prtF, h]
theorem cat_doc (ps : List (Nat × List UInt8)) : ∀ n, catR (prtF ps n) = catF ps n
  | 0 => rfl
  | n + 1 => by rw [prtF_succ, catR_app, cat_doc ps n, catF]; simp [catR]
theorem catF_cons {p : Nat × List UInt8} {ps : List (Nat × List UInt8)} (h : getP ps p.1 = none) : ∀ n, (catF (p :: ps) n).length = (if p.1 < n then p.2.length else 0) + (catF ps n).length
  | 0 => by simp [catF]
  | n + 1 => by
    rw [catF, catF, List.length_append, List.length_append, catF_cons h n, getP]
    by_cases e : p.1 = n
    · subst e
      rw [if_pos rfl, if_neg (by omega), if_pos (by omega), h]
      simp
      omega
    · rw [if_neg e]
      by_cases e2 : p.1 < n
      · rw [if_pos e2, if_pos (by omega)]; omega
      · rw [if_neg e2, if_neg (by omega)]; omega
theorem sum_doc : ∀ {ps : List (Nat × List UInt8)} {n : Nat}, (ps.map (·.1)).Nodup → (∀ p ∈ ps, p.1 < n) → (catF ps n).length = sumP ps
  | [], n, _, _ => by
    have : ∀ n, catF [] n = [] := fun n => by
      induction n with
      | zero => rfl
      | succ n ih => rw [catF, ih]; rfl
    rw [this]; rfl
  | p :: ps, n, hn, hl => by
    simp only [List.map_cons, List.nodup_cons] at hn
    have hg : getP ps p.1 = none := by
      cases hg : getP ps p.1 with
      | none => rfl
      | some s => exact absurd (List.mem_map.2 ⟨_, getP_mem hg, rfl⟩) hn.1
    rw [catF_cons hg, if_pos (hl p (List.mem_cons_self ..)), sum_doc hn.2 fun q hq => hl q (List.mem_cons_of_mem _ hq), sumP]
theorem lack_cons {p : Nat × List UInt8} {ps : List (Nat × List UInt8)} (h : getP ps p.1 = none) : ∀ n, (lackR 0 (hasF (p :: ps) n)).length + (if p.1 < n then 1 else 0) = (lackR 0 (hasF ps n)).length
  | 0 => by simp [hasF, lackR]
  | n + 1 => by
    have ih := lack_cons h n
    rw [hasF_succ, hasF_succ, lackR_app, lackR_app, List.length_append, List.length_append, getP]
    by_cases e : p.1 = n
    · subst e
      rw [if_neg (by omega)] at ih
      rw [if_pos rfl, if_pos (by omega), h]
      simp [lackR]
      omega
    · rw [if_neg e]
      by_cases e2 : p.1 < n
      · rw [if_pos e2] at ih
        rw [if_pos (by omega)]
        simp only [hasF_len]
        omega
      · rw [if_neg e2] at ih
        rw [if_neg (by omega)]
        simp only [hasF_len]
        omega
theorem lack_nil : ∀ n, (lackR 0 (hasF [] n)).length = n
  | 0 => rfl
  | n + 1 => by
    rw [hasF_succ, lackR_app, List.length_append, lack_nil n]
    simp [getP, lackR]
theorem lack_doc : ∀ {ps : List (Nat × List UInt8)} {n : Nat}, (ps.map (·.1)).Nodup → (∀ p ∈ ps, p.1 < n) → (lackR 0 (hasF ps n)).length + ps.length = n
  | [], n, _, _ => by rw [lack_nil]; rfl
  | p :: ps, n, hn, hl => by
    simp only [List.map_cons, List.nodup_cons] at hn
    have hg : getP ps p.1 = none := by
      cases hg : getP ps p.1 with
      | none => rfl
      | some s => exact absurd (List.mem_map.2 ⟨_, getP_mem hg, rfl⟩) hn.1
    have h1 := lack_cons hg n
    rw [if_pos (hl p (List.mem_cons_self ..))] at h1
    have h2 := lack_doc hn.2 fun q hq => hl q (List.mem_cons_of_mem _ hq)
    simp only [List.length_cons]
    omega
theorem docF_ok {f : Fr} (h : f.Ok) : (docF f).Ok := ⟨by simp [docF, prtF_len, hasF_len], by simp [docF, hasF_len]; exact h.n1, fun s hs => by
  unfold docF prtF at hs
  simp only [List.mem_map, List.mem_range] at hs
  obtain ⟨i, _, rfl⟩ := hs
  cases hg : getP f.ps i with
  | none => simp
  | some s => exact h.sz _ (getP_mem hg)⟩
theorem whole_doc {f : Fr} (h : f.Ok) : lackR 0 (docF f).has = [] ↔ wholeF f = true := by
  have h1 := lack_doc h.nd h.lt
  unfold wholeF docF
  dsimp only
  rw [decide_eq_true_eq, ← List.length_eq_zero_iff]
  omega
theorem data_doc {f : Fr} (h : f.Ok) : dataR (docF f) = (dataF f, (sumP f.ps : Int)) := by
  have h1 := sum_doc h.nd h.lt
  unfold dataR
  have h2 : catR (docF f).parts = catF f.ps f.n := cat_doc _ _
  rw [h2, h1]
  refine Prod.ext ?_ rfl
  dsimp only
  unfold dataF
  by_cases hw : wholeF f = true
  · rw [if_pos ((whole_doc h).2 hw), if_pos hw]
  · rw [if_neg (fun q => hw ((whole_doc h).1 q)), if_neg hw]
theorem new_doc (t : Nat) (c now : Int) : docF (newF t c now) = newR t c now := by
  unfold docF newF newR
  dsimp only
  congr 1
  · unfold hasF
    refine List.ext_getElem (by simp) fun i h1 h2 => ?_
    simp [getP]
  · unfold prtF
    refine List.ext_getElem (by simp) fun i h1 h2 => ?_
    simp [getP]
theorem put_doc {f : Fr} (h : f.Ok) (i c : Int) (s : List UInt8) : putR (docF f) i c s = (docF (putF f i c s).1, (putF f i c s).2) := by
  have hl : (docF f).has.length = f.n := hasF_len _ _
  by_cases h1 : c ≠ f.n ∨ i < 0 ∨ c ≤ i
  · have hu : putF f i c s = (f, 4) := by unfold putF; rw [if_pos (by omega)]
    rw [hu]
    unfold putR
    rw [hl, if_pos h1]
  · have hi : i.toNat < f.n := by omega
    have hg : (docF f).has.getD i.toNat false = (getP f.ps i.toNat).isSome := by
      rw [List.getD_eq_getElem?_getD]
      show ((hasF f.ps f.n)[i.toNat]?).getD false = _
      rw [hasF_get _ hi]
      rfl
    by_cases h2 : (getP f.ps i.toNat).isSome = true
    · have hu : putF f i c s = (f, 3) := by unfold putF; rw [if_neg (by omega), if_pos h2]
      rw [hu]
      unfold putR
      rw [hl, if_neg h1, hg, if_pos h2]
    · have hu : putF f i c s = ({ f with ps := f.ps ++ [(i.toNat, s)] }, if f.ps.length + 1 = f.n then 2 else 1) := by unfold putF; rw [if_neg (by omega), if_neg h2]
      rw [hu]
      unfold putR
      rw [hl, if_neg h1, hg, if_neg h2]
      dsimp only
      have hn : getP f.ps i.toNat = none := by
        cases hg : getP f.ps i.toNat with
        | none => rfl
        | some s => rw [hg] at h2; exact absurd rfl h2
      have e1 : (hasF f.ps f.n).set i.toNat true = hasF (f.ps ++ [(i.toNat, s)]) f.n := by
        refine List.ext_getElem (by simp [hasF_len]) fun k k1 k2 => ?_
        rw [List.getElem_set]
        have hk : k < f.n := by rw [hasF_len] at k2; exact k2
        simp only [hasF, List.getElem_map, List.getElem_range, getP_app]
        by_cases e : i.toNat = k
        · subst e
          rw [if_pos rfl, hn]
          simp [getP]
        · rw [if_neg e]
          cases getP f.ps k with
          | none => simp [getP, e]
          | some x => simp
      have e2 : (prtF f.ps f.n).set i.toNat s = prtF (f.ps ++ [(i.toNat, s)]) f.n := by
        refine List.ext_getElem (by simp [prtF_len]) fun k k1 k2 => ?_
        rw [List.getElem_set]
        simp only [prtF, List.getElem_map, List.getElem_range, getP_app]
        by_cases e : i.toNat = k
        · subst e
          rw [if_pos rfl, hn]
          simp [getP]
        · rw [if_neg e]
          cases getP f.ps k with
          | none => simp [getP, e]
          | some x => simp
      have hf : ({ docF f with has := (docF f).has.set i.toNat true, parts := (docF f).parts.set i.toNat s } : RF) = docF { f with ps := f.ps ++ [(i.toNat, s)] } := by
        show RF.mk _ _ _ _ = RF.mk _ _ _ _
        congr 1
      refine Prod.ext hf ?_
      dsimp only
      have h3 := lack_doc (ps := f.ps ++ [(i.toNat, s)]) (n := f.n) (by
        rw [List.map_append]
        exact List.nodup_append.2 ⟨h.nd, by simp, fun a ha b hb => by simp at hb; subst hb; exact fun e => getP_none hn (e ▸ ha)⟩) (fun p hp => by
        rcases List.mem_append.1 hp with hp | hp
        · exact h.lt p hp
        · simp at hp; subst hp; exact hi)
      rw [List.length_append] at h3
      simp only [List.length_cons, List.length_nil] at h3
      have e3 : (lackR 0 ((docF f).has.set i.toNat true)).length = (lackR 0 (hasF (f.ps ++ [(i.toNat, s)]) f.n)).length := by rw [← e1]; rfl
      rw [e3]
      by_cases h4 : f.ps.length + 1 = f.n
      · rw [if_pos h4, if_pos (by omega)]
      · rw [if_neg h4, if_neg (by omega)]
/-! ### A buffer -/
def docB (b : Bu) : RB := ⟨b.cf, b.cp, b.cb, b.l.map docF, b.hz, b.pl, b.dr, b.ev⟩
theorem size_doc : ∀ {l : List Fr}, (∀ f ∈ l, f.Ok) → sizeR (l.map docF) = ((pkts l : Int), (bts l : Int)) := fun {l} h => by
  have key : ∀ (l : List Fr) (x : Int × Int), (∀ f ∈ l, f.Ok) → (l.map docF).foldl (fun x f => (x.1 + ((f.has.length : Int) - (lackR 0 f.has).length), x.2 + (dataR f).2)) x = (x.1 + pkts l, x.2 + bts l) := fun l => by
    induction l with
    | nil => intro x _; simp [pkts, bts]
    | cons f l ih =>
      intro x h
      have hf := h f (List.mem_cons_self ..)
      rw [List.map_cons, List.foldl_cons, ih _ fun g hg => h g (List.mem_cons_of_mem _ hg), data_doc hf, pkts, bts]
      have h1 := lack_doc hf.nd hf.lt
      have h2 : (docF f).has.length = f.n := hasF_len _ _
      have h3 : (lackR 0 (docF f).has).length = (lackR 0 (hasF f.ps f.n)).length := rfl
      rw [h2, h3]
      refine Prod.ext ?_ ?_
      · dsimp only; omega
      · dsimp only; omega
  unfold sizeR
  rw [key l (0, 0) h]
  simp
theorem over_doc {b : Bu} (h : ∀ f ∈ b.l, f.Ok) : overR (docB b) = overB b := by
  unfold overR overB docB
  dsimp only
  rw [size_doc h, List.length_map]
theorem evict_doc {t : Nat} : ∀ (n : Nat) (b : Bu) (k : Int) (e : List Nat), (∀ f ∈ b.l, f.Ok) →
    evictR t n (docB b) k (e.map fun n : Nat => (n : Int)) = (docB (evictB t n b k e).1, (evictB t n b k e).2.1, (evictB t n b k e).2.2.map fun n : Nat => (n : Int))
  | 0, b, k, e, _ => rfl
  | n + 1, b, k, e, h => by
    unfold evictR evictB
    rw [over_doc h]
    by_cases ho : overB b = true
    · rw [if_pos ho, if_pos ho]
      obtain ⟨cf, cp, cb, l, hz, pl, dr, ev⟩ := b
      cases l with
      | nil => rfl
      | cons f l =>
        have ih := evict_doc (t := t) n ⟨cf, cp, cb, l, f.tm, pl, dr, ev + 1⟩ (if f.tm = t then 6 else k) (e ++ [f.tm]) fun g hg => h g (List.mem_cons_of_mem _ hg)
        rw [List.map_append] at ih
        have e1 : (if (docF f).tm = (t : Int) then (6 : Int) else k) = if f.tm = t then 6 else k := by
          show (if (f.tm : Int) = (t : Int) then (6 : Int) else k) = _
          by_cases q : f.tm = t
          · rw [if_pos q, if_pos (by omega)]
          · rw [if_neg q, if_neg (by omega)]
        show evictR t n ⟨cf, cp, cb, l.map docF, f.tm, pl, dr, ev + 1⟩ (if (docF f).tm = (t : Int) then (6 : Int) else k) (e.map (fun n : Nat => (n : Int)) ++ [(f.tm : Int)]) = _
        rw [e1]
        exact ih
    · rw [if_neg ho, if_neg ho]
theorem fold_old {t i c now : Int} {s : List UInt8} : ∀ (l : List RF) (acc : List RF) (k : Int) (d : Bool), (∀ f ∈ l, f.tm ≠ t ∧ ¬ (d = false ∧ t < f.tm)) → l.foldl (stepR t i c now s) (acc, k, d) = (acc ++ l, k, d)
  | [], acc, k, d, _ => by simp
  | f :: l, acc, k, d, h => by
    have h1 := h f (List.mem_cons_self ..)
    have hs : stepR t i c now s (acc, k, d) f = (acc ++ [f], k, d) := by
      unfold stepR
      dsimp only
      rw [if_neg h1.1, if_neg h1.2]
    rw [List.foldl_cons, hs, fold_old l _ k d fun g hg => h g (List.mem_cons_of_mem _ hg)]
    simp
theorem round_doc {b : Bu} {t : Nat} {i c now : Int} {s : List UInt8} (hf : ∀ f ∈ b.l, f.Ok) (hs : b.l.Pairwise fun f g => f.tm < g.tm) (ht : t < 4294967296) (h2 : -1099511627776 ≤ now) (h3 : now ≤ 1099511627776) :
    roundR t i c now s (b.l.map docF) = ((partB (frameB b t c now) (atF b.l t) i c s).1.l.map docF, (partB (frameB b t c now) (atF b.l t) i c s).2) := by
  obtain ⟨cf, cp, cb, l, hz, pl, dr, ev⟩ := b
  dsimp only at hf hs ⊢
  have hle := atF_le l t
  have hA : ∀ f ∈ l.take (atF l t), f.tm < t := fun f hf => by
    obtain ⟨k, hk, rfl⟩ := List.getElem_of_mem hf
    rw [List.length_take] at hk
    rw [List.getElem_take]
    exact atF_lt k (by omega) (by omega)
  have hfa : ((l.take (atF l t)).map docF).foldl (stepR t i c now s) ([], 0, false) = ((l.take (atF l t)).map docF, 0, false) := by
    rw [fold_old _ _ _ _ fun f hf => ?_]
    · simp
    · obtain ⟨g, hg, rfl⟩ := List.mem_map.1 hf
      have := hA g hg
      have e : (docF g).tm = (g.tm : Int) := rfl
      rw [e]
      exact ⟨by omega, fun q => by omega⟩
  have hspl : l.map docF = (l.take (atF l t)).map docF ++ (l.drop (atF l t)).map docF := by rw [← List.map_append, List.take_append_drop]
  unfold roundR
  rw [hspl, List.foldl_append, hfa]
  cases hi : isF l t with
  | true =>
    obtain ⟨f, g1, g2⟩ := isF_some hi
    have hfr : frameB ⟨cf, cp, cb, l, hz, pl, dr, ev⟩ t c now = ⟨cf, cp, cb, l, hz, pl, dr, ev⟩ := by unfold frameB; rw [if_pos hi]
    have hpt : partB ⟨cf, cp, cb, l, hz, pl, dr, ev⟩ (atF l t) i c s = (⟨cf, cp, cb, l.set (atF l t) (putF f i c s).1, hz, pl, dr, ev⟩, (putF f i c s).2) := by unfold partB; dsimp only; rw [g1]
    rw [hfr, hpt]
    obtain ⟨hlt, hge⟩ := List.getElem?_eq_some_iff.1 g1
    have hd : l.drop (atF l t) = f :: l.drop (atF l t + 1) := by rw [List.drop_eq_getElem_cons hlt, hge]
    have hst : stepR t i c now s ((l.take (atF l t)).map docF, 0, false) (docF f) = ((l.take (atF l t)).map docF ++ [docF (putF f i c s).1], (putF f i c s).2, true) := by
      unfold stepR
      have e : (docF f).tm = (t : Int) := by show (f.tm : Int) = t; omega
      dsimp only
      rw [if_pos e, if_neg (fun q => by omega), put_doc (hf f (List.mem_of_getElem? g1))]
    rw [hd, List.map_cons, List.foldl_cons, hst, fold_old _ _ _ _ fun g hg => ?_]
    · rw [if_pos rfl]
      refine Prod.ext ?_ rfl
      dsimp only
      rw [List.set_eq_take_append_cons_drop, if_pos hlt, List.map_append, List.map_cons]
      simp
    · obtain ⟨g', hg', rfl⟩ := List.mem_map.1 hg
      obtain ⟨k, hk, rfl⟩ := List.getElem_of_mem hg'
      rw [List.length_drop] at hk
      rw [List.getElem_drop]
      have := List.pairwise_iff_getElem.1 hs (atF l t) (atF l t + 1 + k) hlt (by omega) (by omega)
      rw [hge] at this
      refine ⟨?_, fun q => by cases q.1⟩
      show ((l[atF l t + 1 + k].tm : Nat) : Int) ≠ t
      omega
  | false =>
    have hfr : frameB ⟨cf, cp, cb, l, hz, pl, dr, ev⟩ t c now = ⟨cf, cp, cb, l.take (atF l t) ++ newF t c now :: l.drop (atF l t), hz, pl, dr, ev⟩ := by unfold frameB; rw [if_neg (by rw [hi]; decide)]
    have hno := newF_ok c ht h2 h3
    have hN : putR (newR t c now) i c s = (docF (putF (newF t c now) i c s).1, (putF (newF t c now) i c s).2) := by rw [← new_doc, put_doc hno]
    have hpt : partB ⟨cf, cp, cb, l.take (atF l t) ++ newF t c now :: l.drop (atF l t), hz, pl, dr, ev⟩ (atF l t) i c s = (⟨cf, cp, cb, l.take (atF l t) ++ (putF (newF t c now) i c s).1 :: l.drop (atF l t), hz, pl, dr, ev⟩, (putF (newF t c now) i c s).2) := by
      unfold partB
      dsimp only
      rw [mid_at _ _ _ hle]
      dsimp only
      refine Prod.ext ?_ rfl
      show Bu.mk _ _ _ _ _ _ _ _ = Bu.mk _ _ _ _ _ _ _ _
      congr 1
      have hl1 : (l.take (atF l t)).length = atF l t := by rw [List.length_take]; omega
      rw [List.set_append_right _ _ (by omega), hl1, Nat.sub_self]
      rfl
    rw [hfr, hpt, hN]
    cases hdr : l.drop (atF l t) with
    | nil => simp
    | cons g B =>
      have hlt : atF l t < l.length := by
        rcases Nat.lt_or_ge (atF l t) l.length with h | h
        · exact h
        · rw [List.drop_eq_nil_of_le h] at hdr; cases hdr
      have hge : l[atF l t] = g := by
        rw [List.drop_eq_getElem_cons hlt] at hdr
        exact (List.cons.inj hdr).1
      have hB : B = l.drop (atF l t + 1) := by
        rw [List.drop_eq_getElem_cons hlt] at hdr
        exact (List.cons.inj hdr).2.symm
      have hg1 := atF_ge hs (atF l t) hlt (Nat.le_refl _)
      have hg2 : g.tm ≠ t := fun e => by
        unfold isF at hi
        rw [List.getElem?_eq_getElem hlt, hge] at hi
        exact absurd e (of_decide_eq_false hi)
      rw [hge] at hg1
      have hst : stepR t i c now s ((l.take (atF l t)).map docF, 0, false) (docF g) = ((l.take (atF l t)).map docF ++ [docF (putF (newF t c now) i c s).1] ++ [docF g], (putF (newF t c now) i c s).2, true) := by
        unfold stepR
        have e : (docF g).tm = (g.tm : Int) := rfl
        dsimp only
        rw [e, if_neg (show ¬ (g.tm : Int) = t by omega), if_pos (show false = false ∧ (t : Int) < g.tm from ⟨rfl, by omega⟩), hN]
      rw [List.map_cons, List.foldl_cons, hst, fold_old _ _ _ _ fun x hx => ?_]
      · rw [if_pos rfl]
        refine Prod.ext ?_ rfl
        simp
      · obtain ⟨g', hg', rfl⟩ := List.mem_map.1 hx
        rw [hB] at hg'
        obtain ⟨k, hk, rfl⟩ := List.getElem_of_mem hg'
        rw [List.length_drop] at hk
        rw [List.getElem_drop]
        have := List.pairwise_iff_getElem.1 hs (atF l t) (atF l t + 1 + k) hlt (by omega) (by omega)
        rw [hge] at this
        refine ⟨?_, fun q => by cases q.1⟩
        show ((l[atF l t + 1 + k].tm : Nat) : Int) ≠ t
        omega
end Go.Proofs.Ytekpaepkoeelfaa
