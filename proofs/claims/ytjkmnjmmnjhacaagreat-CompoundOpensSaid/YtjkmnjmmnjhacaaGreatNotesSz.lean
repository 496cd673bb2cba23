/- Notes and their pieces, back and forth: the plain law of layer 9. -/
import Derived.Test.YtjkmnjmmnjhacaaGreatNotes5z
namespace Go.Proofs.YtjkmnjmmnjhacaaGreat
open Go.RowKit
set_option linter.unusedVariables false
set_option linter.unusedSimpArgs false

theorem raw_app (s r : List UInt8) (n : Int) (h : n = s.length) : rawT (s ++ r) n = s := by
  subst h
  unfold rawT
  rw [if_pos (by rw [List.length_append]; omega)]
  simp
theorem nxr_app (s r : List UInt8) (n : Int) (h : n = s.length) : nxr n (s ++ r, 0) = (r, 0) := by
  subst h
  unfold nxr rawL rawE
  have : ((s.length : Int)) ≤ ((s ++ r).length : Int) := by rw [List.length_append]; omega
  dsimp only
  rw [if_pos this, if_pos this]
  simp
theorem nx_app (s r : List UInt8) (k : Nat) (h : s.length = k) : nx k (s ++ r, 0) = (r, 0) := nxr_app s r k (by rw [h])
theorem vl_app (s r : List UInt8) (k : Nat) (h : s.length = k) : vl k (s ++ r, 0) = getN s := by
  unfold vl
  dsimp only
  rw [raw_app s r k (by rw [h])]
theorem vl_put (a : Int) (k m : Nat) (r : List UInt8) (hm : 256 ^ k = m) (ha : 0 ≤ a ∧ a < m) : vl k (putZ a k ++ r, 0) = a := by
  rw [vl_app _ _ _ (putZ_length a k), getN_putZ, ← pow_cast, hm]
  exact Int.emod_eq_of_lt ha.1 ha.2
theorem nx_put (a : Int) (k : Nat) (r : List UInt8) : nx k (putZ a k ++ r, 0) = (r, 0) := nx_app _ _ _ (putZ_length a k)
theorem rdWs_put (l : List Int) (hl : ∀ n ∈ l, 0 ≤ n ∧ n < 4294967296) (r : List UInt8) : rdWs l.length (puts' 4 l ++ r, 0) = l ∧ nxWs l.length (puts' 4 l ++ r, 0) = (r, 0) := by
  induction l with
  | nil => exact ⟨rfl, rfl⟩
  | cons a l ih =>
    have e : puts' 4 (a :: l) ++ r = putZ a 4 ++ (puts' 4 l ++ r) := by simp [puts']
    have h := ih fun n hn => hl n (by simp [hn])
    rw [e, List.length_cons, rdWs, nxWs, nx_put, vl_put a 4 4294967296 _ (by decide) (hl a (by simp)), h.1, h.2]
    exact ⟨rfl, rfl⟩
theorem rawY_bye (b : Y9) (ho : b.Ok) (hm : mayY b = true) : rawY (byeP b) = b := by
  obtain ⟨r, ss⟩ := b
  have hb : byeP ⟨r, ss⟩ = ((ss.length : Int), 203, puts' 4 ss ++ reasonB r) := by unfold byeP; rw [if_pos hm]
  unfold mayY at hm
  rw [decide_eq_true_eq] at hm
  dsimp only at hm
  obtain ⟨h1, h2⟩ := rdWs_put ss ho.srcs (reasonB r)
  rw [hb]
  unfold rawY
  dsimp only
  have hc : cnt32 (ss.length : Int) = ss.length := by unfold cnt32; omega
  rw [hc, h1, h2]
  dsimp only
  by_cases hr : r = []
  · subst hr
    rfl
  · have e : reasonB r = putZ (r.length : Int) 1 ++ (r ++ zer (padN (1 + r.length) 0)) := by unfold reasonB; rw [if_neg hr]; simp [puts']
    have hne : reasonB r ≠ [] := by rw [e]; intro h; have := congrArg List.length h; simp [putZ_length] at this
    rw [if_neg hne, e, nx_put, vl_put (r.length : Int) 1 256 _ (by decide) (by omega)]
    dsimp only
    rw [raw_app r _ _ rfl]
theorem byeP_none (b : Y9) : byeP b = (0, 0, []) ↔ mayY b = false := by
  unfold byeP
  cases h : mayY b with
  | false => simp
  | true =>
    rw [if_pos rfl]
    constructor
    · intro e; have := congrArg (fun q : Pc => q.2.1) e; cases this
    · intro e; cases e
theorem rdN_item (x : N9) (ho : x.Ok) (hm : mayN x = true) (r : List UInt8) : rdN (itemB x ++ r, 0) = x ∧ nxN (itemB x ++ r, 0) = (r, 0) := by
  obtain ⟨s, t⟩ := x
  unfold mayN at hm
  rw [decide_eq_true_eq] at hm
  dsimp only at hm
  have e : itemB ⟨s, t⟩ ++ r = putZ s 4 ++ (putZ 1 1 ++ (putZ (t.length : Int) 1 ++ (t ++ (zer (padN (6 + t.length) 1) ++ r)))) := by unfold itemB; simp [puts']
  have h1 : rdN (itemB ⟨s, t⟩ ++ r, 0) = ⟨s, t⟩ := by
    unfold rdN
    rw [e, vl_put s 4 4294967296 _ (by decide) ho.1, nx_put, nx_put, nx_put, vl_put (t.length : Int) 1 256 _ (by decide) (by omega)]
    dsimp only
    rw [raw_app t _ _ rfl]
  refine ⟨h1, ?_⟩
  unfold nxN
  rw [h1]
  rw [e, nx_put, nx_put, nx_put, vl_put (t.length : Int) 1 256 _ (by decide) (by omega)]
  rw [nxr_app t _ _ rfl, nxr_app _ r _ (by rw [zer_len]; unfold padN; dsimp only; omega)]
theorem runN_items (l : List N9) (ho : ∀ x ∈ l, x.Ok) (hm : l.all mayN = true) (f : Nat) (acc : List N9) (h : l.length < f) : runN f (l.flatMap itemB, 0) acc = acc ++ l := by
  induction l generalizing f acc with
  | nil =>
    cases f with
    | zero => omega
    | succ f => simp [runN]
  | cons x l ih =>
    cases f with
    | zero => omega
    | succ f =>
      simp only [List.all_cons, Bool.and_eq_true] at hm
      obtain ⟨h1, h2⟩ := rdN_item x (ho x (by simp)) hm.1 (l.flatMap itemB)
      have hne : (itemB x ++ l.flatMap itemB) ≠ [] := by
        intro h
        have := congrArg List.length h
        rw [List.length_append, itemB_len] at this
        simp at this
      rw [List.flatMap_cons, runN, if_neg hne, h1, h2, ih (fun y hy => ho y (by simp [hy])) hm.2 f (acc ++ [x]) (by simpa using h)]
      simp
theorem of_names (l : List N9) (ho : ∀ x ∈ l, x.Ok) (hl : l.length ≤ 31) (hm : l.all mayN = true) : namesE (namesP l) = 0 ∧ namesR (namesP l) = l := by
  have hb : namesP l = ((l.length : Int), 202, l.flatMap itemB) := by unfold namesP; rw [if_pos ⟨hl, hm⟩]
  have h : rawN (namesP l) = l := by
    rw [hb]
    unfold rawN
    dsimp only
    rw [runN_items l ho hm 32 [] (by omega)]
    rfl
  have hE : namesE (namesP l) = 0 := by
    unfold namesE justE
    rw [h, if_neg (by rw [hb]; simp), if_neg (by simp)]
  exact ⟨hE, by unfold namesR; rw [if_pos hE, h]⟩
end Go.Proofs.YtjkmnjmmnjhacaaGreat

namespace Go.Proofs.YtjkmnjmmnjhacaaGreat
open Go.RowKit
set_option linter.unusedVariables false
set_option linter.unusedSimpArgs false

/-- Where the item ends that says so many bytes. -/
def endN (n : Nat) : Nat := 6 + n + padN (6 + n) 1
def itemN (s : List UInt8) : N9 := ⟨getN (s.take 4), (s.drop 6).take (s.getD 5 0).toNat⟩
/-- Does an item lie at the head of the bytes? -/
def okN (s : List UInt8) : Prop := 8 ≤ s.length ∧ s.getD 4 0 = 1 ∧ (s.getD 5 0).toNat ≠ 0 ∧ endN (s.getD 5 0).toNat ≤ s.length ∧ ∀ i, i < endN (s.getD 5 0).toNat → 6 + (s.getD 5 0).toNat ≤ i → s.getD i 0 = 0
instance decN (s : List UInt8) : Decidable (okN s) := by unfold okN; infer_instance
theorem itemB_head (x : N9) (ho : x.Ok) (hm : mayN x = true) (r : List UInt8) : okN (itemB x ++ r) ∧ itemN (itemB x ++ r) = x ∧ (itemB x ++ r).drop (endN ((itemB x ++ r).getD 5 0).toNat) = r := by
  obtain ⟨s, t⟩ := x
  unfold mayN at hm
  rw [decide_eq_true_eq] at hm
  dsimp only at hm
  have e : itemB ⟨s, t⟩ ++ r = putZ s 4 ++ (1 :: UInt8.ofNat t.length :: (t ++ (zer (padN (6 + t.length) 1) ++ r))) := by
    unfold itemB
    have e1 : putZ 1 1 = [1] := by decide
    have e2 : putZ (t.length : Int) 1 = [UInt8.ofNat t.length] := by
      simp only [putZ, Int.pow_zero, Int.ediv_one, List.append_nil, List.nil_append, List.cons.injEq, and_true]
      congr 1
      omega
    simp [puts', e1, e2]
  have hp4 : (putZ s 4).length = 4 := putZ_length s 4
  have hlen : (itemB ⟨s, t⟩ ++ r).length = endN t.length + r.length := by rw [List.length_append, itemB_len]; rfl
  have h5 : (itemB ⟨s, t⟩ ++ r).getD 5 0 = UInt8.ofNat t.length := by rw [e]; simp [List.getD_eq_getElem?_getD, List.getElem?_append, hp4]
  have h5n : ((itemB ⟨s, t⟩ ++ r).getD 5 0).toNat = t.length := by rw [h5]; exact UInt8.toNat_ofNat_of_lt' (by show t.length < 256; omega)
  have hpd : 1 ≤ padN (6 + t.length) 1 := by unfold padN; omega
  refine ⟨⟨?_, ?_, ?_, ?_, ?_⟩, ?_, ?_⟩
  · rw [hlen]; unfold endN; omega
  · rw [e]; simp [List.getD_eq_getElem?_getD, List.getElem?_append, hp4]
  · rw [h5n]; omega
  · rw [h5n, hlen]; omega
  · rw [h5n]
    intro i h2 h1
    unfold endN at h2
    have : i - 4 - 1 - 1 - t.length < padN (6 + t.length) 1 := by omega
    rw [e, List.getD_eq_getElem?_getD, List.getElem?_append_right (by omega), hp4]
    obtain ⟨q, rfl⟩ : ∃ q, i = q + 6 := ⟨i - 6, by omega⟩
    rw [show q + 6 - 4 = q + 1 + 1 from by omega, List.getElem?_cons_succ, List.getElem?_cons_succ, List.getElem?_append_right (by omega), List.getElem?_append_left (by rw [zer_len]; omega)]
    unfold zer
    rw [List.getElem?_replicate]
    split <;> rfl
  · unfold itemN
    rw [h5n]
    simp only [N9.mk.injEq]
    constructor
    · rw [e, List.take_left' hp4, getN_putZ]
      simp only [Int.reducePow]
      have := ho.1
      dsimp only at this
      omega
    · rw [e, List.drop_append]
      simp [hp4, List.drop_of_length_le]
  · rw [h5n, List.drop_append]
    have h1 : (itemB ⟨s, t⟩).length = endN t.length := itemB_len _
    rw [List.drop_of_length_le (by omega), h1]
    simp
theorem ok_item (s : List UInt8) (h : okN s) : s = itemB (itemN s) ++ s.drop (endN (s.getD 5 0).toNat) ∧ mayN (itemN s) = true ∧ (itemN s).Ok := by
  obtain ⟨h1, h2, h3, h4, h5⟩ := h
  have hb : (s.getD 5 0).toNat < 256 := (s.getD 5 0).toNat_lt
  generalize hn : (s.getD 5 0).toNat = n at *
  have htl : ((s.drop 6).take n).length = n := by rw [List.length_take, List.length_drop]; unfold endN at h4; omega
  refine ⟨?_, ?_, ?_, ?_⟩
  · have e4 : putZ (getN (s.take 4) : Int) 4 = s.take 4 := putZ_take s 0 4 (by omega)
    unfold itemB itemN
    dsimp only
    rw [hn, htl, puts1, e4]
    have e1 : puts' 1 [1, (n : Int)] = (s.drop 4).take 2 := by
      have g4 : s[4]? = some 1 := by rw [List.getElem?_eq_getElem (by omega)]; rw [List.getD_eq_getElem?_getD, List.getElem?_eq_getElem (by omega)] at h2; exact congrArg some h2
      have g5 : s[5]? = some (UInt8.ofNat n) := by
        rw [List.getElem?_eq_getElem (by omega)]
        rw [List.getD_eq_getElem?_getD, List.getElem?_eq_getElem (by omega)] at hn
        have : s[5].toNat = n := hn
        rw [← this]; simp
      apply List.ext_getElem?
      intro i
      have e2 : puts' 1 [1, (n : Int)] = [1, UInt8.ofNat n] := by
        have e3 : putZ 1 1 = [1] := by decide
        have e4 : putZ (n : Int) 1 = [UInt8.ofNat n] := by
          simp only [putZ, Int.pow_zero, Int.ediv_one, List.append_nil, List.nil_append, List.cons.injEq, and_true]
          congr 1
          omega
        simp [puts', e3, e4]
      rw [e2, List.getElem?_take]
      match i with
      | 0 => simp [g4]
      | 1 => simp [g5]
      | i + 2 => rw [if_neg (by omega)]; simp
    have e6 : zer (padN (6 + n) 1) = (s.drop (6 + n)).take (padN (6 + n) 1) := by
      apply List.ext_getElem
      · rw [zer_len, List.length_take, List.length_drop]; unfold endN at h4; omega
      · intro i g1 g2
        rw [zer_len] at g1
        have := h5 (6 + n + i) (by unfold endN; omega) (by omega)
        rw [List.getD_eq_getElem?_getD, List.getElem?_eq_getElem (by unfold endN at h4; omega)] at this
        have e7 : (zer (padN (6 + n) 1))[i] = 0 := List.getElem_replicate ..
        rw [e7, List.getElem_take, List.getElem_drop]
        exact this.symm
    rw [e1, e6]
    simp only [List.append_assoc]
    rw [bchunk s (6 + n) (padN (6 + n) 1) (endN n) rfl, bchunk s 6 n (6 + n) rfl, bchunk s 4 2 6 rfl, List.take_append_drop]
  · unfold mayN itemN
    rw [decide_eq_true_eq]
    dsimp only
    rw [hn, htl]
    omega
  · unfold itemN
    dsimp only
    have := getN_lt (s.take 4)
    rw [List.length_take, Nat.min_eq_left (by omega)] at this
    omega
  · unfold itemN maxLen
    dsimp only
    rw [hn, htl]
    omega
/-- All items of the bytes, or none. -/
def strN : Nat → List UInt8 → List N9 → Option (List N9)
  | 0, s, acc => if s = [] then some acc else none
  | f + 1, s, acc => if s = [] then some acc else if okN s then strN f (s.drop (endN (s.getD 5 0).toNat)) (acc ++ [itemN s]) else none
theorem strN_some (f : Nat) (s : List UInt8) (acc l : List N9) (h : strN f s acc = some l) : ∃ m, l = acc ++ m ∧ s = m.flatMap itemB ∧ m.all mayN = true ∧ ∀ x ∈ m, x.Ok := by
  induction f generalizing s acc with
  | zero =>
    unfold strN at h
    split at h
    · rename_i hs
      cases h
      exact ⟨[], by simp, by simp [hs], rfl, fun x hx => by simp at hx⟩
    · cases h
  | succ f ih =>
    unfold strN at h
    split at h
    · rename_i hs
      cases h
      exact ⟨[], by simp, by simp [hs], rfl, fun x hx => by simp at hx⟩
    · split at h
      · rename_i hok
        obtain ⟨m, h1, h2, h3, h4⟩ := ih _ _ h
        obtain ⟨g1, g2, g3⟩ := ok_item s hok
        refine ⟨itemN s :: m, by rw [h1]; simp, ?_, by simp [g2, h3], fun x hx => ?_⟩
        · rw [List.flatMap_cons, ← h2, ← g1]
        · rcases List.mem_cons.1 hx with rfl | hx
          · exact g3
          · exact h4 x hx
      · cases h
theorem strN_items (m : List N9) (hm : m.all mayN = true) (ho : ∀ x ∈ m, x.Ok) (f : Nat) (acc : List N9) (hf : (m.flatMap itemB).length ≤ f) : strN f (m.flatMap itemB) acc = some (acc ++ m) := by
  induction m generalizing f acc with
  | nil => cases f <;> simp [strN]
  | cons x m ih =>
    simp only [List.all_cons, Bool.and_eq_true] at hm
    obtain ⟨h1, h2, h3⟩ := itemB_head x (ho x (by simp)) hm.1 (m.flatMap itemB)
    have hl := itemB_len x
    rw [List.flatMap_cons] at hf ⊢
    rw [List.length_append] at hf
    cases f with
    | zero => omega
    | succ f =>
      have hne : itemB x ++ m.flatMap itemB ≠ [] := by
        intro h
        have := congrArg List.length h
        rw [List.length_append, hl] at this
        simp at this
      unfold strN
      rw [if_neg hne, if_pos h1, h2, h3, ih hm.2 (fun y hy => ho y (by simp [hy])) f (acc ++ [x]) (by omega)]
      simp
theorem strN_fuel (f g : Nat) (s : List UInt8) (acc : List N9) (hf : s.length ≤ f) (hg : s.length ≤ g) : strN f s acc = strN g s acc := by
  cases h : strN f s acc with
  | some l =>
    obtain ⟨m, h1, h2, h3, h4⟩ := strN_some f s acc l h
    subst h2
    rw [strN_items m h3 h4 g acc hg, h1]
  | none =>
    cases h' : strN g s acc with
    | none => rfl
    | some l =>
      obtain ⟨m, h1, h2, h3, h4⟩ := strN_some g s acc l h'
      subst h2
      rw [strN_items m h3 h4 f acc hf] at h
      cases h
theorem strN_step (s : List UInt8) (acc : List N9) (hs : s ≠ []) (hok : okN s) : strN s.length s acc = strN (s.drop (endN (s.getD 5 0).toNat)).length (s.drop (endN (s.getD 5 0).toNat)) (acc ++ [itemN s]) := by
  obtain ⟨n, hn⟩ : ∃ n, s.length = n + 1 := ⟨s.length - 1, by have := List.length_pos_iff.2 hs; omega⟩
  rw [hn]
  conv => lhs; unfold strN
  rw [if_neg hs, if_pos hok]
  have hd : (s.drop (endN (s.getD 5 0).toNat)).length ≤ n := by rw [List.length_drop]; unfold endN; omega
  exact strN_fuel _ _ _ _ hd (Nat.le_refl _)
theorem strN_bad (s : List UInt8) (acc : List N9) (hs : s ≠ []) (hok : ¬ okN s) : strN s.length s acc = none := by
  obtain ⟨n, hn⟩ : ∃ n, s.length = n + 1 := ⟨s.length - 1, by have := List.length_pos_iff.2 hs; omega⟩
  rw [hn]
  unfold strN
  rw [if_neg hs, if_neg hok]
/-- The document's answer. -/
def refNE (p : Pc) : Int := if p.2.1 ≠ 202 then 5 else match strN p.2.2.length p.2.2 [] with
  | none => 1
  | some l => if (l.length : Int) = p.1 ∧ l.length ≤ 31 then 0 else 1
def refNR (p : Pc) : List N9 := if refNE p = 0 then (strN p.2.2.length p.2.2 []).getD [] else []
theorem rawN_ok (f : Nat) (x : List UInt8 × Int) (acc : List N9) (hx : x.1.length ≤ maxLen) (ha : ∀ a ∈ acc, a.Ok) : ∀ a ∈ runN f x acc, a.Ok := by
  induction f generalizing x acc with
  | zero => exact ha
  | succ f ih =>
    unfold runN
    split
    · exact ha
    · refine ih _ _ (Nat.le_trans (nxN_len x) hx) fun a h => ?_
      rcases List.mem_append.1 h with h | h
      · exact ha a h
      · rw [List.mem_singleton.1 h]; exact rdN_ok x hx
theorem namesE_ref (p : Pc) (hp : p.2.2.length ≤ maxLen) : namesE p = refNE p ∧ namesR p = refNR p := by
  obtain ⟨n, k, b⟩ := p
  dsimp only at hp
  have hE : namesE (n, k, b) = refNE (n, k, b) ∧ (namesE (n, k, b) = 0 → strN b.length b [] = some (rawN (n, k, b))) := by
    by_cases hk : k = 202
    · by_cases h0 : namesE (n, k, b) = 0
      · have h1 := h0
        unfold namesE justE at h1
        rw [if_neg (by simpa using hk)] at h1
        split at h1
        · cases h1
        · rename_i h2
          have h2 : namesP (rawN (n, k, b)) = (n, k, b) := Classical.not_not.1 h2
          have hok : ∀ a ∈ rawN (n, k, b), a.Ok := rawN_ok 32 (b, 0) [] hp (fun a h => by simp at h)
          generalize rawN (n, k, b) = L at *
          unfold namesP at h2
          split at h2
          · rename_i h3
            simp only [Prod.mk.injEq] at h2
            obtain ⟨e1, e2, e3⟩ := h2
            have hs : strN b.length b [] = some L := by rw [← e3]; exact strN_items L h3.2 hok _ [] (Nat.le_refl _)
            refine ⟨?_, fun _ => hs⟩
            rw [h0]
            unfold refNE
            dsimp only
            rw [if_neg (by simpa using hk), hs]
            dsimp only
            rw [if_pos ⟨e1, h3.1⟩]
          · simp only [Prod.mk.injEq] at h2
            omega
      · have h1 : namesE (n, k, b) = 1 := by
          unfold namesE justE at h0 ⊢
          rw [if_neg (by simpa using hk)] at h0 ⊢
          by_cases h2 : namesP (rawN (n, k, b)) ≠ (n, k, b)
          · rw [if_pos h2]
          · rw [if_neg h2] at h0; exact absurd rfl h0
        refine ⟨?_, fun h => absurd h h0⟩
        rw [h1]
        unfold refNE
        dsimp only
        rw [if_neg (by simpa using hk)]
        cases hs : strN b.length b [] with
        | none => rfl
        | some l =>
          dsimp only
          split
          · rename_i hc
            obtain ⟨m, g1, g2, g3, g4⟩ := strN_some _ _ _ _ hs
            rw [List.nil_append] at g1
            subst g1
            have hpn : namesP l = (n, k, b) := by unfold namesP; rw [if_pos ⟨hc.2, g3⟩, hk, g2, hc.1]
            have := (of_names l g4 hc.2 g3).1
            rw [hpn] at this
            exact absurd this h0
          · rfl
    · have h1 : namesE (n, k, b) = 5 := by unfold namesE justE; rw [if_pos hk]
      refine ⟨?_, fun h => by rw [h1] at h; cases h⟩
      rw [h1]
      unfold refNE
      rw [if_pos hk]
  refine ⟨hE.1, ?_⟩
  unfold namesR refNR
  rw [← hE.1]
  split
  · rename_i h; rw [hE.2 h]; rfl
  · rfl
end Go.Proofs.YtjkmnjmmnjhacaaGreat

