
/- Notes and their pieces, back and forth: the plain law of layer 9. -/
import Derived.Test.YtlhkhncdnaibgaaNotes5
namespace Go.Proofs.Ytlhkhncdnaibgaa
open Go.RowKit
set_option linter.unusedVariables false
set_option linter.unusedSimpArgs false

theorem raw_app (s r : List UInt8) (n : Int) (h : n = s.length) : rawT (s ++ r) n = s := by
  subst h
  unfold rawT
  rw [if_pos (by rw [List.length_append]; omega)]
  simp
theorem nxr_app (s r : List UInt8) (n : Int) (h : n = s.length) : nxr n (s ++ r, 0) = (r, 0) := by
  subst h
  unfold nxr rawL rawE
  have : ((s.length : Int)) ≤ ((s ++ r).length : Int) := by rw [List.length_append]; omega
  dsimp only
  rw [if_pos this, if_pos this]
  simp
theorem nx_app (s r : List UInt8) (k : Nat) (h : s.length = k) : nx k (s ++ r, 0) = (r, 0) := nxr_app s r k (by rw [h])
theorem vl_app (s r : List UInt8) (k : Nat) (h : s.length = k) : vl k (s ++ r, 0) = getN s := by
  unfold vl
  dsimp only
  rw [raw_app s r k (by rw [h])]
theorem vl_put (a : Int) (k m : Nat) (r : List UInt8) (hm : 256 ^ k = m) (ha : 0 ≤ a ∧ a < m) : vl k (putZ a k ++ r, 0) = a := by
  rw [vl_app _ _ _ (putZ_length a k), getN_putZ, ← pow_cast, hm]
  exact Int.emod_eq_of_lt ha.1 ha.2
theorem nx_put (a : Int) (k : Nat) (r : List UInt8) : nx k (putZ a k ++ r, 0) = (r, 0) := nx_app _ _ _ (putZ_length a k)
theorem rdWs_put (l : List Int) (hl : ∀ n ∈ l, 0 ≤ n ∧ n < 4294967296) (r : List UInt8) : rdWs l.length (puts' 4 l ++ r, 0) = l ∧ nxWs l.length (puts' 4 l ++ r, 0) = (r, 0) := by
  induction l with
  | nil => exact ⟨rfl, rfl⟩
  | cons a l ih =>
    have e : puts' 4 (a :: l) ++ r = putZ a 4 ++ (puts' 4 l ++ r) := by simp [puts']
    have h := ih fun n hn => hl n (by simp [hn])
    rw [e, List.length_cons, rdWs, nxWs, nx_put, vl_put a 4 4294967296 _ (by decide) (hl a (by simp)), h.1, h.2]
    exact ⟨rfl, rfl⟩
theorem rawY_bye (b : Y9) (ho : b.Ok) (hm : mayY b = true) : rawY (byeP b) = b := by
  obtain ⟨r, ss⟩ := b
  have hb : byeP ⟨r, ss⟩ = ((ss.length : Int), 203, puts' 4 ss ++ reasonB r) := by unfold byeP; rw [if_pos hm]
  unfold mayY at hm
  rw [decide_eq_true_eq] at hm
  dsimp only at hm
  obtain ⟨h1, h2⟩ := rdWs_put ss ho.srcs (reasonB r)
  rw [hb]
  unfold rawY
  dsimp only
  have hc : cnt32 (ss.length : Int) = ss.length := by unfold cnt32; omega
  rw [hc, h1, h2]
  dsimp only
  by_cases hr : r = []
  · subst hr
    rfl
  · have e : reasonB r = putZ (r.length : Int) 1 ++ (r ++ zer (padN (1 + r.length) 0)) := by unfold reasonB; rw [if_neg hr]; simp [puts']
    have hne : reasonB r ≠ [] := by rw [e]; intro h; have := congrArg List.length h; simp [putZ_length] at this
    rw [if_neg hne, e, nx_put, vl_put (r.length : Int) 1 256 _ (by decide) (by omega)]
    dsimp only
    rw [raw_app r _ _ rfl]
theorem of_bye (b : Y9) (ho : b.Ok) (hm : mayY b = true) : byeE (byeP b) = 0 ∧ byeR (byeP b) = b := by
  have h := rawY_bye b ho hm
  have hk : (byeP b).2.1 = 203 := by unfold byeP; rw [if_pos hm]
  have hE : byeE (byeP b) = 0 := by
    unfold byeE justE
    rw [h, if_neg (by simpa using hk), if_neg (by simp)]
  exact ⟨hE, by unfold byeR; rw [if_pos hE, h]⟩
theorem byeP_none (b : Y9) : byeP b = (0, 0, []) ↔ mayY b = false := by
  unfold byeP
  cases h : mayY b with
  | false => simp
  | true =>
    rw [if_pos rfl]
    constructor
    · intro e; have := congrArg (fun q : Pc => q.2.1) e; cases this
    · intro e; cases e
theorem reasonB_mod (r : List UInt8) : (reasonB r).length % 4 = 0 := by
  unfold reasonB
  split
  · rfl
  · have := padN_sum (1 + r.length) 0
    simp only [List.length_append, puts'_length, zer_len, List.length_cons, List.length_nil]
    omega
theorem reasonB_le (r : List UInt8) : (reasonB r).length ≤ r.length + 4 := by
  unfold reasonB
  split
  · simp
  · have : padN (1 + r.length) 0 ≤ 3 := by unfold padN; omega
    simp only [List.length_append, puts'_length, zer_len, List.length_cons, List.length_nil]
    omega
theorem bye_check (b : Y9) (hm : mayY b = true) : checkE (byeP b) = 0 := by
  have hb : byeP b = ((b.srcs.length : Int), 203, puts' 4 b.srcs ++ reasonB b.reason) := by unfold byeP; rw [if_pos hm]
  unfold mayY at hm
  rw [decide_eq_true_eq] at hm
  have h1 := reasonB_mod b.reason
  have h2 := reasonB_le b.reason
  have h3 := puts'_length 4 b.srcs
  have : mayP (byeP b) = true := by
    rw [hb, mayP_iff]
    simp only [List.length_append]
    omega
  unfold checkE
  rw [if_pos this]
theorem rawA_app (a : A9) (ho : a.Ok) (hm : mayA a = true) : rawA (appP a) = a := by
  obtain ⟨s, c, n, d⟩ := a
  have hb : appP ⟨s, c, n, d⟩ = (s, 204, puts' 4 [c] ++ n ++ d) := by unfold appP; rw [if_pos hm]
  have hmm := (mayA_iff _).1 hm
  dsimp only at hmm
  rw [hb]
  unfold rawA
  dsimp only
  have e : puts' 4 [c] ++ n ++ d = putZ c 4 ++ (n ++ d) := by simp [puts']
  rw [e, vl_put c 4 4294967296 _ (by decide) ho.src, nx_put]
  dsimp only
  rw [raw_app n d 4 (by rw [hmm.2.2.1]; rfl), nx_app n d 4 hmm.2.2.1]
theorem of_app (a : A9) (ho : a.Ok) (hm : mayA a = true) : appE (appP a) = 0 ∧ appR (appP a) = a := by
  have h := rawA_app a ho hm
  have hk : (appP a).2.1 = 204 := by unfold appP; rw [if_pos hm]
  have hE : appE (appP a) = 0 := by
    unfold appE justE
    rw [h, if_neg (by simpa using hk), if_neg (by simp)]
  exact ⟨hE, by unfold appR; rw [if_pos hE, h]⟩
theorem appP_none (a : A9) : appP a = (0, 0, []) ↔ mayA a = false := by
  unfold appP
  cases h : mayA a with
  | false => simp
  | true =>
    rw [if_pos rfl]
    constructor
    · intro e; have := congrArg (fun q : Pc => q.2.1) e; cases this
    · intro e; cases e
theorem app_check (a : A9) (hm : mayA a = true) : checkE (appP a) = 0 := by
  have hb : appP a = (a.sub, 204, puts' 4 [a.src] ++ a.name ++ a.data) := by unfold appP; rw [if_pos hm]
  have hmm := (mayA_iff a).1 hm
  have : mayP (appP a) = true := by
    rw [hb, mayP_iff]
    simp only [List.length_append, puts'_length, List.length_cons, List.length_nil]
    omega
  unfold checkE
  rw [if_pos this]
theorem rdN_item (x : N9) (ho : x.Ok) (hm : mayN x = true) (r : List UInt8) : rdN (itemB x ++ r, 0) = x ∧ nxN (itemB x ++ r, 0) = (r, 0) := by
  obtain ⟨s, t⟩ := x
  unfold mayN at hm
  rw [decide_eq_true_eq] at hm
  dsimp only at hm
  have e : itemB ⟨s, t⟩ ++ r = putZ s 4 ++ (putZ 1 1 ++ (putZ (t.length : Int) 1 ++ (t ++ (zer (padN (6 + t.length) 1) ++ r)))) := by unfold itemB; simp [puts']
  have h1 : rdN (itemB ⟨s, t⟩ ++ r, 0) = ⟨s, t⟩ := by
    unfold rdN
    rw [e, vl_put s 4 4294967296 _ (by decide) ho.1, nx_put, nx_put, nx_put, vl_put (t.length : Int) 1 256 _ (by decide) (by omega)]
    dsimp only
    rw [raw_app t _ _ rfl]
  refine ⟨h1, ?_⟩
  unfold nxN
  rw [h1]
  rw [e, nx_put, nx_put, nx_put, vl_put (t.length : Int) 1 256 _ (by decide) (by omega)]
  rw [nxr_app t _ _ rfl, nxr_app _ r _ (by rw [zer_len]; unfold padN; dsimp only; omega)]
theorem runN_items (l : List N9) (ho : ∀ x ∈ l, x.Ok) (hm : l.all mayN = true) (f : Nat) (acc : List N9) (h : l.length < f) : runN f (l.flatMap itemB, 0) acc = acc ++ l := by
  induction l generalizing f acc with
  | nil =>
    cases f with
    | zero => omega
    | succ f => simp [runN]
  | cons x l ih =>
    cases f with
    | zero => omega
    | succ f =>
      simp only [List.all_cons, Bool.and_eq_true] at hm
      obtain ⟨h1, h2⟩ := rdN_item x (ho x (by simp)) hm.1 (l.flatMap itemB)
      have hne : (itemB x ++ l.flatMap itemB) ≠ [] := by
        intro h
        have := congrArg List.length h
        rw [List.length_append, itemB_len] at this
        simp at this
      rw [List.flatMap_cons, runN, if_neg hne, h1, h2, ih (fun y hy => ho y (by simp [hy])) hm.2 f (acc ++ [x]) (by simpa using h)]
      simp
theorem of_names (l : List N9) (ho : ∀ x ∈ l, x.Ok) (hl : l.length ≤ 31) (hm : l.all mayN = true) : namesE (namesP l) = 0 ∧ namesR (namesP l) = l := by
  have hb : namesP l = ((l.length : Int), 202, l.flatMap itemB) := by unfold namesP; rw [if_pos ⟨hl, hm⟩]
  have h : rawN (namesP l) = l := by
    rw [hb]
    unfold rawN
    dsimp only
    rw [runN_items l ho hm 32 [] (by omega)]
    rfl
  have hE : namesE (namesP l) = 0 := by
    unfold namesE justE
    rw [h, if_neg (by rw [hb]; simp), if_neg (by simp)]
  exact ⟨hE, by unfold namesR; rw [if_pos hE, h]⟩
theorem namesP_none (l : List N9) : namesP l = (0, 0, []) ↔ ¬ (l.length ≤ 31 ∧ l.all mayN = true) := by
  unfold namesP
  by_cases h : l.length ≤ 31 ∧ l.all mayN = true
  · rw [if_pos h]
    constructor
    · intro e; have := congrArg (fun q : Pc => q.2.1) e; cases this
    · intro e; exact absurd h e
  · rw [if_neg h]
    exact ⟨fun _ => h, fun _ => rfl⟩
theorem names_check (l : List N9) (hl : l.length ≤ 31) (hm : l.all mayN = true) : checkE (namesP l) = 0 := by
  have hb : namesP l = ((l.length : Int), 202, l.flatMap itemB) := by unfold namesP; rw [if_pos ⟨hl, hm⟩]
  have h1 := items_le l hm
  have h2 := items_mod l
  have : mayP (namesP l) = true := by
    rw [hb, mayP_iff]
    dsimp only
    omega
  unfold checkE
  rw [if_pos this]
end Go.Proofs.Ytlhkhncdnaibgaa
