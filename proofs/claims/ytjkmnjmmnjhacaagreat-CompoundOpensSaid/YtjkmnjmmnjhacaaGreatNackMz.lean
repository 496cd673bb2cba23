/- Plain law of layers 10 and 11: parts of so many bytes each, whose paths rise. -/
import Derived.Test.YtjkmnjmmnjhacaaGreatQInz
namespace Go.Proofs.YtjkmnjmmnjhacaaGreat
open Go.RowKit
set_option linter.unusedVariables false
set_option linter.unusedSimpArgs false

theorem fm_len {α : Type} (c : Nat) (wr : α → List UInt8) (hw : ∀ x, (wr x).length = c) (xs : List α) : (xs.flatMap wr).length = c * xs.length := by
  induction xs with
  | nil => rfl
  | cons x xs ih => rw [List.flatMap_cons, List.length_append, hw, ih, List.length_cons, Nat.mul_add]; omega
theorem fm_get {α : Type} (c : Nat) (wr : α → List UInt8) (hw : ∀ x, (wr x).length = c) : ∀ (xs : List α) (i : Nat) (h : i < xs.length), ((xs.flatMap wr).drop (c * i)).take c = wr xs[i]
  | x :: xs, 0, _ => by
    rw [List.flatMap_cons, Nat.mul_zero, List.drop_zero, List.take_append_of_le_length (by rw [hw]; omega)]
    exact List.take_of_length_le (by rw [hw]; omega)
  | x :: xs, i + 1, h => by
    have e : c * (i + 1) = (wr x).length + c * i := by rw [hw, Nat.mul_add]; omega
    rw [List.flatMap_cons, e, ← List.drop_drop, List.drop_left]
    exact fm_get c wr hw xs i (by simpa using h)
theorem fm_blocks {α : Type} (c : Nat) (f : Nat → α) (wr : α → List UInt8) (l : List UInt8) (T : Nat) : ∀ N, (∀ i, i < N → wr (f i) = (l.drop (T + c * i)).take c) → ((List.range N).map f).flatMap wr = (l.drop T).take (c * N)
  | 0, _ => by simp
  | N + 1, h => by
    rw [List.range_succ, List.map_append, List.flatMap_append, fm_blocks c f wr l T N (fun i hi => h i (by omega))]
    simp only [List.map_cons, List.map_nil, List.flatMap_cons, List.flatMap_nil, List.append_nil]
    rw [h N (by omega), Nat.mul_add, Nat.mul_one, List.take_add, List.drop_drop]
/-- The i-th part of so many bytes. -/
def blkN (c : Nat) (l : List UInt8) (i : Nat) : List UInt8 := (l.drop (4 + c * i)).take c
theorem blkN_len (c : Nat) (l : List UInt8) (i n : Nat) (hi : i < n) (h : 4 + c * n ≤ l.length) : (blkN c l i).length = c := by
  unfold blkN
  have : c * (i + 1) ≤ c * n := Nat.mul_le_mul_left c hi
  rw [Nat.mul_add] at this
  rw [List.length_take, List.length_drop]
  omega
/-- Parts that may be, whose paths rise. -/
def rises {α : Type} (may : α → Bool) (path : α → Int) : Int → List α → Bool
  | _, [] => true
  | last, x :: xs => may x && decide (last < path x) && rises may path (path x) xs
theorem rises_map {α β : Type} (f : β → α) (may : α → Bool) (path : α → Int) : ∀ (last : Int) (xs : List β), rises may path last (xs.map f) = rises (fun y => may (f y)) (fun y => path (f y)) last xs
  | _, [] => rfl
  | last, x :: xs => by rw [List.map_cons, rises, rises, rises_map f may path]
theorem rises_few {α : Type} (may : α → Bool) (path : α → Int) (hm : ∀ x, may x = true → path x ≤ 15) : ∀ (last : Int) (xs : List α), last ≤ 15 → rises may path last xs = true → (xs.length : Int) ≤ 15 - last
  | last, [], h0, _ => by simp; omega
  | last, x :: xs, h0, h => by
    simp only [rises, Bool.and_eq_true, decide_eq_true_eq] at h
    have h1 := hm x h.1.1
    have := rises_few may path hm (path x) xs h1 h.2
    rw [List.length_cons]
    omega
/-- The last path behind so many parts. -/
def lastP {α : Type} (path : α → Int) (last : Int) (xs : List α) : Int := xs.foldl (fun _ x => path x) last
theorem lastP_snoc {α : Type} (path : α → Int) (last : Int) (xs : List α) (x : α) : lastP path last (xs ++ [x]) = path x := by simp [lastP]
theorem rises_snoc {α : Type} (may : α → Bool) (path : α → Int) (x : α) : ∀ (last : Int) (xs : List α), rises may path last (xs ++ [x]) = (rises may path last xs && (may x && decide (lastP path last xs < path x)))
  | last, [] => by rw [List.nil_append, rises, rises, rises, Bool.true_and, Bool.and_true]; rfl
  | last, y :: ys => by
    rw [List.cons_append, rises, rises, rises_snoc may path x (path y) ys, Bool.and_assoc, Bool.and_assoc, Bool.and_assoc]
    rfl
theorem rises_app {α : Type} (may : α → Bool) (path : α → Int) : ∀ (last : Int) (xs ys : List α), rises may path last (xs ++ ys) = true → rises may path last xs = true
  | _, [], _, _ => rfl
  | last, x :: xs, ys, h => by
    simp only [List.cons_append, rises, Bool.and_eq_true] at h ⊢
    exact ⟨h.1, rises_app may path _ xs ys h.2⟩
theorem rises_pre {α : Type} (may : α → Bool) (path : α → Int) (last : Int) (xs : List α) (n : Nat) (h : rises may path last xs = true) : rises may path last (xs.take n) = true := by
  apply rises_app may path last _ (xs.drop n)
  rwa [List.take_append_drop]
section
variable {α : Type} (c : Nat) (rd : List UInt8 → α) (wr : α → List UInt8) (may : α → Bool) (path : α → Int) (good : List UInt8 → Bool)
def goodR (s : List UInt8) : Bool := good s && decide (path (rd s) ≤ 15)
def rawN11 (l : List UInt8) : Nat := min 15 ((l.length - 4) / c)
def rawL11 (l : List UInt8) : List α := (List.range (rawN11 c l)).map fun i => rd (blkN c l i)
theorem rises_eq (hm : ∀ (s : List UInt8) (last : Int), s.length = c → 0 ≤ last → last < path (rd s) → (may (rd s) = true ↔ path (rd s) ≤ 15)) : ∀ (last : Int) (bs : List (List UInt8)), 0 ≤ last → (∀ s ∈ bs, s.length = c) →
    (rises (goodR rd path good) (fun s => path (rd s)) last bs = true ↔ (rises (fun s => may (rd s)) (fun s => path (rd s)) last bs = true ∧ ∀ s ∈ bs, good s = true))
  | _, [], _, _ => by simp [rises]
  | last, s :: bs, h0, hl => by
    simp only [rises, Bool.and_eq_true, decide_eq_true_eq, goodR]
    constructor
    · rintro ⟨⟨⟨a, b⟩, d⟩, e⟩
      have := (rises_eq hm (path (rd s)) bs (by omega) (fun s' h => hl s' (by simp [h]))).1 e
      exact ⟨⟨⟨(hm s last (hl s (by simp)) h0 d).2 b, d⟩, this.1⟩, fun s' h => by
        rcases List.mem_cons.1 h with rfl | h
        · exact a
        · exact this.2 s' h⟩
    · rintro ⟨⟨⟨a, d⟩, e⟩, g⟩
      exact ⟨⟨⟨g s (by simp), (hm s last (hl s (by simp)) h0 d).1 a⟩, d⟩, (rises_eq hm (path (rd s)) bs (by omega) (fun s' h => hl s' (by simp [h]))).2 ⟨e, fun s' h => g s' (by simp [h])⟩⟩
theorem sub_law (hc : 0 < c) (hw : ∀ x, (wr x).length = c) (hg : ∀ s, s.length = c → (wr (rd s) = s ↔ good s = true))
    (hm : ∀ (s : List UInt8) (last : Int), s.length = c → 0 ≤ last → last < path (rd s) → (may (rd s) = true ↔ path (rd s) ≤ 15)) (hm15 : ∀ x, may x = true → path x ≤ 15) (l : List UInt8) (src : Int) (hsrc : 4 ≤ l.length → src = getN (l.take 4)) :
    (rises may path 0 (rawL11 c rd l) = true ∧ putZ src 4 ++ (rawL11 c rd l).flatMap wr = l) ↔
    (4 ≤ l.length ∧ (l.length - 4) % c = 0 ∧ rises (goodR rd path good) (fun s => path (rd s)) 0 ((List.range ((l.length - 4) / c)).map (blkN c l)) = true) := by
  have hrl : (rawL11 c rd l).length = rawN11 c l := by simp [rawL11]
  have hput : 4 ≤ l.length → putZ src 4 = l.take 4 := fun h => by
    rw [hsrc h]
    have := putZ_take l 0 4 (by omega)
    simpa using this
  constructor
  · rintro ⟨h1, h2⟩
    have hlen := congrArg List.length h2
    rw [List.length_append, putZ_length, fm_len c wr hw, hrl] at hlen
    have h4 : 4 ≤ l.length := by omega
    have hq : l.length - 4 = c * rawN11 c l := by omega
    have hdiv : (l.length - 4) / c = rawN11 c l := by rw [hq, Nat.mul_div_cancel_left _ hc]
    refine ⟨h4, by rw [hq]; exact Nat.mul_mod_right _ _, ?_⟩
    rw [hdiv, rises_eq c rd may path good hm 0 _ (by omega) (fun s hs => by
      obtain ⟨i, hi, rfl⟩ := List.mem_map.1 hs
      exact blkN_len c l i (rawN11 c l) (List.mem_range.1 hi) (by omega))]
    constructor
    · rw [← rises_map rd may path, List.map_map]
      exact h1
    · intro s hs
      obtain ⟨i, hi, rfl⟩ := List.mem_map.1 hs
      have hi' := List.mem_range.1 hi
      have hbl := blkN_len c l i (rawN11 c l) hi' (by omega)
      rw [← hg _ hbl]
      have hd : l.drop 4 = (rawL11 c rd l).flatMap wr := by
        rw [← h2, List.drop_left' (putZ_length _ _)]
        rw [h2]
      have := fm_get c wr hw (rawL11 c rd l) i (by rw [hrl]; exact hi')
      rw [← hd, List.drop_drop] at this
      have e : (rawL11 c rd l)[i]'(by rw [hrl]; exact hi') = rd (blkN c l i) := by simp [rawL11]
      rw [e] at this
      exact this.symm
  · rintro ⟨h4, hmod, hr⟩
    have hN : (((List.range ((l.length - 4) / c)).map (blkN c l)).length : Int) ≤ 15 - 0 := rises_few (goodR rd path good) (fun s => path (rd s)) (fun s hs => by
      simp only [goodR, Bool.and_eq_true, decide_eq_true_eq] at hs
      exact hs.2) 0 _ (by omega) hr
    simp only [List.length_map, List.length_range] at hN
    have hraw : rawN11 c l = (l.length - 4) / c := by unfold rawN11; omega
    have hq : l.length = 4 + c * ((l.length - 4) / c) := by
      have := Nat.div_add_mod (l.length - 4) c
      omega
    rw [rises_eq c rd may path good hm 0 _ (by omega) (fun s hs => by
      obtain ⟨i, hi, rfl⟩ := List.mem_map.1 hs
      exact blkN_len c l i _ (List.mem_range.1 hi) (by omega))] at hr
    constructor
    · have := hr.1
      rw [← rises_map rd may path, List.map_map] at this
      unfold rawL11
      rw [hraw]
      exact this
    · unfold rawL11
      rw [hraw, fm_blocks c (fun i => rd (blkN c l i)) wr l 4 _ (fun i hi => by
        have hbl := blkN_len c l i _ hi (by omega)
        exact (hg _ hbl).2 (hr.2 _ (List.mem_map.2 ⟨i, List.mem_range.2 hi, rfl⟩))), hput h4, List.take_of_length_le (l := l.drop 4) (by rw [List.length_drop]; omega), List.take_append_drop]
end
end Go.Proofs.YtjkmnjmmnjhacaaGreat

namespace Go.Proofs.YtjkmnjmmnjhacaaGreat
set_option linter.unusedVariables false
set_option linter.unusedSimpArgs false

/-- A piece: its count, its kind, its body. -/
abbrev Pc := Int × Int × List UInt8
def mayP (p : Pc) : Bool := decide (0 ≤ p.1 ∧ p.1 ≤ 31 ∧ 192 ≤ p.2.1 ∧ p.2.1 ≤ 223 ∧ p.2.2.length % 4 = 0 ∧ p.2.2.length ≤ 262140)
theorem mayP_iff (p : Pc) : mayP p = true ↔ (0 ≤ p.1 ∧ p.1 ≤ 31 ∧ 192 ≤ p.2.1 ∧ p.2.1 ≤ 223 ∧ p.2.2.length % 4 = 0 ∧ p.2.2.length ≤ 262140) := by simp [mayP]
def checkE (p : Pc) : Int := if mayP p = true then 0 else 6
def packOne (p : Pc) : List UInt8 := putZ (128 + p.1) 1 ++ (putZ p.2.1 1 ++ (putZ (p.2.2.length / 4 : Nat) 2 ++ p.2.2))
def packP (l : List Pc) : List UInt8 := if l.all mayP = true then l.flatMap packOne else []
theorem packOne_length (p : Pc) : (packOne p).length = 4 + p.2.2.length := by simp [packOne, putZ_length]; omega

def hdA (l : List UInt8) : Nat := getN (l.take 1)
def hdK (l : List UInt8) : Nat := getN ((l.drop 1).take 1)
def hdN (l : List UInt8) : Nat := getN (((l.drop 1).drop 1).take 2)
def stepE (l : List UInt8) : Int := if l.length < 4 then 2 else if hdA l / 32 ≠ 4 then 1 else if ¬ (192 ≤ hdK l ∧ hdK l ≤ 223) then 5 else if l.length < 4 + 4 * hdN l then 2 else 0
def stepV (l : List UInt8) : Pc := ((hdA l % 32 : Nat), (hdK l : Nat), (l.drop 4).take (4 * hdN l))
def stepR (l : List UInt8) : List UInt8 := l.drop (4 + 4 * hdN l)
def runP : Nat → List UInt8 → List Pc → Int × List Pc
  | 0, _, acc => (0, acc)
  | f + 1, l, acc => if l = [] then (0, acc) else if stepE l = 0 then runP f (stepR l) (acc ++ [stepV l]) else (stepE l, [])
def splitP (l : List UInt8) : Int × List Pc := runP l.length l []

theorem getN_one (b : UInt8) : getN [b] = b.toNat := by simp [getN]
theorem hd_lt (l : List UInt8) (k : Nat) : getN (l.take k) < 256 ^ k := by
  have h := getN_lt (l.take k)
  have h2 : (l.take k).length ≤ k := by rw [List.length_take]; exact Nat.min_le_left _ _
  exact Nat.lt_of_lt_of_le h (Nat.pow_le_pow_right (by decide) h2)
theorem stepR_lt (l : List UInt8) (h : l ≠ []) : (stepR l).length < l.length := by
  have : 0 < l.length := List.length_pos_iff.2 h
  unfold stepR; rw [List.length_drop]; omega

theorem drop11 (l : List UInt8) : (l.drop 1).drop 1 = l.drop 2 := by rw [List.drop_drop]
theorem hd_app (x y z r : List UInt8) (hx : x.length = 1) (hy : y.length = 1) (hz : z.length = 2) :
    hdA (x ++ (y ++ (z ++ r))) = getN x ∧ hdK (x ++ (y ++ (z ++ r))) = getN y ∧ hdN (x ++ (y ++ (z ++ r))) = getN z := by
  refine ⟨?_, ?_, ?_⟩
  · unfold hdA; rw [List.take_left' hx]
  · unfold hdK; rw [List.drop_left' hx, List.take_left' hy]
  · unfold hdN; rw [List.drop_left' hx, List.drop_left' hy, List.take_left' hz]
theorem step_pack (p : Pc) (r : List UInt8) (h : mayP p = true) : stepE (packOne p ++ r) = 0 ∧ stepV (packOne p ++ r) = p ∧ stepR (packOne p ++ r) = r := by
  obtain ⟨h1, h2, h3, h4, h5, h6⟩ := (mayP_iff p).1 h
  have e : packOne p ++ r = putZ (128 + p.1) 1 ++ (putZ p.2.1 1 ++ (putZ (p.2.2.length / 4 : Nat) 2 ++ (p.2.2 ++ r))) := by simp [packOne]
  obtain ⟨hA, hK, hN⟩ := hd_app (putZ (128 + p.1) 1) (putZ p.2.1 1) (putZ (p.2.2.length / 4 : Nat) 2) (p.2.2 ++ r) (putZ_length _ _) (putZ_length _ _) (putZ_length _ _)
  rw [← e] at hA hK hN
  have gA := getN_putZ (128 + p.1) 1
  have gK := getN_putZ p.2.1 1
  have gN := getN_putZ (p.2.2.length / 4 : Nat) 2
  have eA : hdA (packOne p ++ r) = (128 + p.1).toNat := by rw [hA]; omega
  have eK : hdK (packOne p ++ r) = p.2.1.toNat := by rw [hK]; omega
  have eN : 4 * hdN (packOne p ++ r) = p.2.2.length := by rw [hN]; omega
  have hl : (packOne p ++ r).length = 4 + p.2.2.length + r.length := by rw [List.length_append, packOne_length]
  have hd4 : (packOne p ++ r).drop 4 = p.2.2 ++ r := by
    have e' : packOne p ++ r = (putZ (128 + p.1) 1 ++ (putZ p.2.1 1 ++ putZ (p.2.2.length / 4 : Nat) 2)) ++ (p.2.2 ++ r) := by rw [e]; simp
    rw [e', List.drop_left' (by simp [putZ_length])]
  refine ⟨?_, ?_, ?_⟩
  · unfold stepE
    rw [if_neg (by omega), if_neg (by omega), if_neg (by omega), if_neg (by omega)]
  · unfold stepV
    rw [eN, hd4, List.take_left' rfl]
    obtain ⟨c, k, b⟩ := p
    simp only at *
    refine Prod.ext ?_ (Prod.ext ?_ rfl)
    · show ((hdA _ % 32 : Nat) : Int) = c; omega
    · show ((hdK _ : Nat) : Int) = k; omega
  · unfold stepR
    rw [eN, ← List.drop_drop, hd4, List.drop_left' rfl]
theorem putZ_one (l : List UInt8) (n : Int) (k : Nat) (hl : l.length = k) (h : n = getN l) : putZ n k = l := by
  rw [h, ← hl]; exact putZ_getN l
theorem pack_step (l : List UInt8) (h : stepE l = 0) : mayP (stepV l) = true ∧ packOne (stepV l) ++ stepR l = l := by
  unfold stepE at h
  split at h
  · cases h
  split at h
  · cases h
  split at h
  · cases h
  split at h
  · cases h
  rename_i h1 h2 h3 h4
  have hA := hd_lt l 1
  have hN := hd_lt ((l.drop 1).drop 1) 2
  have hbl : ((l.drop 4).take (4 * hdN l)).length = 4 * hdN l := by rw [List.length_take, List.length_drop]; omega
  have hN' : hdN l < 65536 := hN
  have hA' : hdA l < 256 := hA
  refine ⟨(mayP_iff _).2 ?_, ?_⟩
  · unfold stepV
    simp only [hbl]
    omega
  · have e : l = l.take 1 ++ ((l.drop 1).take 1 ++ (((l.drop 1).drop 1).take 2 ++ ((l.drop 4).take (4 * hdN l) ++ l.drop (4 + 4 * hdN l)))) := by
      rw [← List.drop_drop, List.take_append_drop, drop11]
      have : l.drop 4 = (l.drop 2).drop 2 := by rw [List.drop_drop]
      rw [this, List.take_append_drop]
      have : l.drop 2 = (l.drop 1).drop 1 := by rw [List.drop_drop]
      rw [this, List.take_append_drop, List.take_append_drop]
    unfold packOne stepV stepR
    simp only [hbl]
    rw [putZ_one (l.take 1) _ 1 (by rw [List.length_take]; omega) (by show (128 : Int) + ((hdA l % 32 : Nat) : Int) = (hdA l : Int); omega),
      putZ_one ((l.drop 1).take 1) (hdK l : Int) 1 (by rw [List.length_take, List.length_drop]; omega) rfl,
      putZ_one (((l.drop 1).drop 1).take 2) _ 2 (by rw [List.length_take, List.length_drop, List.length_drop]; omega) (by show ((4 * hdN l / 4 : Nat) : Int) = (hdN l : Int); omega)]
    simp only [List.append_assoc]
    exact e.symm
theorem run_pack (l : List Pc) (h : l.all mayP = true) : ∀ (f : Nat) (acc : List Pc), (l.flatMap packOne).length ≤ f → runP f (l.flatMap packOne) acc = (0, acc ++ l) := by
  induction l with
  | nil => intro f acc _; cases f <;> simp [runP]
  | cons p l ih =>
    intro f acc hf
    simp only [List.all_cons, Bool.and_eq_true] at h
    rw [List.flatMap_cons] at hf ⊢
    have hpl := packOne_length p
    obtain ⟨f, rfl⟩ : ∃ g, f = g + 1 := ⟨f - 1, by rw [List.length_append] at hf; omega⟩
    obtain ⟨e1, e2, e3⟩ := step_pack p (l.flatMap packOne) h.1
    have hne : packOne p ++ l.flatMap packOne ≠ [] := by intro e; have := congrArg List.length e; rw [List.length_append, hpl] at this; simp at this
    unfold runP
    rw [if_neg hne, if_pos e1, e2, e3, ih h.2 f _ (by rw [List.length_append] at hf; omega)]
    simp
theorem pack_run : ∀ (f : Nat) (l : List UInt8) (acc PS : List Pc), l.length ≤ f → runP f l acc = (0, PS) → ∃ qs, PS = acc ++ qs ∧ qs.all mayP = true ∧ qs.flatMap packOne = l := by
  intro f
  induction f with
  | zero =>
    intro l acc PS hl h
    have : l = [] := List.eq_nil_of_length_eq_zero (by omega)
    subst this
    simp only [runP, Prod.mk.injEq, true_and] at h
    exact ⟨[], by simp [h], rfl, rfl⟩
  | succ f ih =>
    intro l acc PS hl h
    unfold runP at h
    split at h
    · rename_i hn
      simp only [Prod.mk.injEq, true_and] at h
      exact ⟨[], by simp [h], rfl, by simp [hn]⟩
    · rename_i hn
      split at h
      · rename_i he
        obtain ⟨qs, h1, h2, h3⟩ := ih _ _ _ (by have := stepR_lt l hn; omega) h
        obtain ⟨p1, p2⟩ := pack_step l he
        exact ⟨stepV l :: qs, by rw [h1]; simp, by simp [p1, h2], by rw [List.flatMap_cons, h3, p2]⟩
      · rename_i he
        simp only [Prod.mk.injEq] at h
        exact absurd h.1 he
theorem run_err : ∀ (f : Nat) (l : List UInt8) (acc : List Pc), (runP f l acc).1 ≠ 0 → (runP f l acc).2 = [] := by
  intro f
  induction f with
  | zero => intro l acc h; exact absurd rfl h
  | succ f ih =>
    intro l acc h
    unfold runP at h ⊢
    split
    · rename_i hn; rw [if_pos hn] at h; exact absurd rfl h
    · rename_i hn
      rw [if_neg hn] at h
      split
      · rename_i he; rw [if_pos he] at h; exact ih _ _ h
      · rfl
theorem split_pack (l : List Pc) (h : l.all mayP = true) : splitP (l.flatMap packOne) = (0, l) := by
  have := run_pack l h _ [] (Nat.le_refl _)
  simpa [splitP] using this
end Go.Proofs.YtjkmnjmmnjhacaaGreat

namespace Go.Proofs.YtjkmnjmmnjhacaaGreat
open Go.RowKit
set_option linter.unusedVariables false
set_option linter.unusedSimpArgs false

structure P10 where
  pid : Int
  blp : Int
  deriving DecidableEq
structure N10 where
  fr : Int
  ab : Int
  ps : List P10
def p10El (p : P10) : List V := [vh p.pid, vh p.blp]
def zp10El (p : P10) : List V := [vi p.pid, vi p.blp]
attribute [go_sem] p10El zp10El
abbrev n10L (n : N10) : List V := [vu n.fr, vu n.ab, .lst 2 (n.ps.map p10El)]
def prs (n T : Nat) (l : List UInt8) : List P10 := (List.range n).map fun i => ⟨getN ((l.drop (T + 4 * i)).take 2), getN ((l.drop (T + 4 * i + 2)).take 2)⟩
theorem prs_succ (n T : Nat) (l : List UInt8) : prs (n + 1) T l = prs n T l ++ [⟨getN ((l.drop (T + 4 * n)).take 2), getN ((l.drop (T + 4 * n + 2)).take 2)⟩] := by
  unfold prs
  rw [List.range_succ, List.map_append]
  rfl
theorem prs_len (n T : Nat) (l : List UInt8) : (prs n T l).length = n := by simp [prs]
def wrPr (p : P10) : List UInt8 := puts' 2 [p.pid, p.blp]
theorem wrPr_len (p : P10) : (wrPr p).length = 4 := by simp [wrPr, puts'_length]
def nackE (p : Pc) : Int := if p.2.1 ≠ 205 ∨ p.1 ≠ 1 then 5 else if p.2.2.length < 12 then 2 else if p.2.2.length % 4 ≠ 0 ∨ 1208 < p.2.2.length then 1 else 0
def nackR (p : Pc) : N10 := if nackE p = 0 then ⟨getN (p.2.2.take 4), getN ((p.2.2.drop 4).take 4), prs ((p.2.2.length - 8) / 4) 8 p.2.2⟩ else ⟨0, 0, []⟩
def nackP (n : N10) : Pc := if n.ps.length = 0 ∨ 300 < n.ps.length then (0, 0, []) else (1, 205, puts' 4 [n.fr, n.ab] ++ n.ps.flatMap wrPr)
theorem puts2 (k : Nat) (m n : Int) : puts' k [m, n] = putZ m k ++ putZ n k := by simp [puts']
theorem nack_back (p : Pc) (h : nackE p = 0) : nackP (nackR p) = p := by
  obtain ⟨c, k, b⟩ := p
  unfold nackR
  rw [if_pos h]
  unfold nackE at h
  dsimp only at h ⊢
  split at h
  · cases h
  rename_i h1
  split at h
  · cases h
  rename_i h2
  split at h
  · cases h
  rename_i h3
  obtain rfl : k = 205 := by omega
  obtain rfl : c = 1 := by omega
  unfold nackP
  dsimp only
  rw [prs_len, if_neg (by omega)]
  congr 2
  have e : ((prs ((b.length - 8) / 4) 8 b).flatMap wrPr) = (b.drop 8).take (4 * ((b.length - 8) / 4)) := fm_blocks 4 (fun i => (⟨getN ((b.drop (8 + 4 * i)).take 2), getN ((b.drop (8 + 4 * i + 2)).take 2)⟩ : P10)) wrPr b 8 _ (fun i hi => by
    unfold wrPr
    rw [puts2]
    dsimp only
    rw [putZ_take b _ 2 (by omega), putZ_take b _ 2 (by omega), show (4 : Nat) = 2 + 2 from rfl, List.take_add, List.drop_drop])
  rw [e, puts2, List.take_of_length_le (l := b.drop 8) (by rw [List.length_drop]; omega)]
  have h4 := putZ_take b 0 4 (by omega)
  rw [List.drop_zero] at h4
  rw [h4, putZ_take b 4 4 (by omega), List.append_assoc, bchunk b 4 4 8 rfl, List.take_append_drop]

/-- What is said of a path. -/
structure L11 where
  path : Int
  fr : Int
  lost : Int
  hi : Int
  ji : Int
  by' : Int
  la : Int
  de : Int
  deriving DecidableEq
structure R11 where
  src : Int
  all : List L11
abbrev l11L (x : L11) : List V := [vi x.path, vi x.fr, vi x.lost, vu x.hi, vu x.ji, vu x.by', vu x.la, vu x.de]
def l11El (x : L11) : List V := l11L x
abbrev zl11L (x : L11) : List V := [vi x.path, vi x.fr, vi x.lost, vi x.hi, vi x.ji, vi x.by', vi x.la, vi x.de]
def zl11El (x : L11) : List V := zl11L x
attribute [go_sem] l11El zl11El
abbrev r11L (r : R11) : List V := [vu r.src, .lst 8 (r.all.map l11El)]
def sg3 (n : Int) : Int := if 8388608 ≤ n then n - 16777216 else n
def rdLn (s : List UInt8) : L11 := ⟨getN (s.take 1), getN ((s.drop 1).take 1), sg3 (getN ((s.drop 4).take 3)), getN ((s.drop 8).take 4), getN ((s.drop 12).take 4), getN ((s.drop 16).take 4), getN ((s.drop 20).take 4), getN ((s.drop 24).take 4)⟩
def wrLn (x : L11) : List UInt8 := puts' 1 [x.path, x.fr] ++ puts' 2 [0] ++ puts' 3 [x.lost] ++ puts' 1 [0] ++ puts' 4 [x.hi, x.ji, x.by', x.la, x.de]
def mayLn (x : L11) : Bool := decide (1 ≤ x.path ∧ x.path ≤ 15 ∧ 0 ≤ x.fr ∧ x.fr ≤ 255 ∧ -8388608 ≤ x.lost ∧ x.lost ≤ 8388607)
def goodLn (s : List UInt8) : Bool := decide ((s.drop 2).take 2 = [0, 0] ∧ (s.drop 7).take 1 = [0])
theorem wrLn_len (x : L11) : (wrLn x).length = 28 := by simp [wrLn, puts'_length]
theorem sg3_put (n : Int) : putZ (sg3 n) 3 = putZ n 3 := by
  unfold sg3
  split
  · rw [← putZ_mod (n - 16777216) 3 3 (Nat.le_refl _), ← putZ_mod n 3 3 (Nat.le_refl _)]
    congr 1
    omega
  · rfl
theorem sg3_in (n : Int) (h : 0 ≤ n ∧ n < 16777216) : -8388608 ≤ sg3 n ∧ sg3 n ≤ 8388607 := by
  unfold sg3
  split <;> omega
theorem goodLn_iff (s : List UInt8) (hl : s.length = 28) : wrLn (rdLn s) = s ↔ goodLn s = true := by
  have h0 := putZ_take s 0 1 (by omega)
  rw [List.drop_zero] at h0
  have e : wrLn (rdLn s) = s.take 2 ++ ([0, 0] ++ ((s.drop 4).take 3 ++ ([0] ++ s.drop 8))) := by
    unfold wrLn rdLn
    simp only [puts2, puts1, puts', List.flatMap_cons, List.flatMap_nil, List.append_nil, sg3_put, List.append_assoc]
    rw [h0, putZ_take s 1 1 (by omega), putZ_take s 4 3 (by omega), putZ_take s 8 4 (by omega), putZ_take s 12 4 (by omega), putZ_take s 16 4 (by omega), putZ_take s 20 4 (by omega), putZ_take s 24 4 (by omega)]
    have e2 : s.take 2 = s.take 1 ++ (s.drop 1).take 1 := by rw [show (2 : Nat) = 1 + 1 from rfl, List.take_add]
    have e3 : s.drop 8 = (s.drop 8).take 4 ++ ((s.drop 12).take 4 ++ ((s.drop 16).take 4 ++ ((s.drop 20).take 4 ++ (s.drop 24).take 4))) := by
      rw [List.take_of_length_le (l := s.drop 24) (by rw [List.length_drop]; omega), bchunk s 20 4 24 rfl, bchunk s 16 4 20 rfl, bchunk s 12 4 16 rfl, bchunk s 8 4 12 rfl]
    rw [e2, List.append_assoc]
    conv => rhs; rw [e3]
    rfl
  have e5 : s = s.take 2 ++ ((s.drop 2).take 2 ++ ((s.drop 4).take 3 ++ ((s.drop 7).take 1 ++ s.drop 8))) := by
    rw [bchunk s 7 1 8 rfl, bchunk s 4 3 7 rfl, bchunk s 2 2 4 rfl, List.take_append_drop]
  have hl2 : ((s.drop 2).take 2).length = 2 := by rw [List.length_take, List.length_drop]; omega
  have hl3 : ((s.drop 7).take 1).length = 1 := by rw [List.length_take, List.length_drop]; omega
  rw [e]
  unfold goodLn
  rw [decide_eq_true_eq]
  constructor
  · intro h
    have h1 := List.append_cancel_left (h.trans e5)
    have h2 := List.append_inj h1 (by rw [hl2]; rfl)
    have h3 := List.append_cancel_left h2.2
    have h4 := List.append_inj h3 (by rw [hl3]; rfl)
    exact ⟨h2.1.symm, h4.1.symm⟩
  · rintro ⟨h1, h2⟩
    conv => rhs; rw [e5, h1, h2]
theorem mayLn_iff (s : List UInt8) (last : Int) (hl : s.length = 28) (h0 : 0 ≤ last) (h1 : last < (rdLn s).path) : mayLn (rdLn s) = true ↔ (rdLn s).path ≤ 15 := by
  have a := getN_lt ((s.drop 1).take 1)
  have b := getN_lt ((s.drop 4).take 3)
  rw [List.length_take, List.length_drop, Nat.min_eq_left (by omega)] at a b
  have c := sg3_in (getN ((s.drop 4).take 3)) ⟨by omega, by omega⟩
  unfold mayLn
  rw [decide_eq_true_eq]
  unfold rdLn at h1 ⊢
  dsimp only at h1 ⊢
  omega
/-- A path that is there, or not. -/
structure A11 where
  path : Int
  up : Bool
  rate : Int
  deriving DecidableEq
structure S11 where
  src : Int
  all : List A11
abbrev a11L (x : A11) : List V := [vi x.path, vb x.up, vi x.rate]
def a11El (x : A11) : List V := a11L x
attribute [go_sem] a11El
abbrev s11L (r : S11) : List V := [vu r.src, .lst 3 (r.all.map a11El)]
def rdAd (s : List UInt8) : A11 := ⟨getN (s.take 1), decide (getN ((s.drop 1).take 1) = 1), getN ((s.drop 2).take 2)⟩
def wrAd (x : A11) : List UInt8 := puts' 1 [x.path, if x.up = true then 1 else 0] ++ puts' 2 [x.rate]
def mayAd (x : A11) : Bool := decide (1 ≤ x.path ∧ x.path ≤ 15 ∧ 0 ≤ x.rate ∧ x.rate ≤ 65535)
def goodAd (s : List UInt8) : Bool := decide (getN ((s.drop 1).take 1) ≤ 1)
theorem wrAd_len (x : A11) : (wrAd x).length = 4 := by simp [wrAd, puts'_length]
theorem goodAd_iff (s : List UInt8) (hl : s.length = 4) : wrAd (rdAd s) = s ↔ goodAd s = true := by
  have h0 := putZ_take s 0 1 (by omega)
  rw [List.drop_zero] at h0
  have h1 := putZ_take s 1 1 (by omega)
  have hb := getN_lt ((s.drop 1).take 1)
  rw [List.length_take, List.length_drop, Nat.min_eq_left (by omega)] at hb
  have e5 : s = s.take 1 ++ ((s.drop 1).take 1 ++ (s.drop 2).take 2) := by
    rw [List.take_of_length_le (l := s.drop 2) (by rw [List.length_drop]; omega), bchunk s 1 1 2 rfl, List.take_append_drop]
  have e : wrAd (rdAd s) = s.take 1 ++ (putZ (if getN ((s.drop 1).take 1) = 1 then 1 else 0) 1 ++ (s.drop 2).take 2) := by
    unfold wrAd rdAd
    simp only [puts2, puts1, List.append_assoc, decide_eq_true_eq]
    rw [h0, putZ_take s 2 2 (by omega)]
  rw [e]
  unfold goodAd
  rw [decide_eq_true_eq]
  constructor
  · intro h
    have h2 := List.append_cancel_left (h.trans e5)
    have h3 := (List.append_inj h2 (by rw [putZ_length, List.length_take, List.length_drop]; omega)).1
    have h4 := getN_putZ (if getN ((s.drop 1).take 1) = 1 then 1 else 0) 1
    rw [h3] at h4
    split at h4
    · omega
    · have h5 : (0 : Int) % 256 ^ 1 = 0 := by decide
      omega
  · intro h
    have e6 : (if getN ((s.drop 1).take 1) = 1 then (1 : Int) else 0) = (getN ((s.drop 1).take 1) : Int) := by
      split
      · omega
      · omega
    rw [e6, h1, ← e5]
theorem mayAd_iff (s : List UInt8) (last : Int) (hl : s.length = 4) (h0 : 0 ≤ last) (h1 : last < (rdAd s).path) : mayAd (rdAd s) = true ↔ (rdAd s).path ≤ 15 := by
  have b := getN_lt ((s.drop 2).take 2)
  rw [List.length_take, List.length_drop, Nat.min_eq_left (by omega)] at b
  unfold mayAd
  rw [decide_eq_true_eq]
  unfold rdAd at h1 ⊢
  dsimp only at h1 ⊢
  omega
/-- Parts behind a source, as a piece. -/
def bldP {α : Type} (f : Int) (may : α → Bool) (path : α → Int) (wr : α → List UInt8) (src : Int) (xs : List α) : Pc := if rises may path 0 xs = true then (f, 211, putZ src 4 ++ xs.flatMap wr) else (0, 0, [])
def linesP (r : R11) : Pc := if r.all.length = 0 then (0, 0, []) else bldP 1 mayLn (fun x => x.path) wrLn r.src r.all
def adsP (r : S11) : Pc := bldP 2 mayAd (fun x => x.path) wrAd r.src r.all
def linesRaw (l : List UInt8) : R11 := ⟨vl 4 (l, 0), rawL11 28 rdLn l⟩
def adsRaw (l : List UInt8) : S11 := ⟨vl 4 (l, 0), rawL11 4 rdAd l⟩
def linesE (p : Pc) : Int := if p.2.1 ≠ 211 ∨ p.1 ≠ 1 then 5 else if linesP (linesRaw p.2.2) = p then 0 else 1
def linesR (p : Pc) : R11 := if linesE p = 0 then linesRaw p.2.2 else ⟨0, []⟩
def adsE (p : Pc) : Int := if p.2.1 ≠ 211 ∨ p.1 ≠ 2 then 5 else if adsP (adsRaw p.2.2) = p then 0 else 1
def adsR (p : Pc) : S11 := if adsE p = 0 then adsRaw p.2.2 else ⟨0, []⟩
abbrev okLn (l : List UInt8) (n : Nat) : Bool := rises (goodR rdLn (fun x => x.path) goodLn) (fun s => (rdLn s).path) 0 ((List.range n).map (blkN 28 l))
abbrev okAd (l : List UInt8) (n : Nat) : Bool := rises (goodR rdAd (fun x => x.path) goodAd) (fun s => (rdAd s).path) 0 ((List.range n).map (blkN 4 l))
theorem vl0 (l : List UInt8) (h : 4 ≤ l.length) : vl 4 (l, 0) = getN (l.take 4) := by rw [goX_zero, goX_vl 4 0 l (by omega)]; rfl
theorem mayLn15 (x : L11) (h : mayLn x = true) : x.path ≤ 15 := by
  unfold mayLn at h
  rw [decide_eq_true_eq] at h
  omega
theorem mayAd15 (x : A11) (h : mayAd x = true) : x.path ≤ 15 := by
  unfold mayAd at h
  rw [decide_eq_true_eq] at h
  omega
theorem linesE_eq (p : Pc) : linesE p = if p.2.1 ≠ 211 ∨ p.1 ≠ 1 then 5 else if p.2.2.length < 32 ∨ p.2.2.length % 28 ≠ 4 then 1 else if okLn p.2.2 ((p.2.2.length - 4) / 28) = true then 0 else 1 := by
  obtain ⟨f, k, l⟩ := p
  unfold linesE
  dsimp only
  split
  · rfl
  rename_i hk
  obtain rfl : k = 211 := by omega
  obtain rfl : f = 1 := by omega
  have law := sub_law 28 rdLn wrLn mayLn (fun x => x.path) goodLn (by omega) wrLn_len goodLn_iff mayLn_iff mayLn15 l (vl 4 (l, 0)) (vl0 l)
  have hiff : linesP (linesRaw l) = (1, 211, l) ↔ (rawL11 28 rdLn l).length ≠ 0 ∧ (rises mayLn (fun x => x.path) 0 (rawL11 28 rdLn l) = true ∧ putZ (vl 4 (l, 0)) 4 ++ (rawL11 28 rdLn l).flatMap wrLn = l) := by
    unfold linesP linesRaw bldP
    dsimp only
    by_cases h0 : (rawL11 28 rdLn l).length = 0
    · rw [if_pos h0]; simp [h0]
    rw [if_neg h0]
    by_cases h1 : rises mayLn (fun x => x.path) 0 (rawL11 28 rdLn l) = true
    · rw [if_pos h1]; simp [h0, h1]
    · rw [if_neg h1]; simp [h1]
  have hn : (rawL11 28 rdLn l).length = min 15 ((l.length - 4) / 28) := by simp [rawL11, rawN11]
  rw [law, hn] at hiff
  by_cases h : linesP (linesRaw l) = (1, 211, l)
  · rw [if_pos h]
    obtain ⟨h1, h2, h3, h4⟩ := hiff.1 h
    rw [if_neg (by omega), if_pos h4]
  · rw [if_neg h]
    split
    · rfl
    rename_i hl
    split
    · rename_i h4
      exact absurd (hiff.2 ⟨by omega, by omega, by omega, h4⟩) h
    · rfl
theorem linesR_eq (p : Pc) (h : linesE p = 0) : linesR p = ⟨getN (p.2.2.take 4), (List.range ((p.2.2.length - 4) / 28)).map fun i => rdLn (blkN 28 p.2.2 i)⟩ := by
  unfold linesR
  rw [if_pos h]
  rw [linesE_eq] at h
  split at h
  · cases h
  split at h
  · cases h
  rename_i hl
  split at h
  · rename_i h4
    have := rises_few _ _ (fun s hs => by
      simp only [goodR, Bool.and_eq_true, decide_eq_true_eq] at hs
      exact hs.2) 0 _ (by omega) h4
    simp only [List.length_map, List.length_range] at this
    unfold linesRaw rawL11 rawN11
    rw [vl0 _ (by omega), Nat.min_eq_right (by omega)]
  · cases h
theorem lines_back (p : Pc) (h : linesE p = 0) : linesP (linesR p) = p := by
  unfold linesR
  rw [if_pos h]
  unfold linesE at h
  split at h
  · cases h
  split at h
  · assumption
  · cases h
theorem adsE_eq (p : Pc) : adsE p = if p.2.1 ≠ 211 ∨ p.1 ≠ 2 then 5 else if p.2.2.length < 4 ∨ p.2.2.length % 4 ≠ 0 then 1 else if okAd p.2.2 ((p.2.2.length - 4) / 4) = true then 0 else 1 := by
  obtain ⟨f, k, l⟩ := p
  unfold adsE
  dsimp only
  split
  · rfl
  rename_i hk
  obtain rfl : k = 211 := by omega
  obtain rfl : f = 2 := by omega
  have law := sub_law 4 rdAd wrAd mayAd (fun x => x.path) goodAd (by omega) wrAd_len goodAd_iff mayAd_iff mayAd15 l (vl 4 (l, 0)) (vl0 l)
  have hiff : adsP (adsRaw l) = (2, 211, l) ↔ (rises mayAd (fun x => x.path) 0 (rawL11 4 rdAd l) = true ∧ putZ (vl 4 (l, 0)) 4 ++ (rawL11 4 rdAd l).flatMap wrAd = l) := by
    unfold adsP adsRaw bldP
    dsimp only
    by_cases h1 : rises mayAd (fun x => x.path) 0 (rawL11 4 rdAd l) = true
    · rw [if_pos h1]; simp [h1]
    · rw [if_neg h1]; simp [h1]
  rw [law] at hiff
  by_cases h : adsP (adsRaw l) = (2, 211, l)
  · rw [if_pos h]
    obtain ⟨h2, h3, h4⟩ := hiff.1 h
    rw [if_neg (by omega), if_pos h4]
  · rw [if_neg h]
    split
    · rfl
    rename_i hl
    split
    · rename_i h4
      exact absurd (hiff.2 ⟨by omega, by omega, h4⟩) h
    · rfl
theorem adsR_eq (p : Pc) (h : adsE p = 0) : adsR p = ⟨getN (p.2.2.take 4), (List.range ((p.2.2.length - 4) / 4)).map fun i => rdAd (blkN 4 p.2.2 i)⟩ := by
  unfold adsR
  rw [if_pos h]
  rw [adsE_eq] at h
  split at h
  · cases h
  split at h
  · cases h
  rename_i hl
  split at h
  · rename_i h4
    have := rises_few _ _ (fun s hs => by
      simp only [goodR, Bool.and_eq_true, decide_eq_true_eq] at hs
      exact hs.2) 0 _ (by omega) h4
    simp only [List.length_map, List.length_range] at this
    unfold adsRaw rawL11 rawN11
    rw [vl0 _ (by omega), Nat.min_eq_right (by omega)]
  · cases h
theorem ads_back (p : Pc) (h : adsE p = 0) : adsP (adsR p) = p := by
  unfold adsR
  rw [if_pos h]
  unfold adsE at h
  split at h
  · cases h
  split at h
  · assumption
  · cases h
def preLn (b : List UInt8) (j : Nat) : List L11 := (List.range j).map fun i => rdLn (blkN 28 b i)
theorem preLn_succ (b : List UInt8) (j : Nat) : preLn b (j + 1) = preLn b j ++ [rdLn (blkN 28 b j)] := by
  unfold preLn
  rw [List.range_succ, List.map_append]
  rfl
theorem preLn_len (b : List UInt8) (j : Nat) : (preLn b j).length = j := by simp [preLn]
def preAd (b : List UInt8) (j : Nat) : List A11 := (List.range j).map fun i => rdAd (blkN 4 b i)
theorem preAd_succ (b : List UInt8) (j : Nat) : preAd b (j + 1) = preAd b j ++ [rdAd (blkN 4 b j)] := by
  unfold preAd
  rw [List.range_succ, List.map_append]
  rfl
theorem preAd_len (b : List UInt8) (j : Nat) : (preAd b j).length = j := by simp [preAd]
end Go.Proofs.YtjkmnjmmnjhacaaGreat

