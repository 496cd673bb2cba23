
/- Plain mathematics of layer 7: pieces and their bytes. No program in sight. -/
import Derived.Test.YtdgkehoodlncmaaByte
namespace Go.Proofs.Ytdgkehoodlncmaa
set_option linter.unusedVariables false
set_option linter.unusedSimpArgs false

/-- A piece: its count, its kind, its body. -/
abbrev Pc := Int × Int × List UInt8
def mayP (p : Pc) : Bool := decide (0 ≤ p.1 ∧ p.1 ≤ 31 ∧ 192 ≤ p.2.1 ∧ p.2.1 ≤ 223 ∧ p.2.2.length % 4 = 0 ∧ p.2.2.length ≤ 262140)
theorem mayP_iff (p : Pc) : mayP p = true ↔ (0 ≤ p.1 ∧ p.1 ≤ 31 ∧ 192 ≤ p.2.1 ∧ p.2.1 ≤ 223 ∧ p.2.2.length % 4 = 0 ∧ p.2.2.length ≤ 262140) := by simp [mayP]
def checkE (p : Pc) : Int := if mayP p = true then 0 else 6
def packOne (p : Pc) : List UInt8 := putZ (128 + p.1) 1 ++ (putZ p.2.1 1 ++ (putZ (p.2.2.length / 4 : Nat) 2 ++ p.2.2))
def packP (l : List Pc) : List UInt8 := if l.all mayP = true then l.flatMap packOne else []
theorem packOne_length (p : Pc) : (packOne p).length = 4 + p.2.2.length := by simp [packOne, putZ_length]; omega

def hdA (l : List UInt8) : Nat := getN (l.take 1)
def hdK (l : List UInt8) : Nat := getN ((l.drop 1).take 1)
def hdN (l : List UInt8) : Nat := getN (((l.drop 1).drop 1).take 2)
def stepE (l : List UInt8) : Int := if l.length < 4 then 2 else if hdA l / 32 ≠ 4 then 1 else if ¬ (192 ≤ hdK l ∧ hdK l ≤ 223) then 5 else if l.length < 4 + 4 * hdN l then 2 else 0
def stepV (l : List UInt8) : Pc := ((hdA l % 32 : Nat), (hdK l : Nat), (l.drop 4).take (4 * hdN l))
def stepR (l : List UInt8) : List UInt8 := l.drop (4 + 4 * hdN l)
def runP : Nat → List UInt8 → List Pc → Int × List Pc
  | 0, _, acc => (0, acc)
  | f + 1, l, acc => if l = [] then (0, acc) else if stepE l = 0 then runP f (stepR l) (acc ++ [stepV l]) else (stepE l, [])
def splitP (l : List UInt8) : Int × List Pc := runP l.length l []

theorem getN_one (b : UInt8) : getN [b] = b.toNat := by simp [getN]
theorem hd_lt (l : List UInt8) (k : Nat) : getN (l.take k) < 256 ^ k := by
  have h := getN_lt (l.take k)
  have h2 : (l.take k).length ≤ k := by rw [List.length_take]; exact Nat.min_le_left _ _
  exact Nat.lt_of_lt_of_le h (Nat.pow_le_pow_right (by decide) h2)
theorem stepR_lt (l : List UInt8) (h : l ≠ []) : (stepR l).length < l.length := by
  have : 0 < l.length := List.length_pos_iff.2 h
  unfold stepR; rw [List.length_drop]; omega

theorem drop11 (l : List UInt8) : (l.drop 1).drop 1 = l.drop 2 := by rw [List.drop_drop]
theorem hd_app (x y z r : List UInt8) (hx : x.length = 1) (hy : y.length = 1) (hz : z.length = 2) :
    hdA (x ++ (y ++ (z ++ r))) = getN x ∧ hdK (x ++ (y ++ (z ++ r))) = getN y ∧ hdN (x ++ (y ++ (z ++ r))) = getN z := by
  refine ⟨?_, ?_, ?_⟩
  · unfold hdA; rw [List.take_left' hx]
  · unfold hdK; rw [List.drop_left' hx, List.take_left' hy]
  · unfold hdN; rw [List.drop_left' hx, List.drop_left' hy, List.take_left' hz]
theorem step_pack (p : Pc) (r : List UInt8) (h : mayP p = true) : stepE (packOne p ++ r) = 0 ∧ stepV (packOne p ++ r) = p ∧ stepR (packOne p ++ r) = r := by
  obtain ⟨h1, h2, h3, h4, h5, h6⟩ := (mayP_iff p).1 h
  have e : packOne p ++ r = putZ (128 + p.1) 1 ++ (putZ p.2.1 1 ++ (putZ (p.2.2.length / 4 : Nat) 2 ++ (p.2.2 ++ r))) := by simp [packOne]
  obtain ⟨hA, hK, hN⟩ := hd_app (putZ (128 + p.1) 1) (putZ p.2.1 1) (putZ (p.2.2.length / 4 : Nat) 2) (p.2.2 ++ r) (putZ_length _ _) (putZ_length _ _) (putZ_length _ _)
  rw [← e] at hA hK hN
  have gA := getN_putZ (128 + p.1) 1
  have gK := getN_putZ p.2.1 1
  have gN := getN_putZ (p.2.2.length / 4 : Nat) 2
  have eA : hdA (packOne p ++ r) = (128 + p.1).toNat := by rw [hA]; omega
  have eK : hdK (packOne p ++ r) = p.2.1.toNat := by rw [hK]; omega
  have eN : 4 * hdN (packOne p ++ r) = p.2.2.length := by rw [hN]; omega
  have hl : (packOne p ++ r).length = 4 + p.2.2.length + r.length := by rw [List.length_append, packOne_length]
  have hd4 : (packOne p ++ r).drop 4 = p.2.2 ++ r := by
    have e' : packOne p ++ r = (putZ (128 + p.1) 1 ++ (putZ p.2.1 1 ++ putZ (p.2.2.length / 4 : Nat) 2)) ++ (p.2.2 ++ r) := by rw [e]; simp
    rw [e', List.drop_left' (by simp [putZ_length])]
  refine ⟨?_, ?_, ?_⟩
  · unfold stepE
    rw [if_neg (by omega), if_neg (by omega), if_neg (by omega), if_neg (by omega)]
  · unfold stepV
    rw [eN, hd4, List.take_left' rfl]
    obtain ⟨c, k, b⟩ := p
    simp only at *
    refine Prod.ext ?_ (Prod.ext ?_ rfl)
    · show ((hdA _ % 32 : Nat) : Int) = c; omega
    · show ((hdK _ : Nat) : Int) = k; omega
  · unfold stepR
    rw [eN, ← List.drop_drop, hd4, List.drop_left' rfl]
theorem putZ_one (l : List UInt8) (n : Int) (k : Nat) (hl : l.length = k) (h : n = getN l) : putZ n k = l := by
  rw [h, ← hl]; exact putZ_getN l
theorem pack_step (l : List UInt8) (h : stepE l = 0) : mayP (stepV l) = true ∧ packOne (stepV l) ++ stepR l = l := by
  unfold stepE at h
  split at h
  · cases h
  split at h
  · cases h
  split at h
  · cases h
  split at h
  · cases h
  rename_i h1 h2 h3 h4
  have hA := hd_lt l 1
  have hN := hd_lt ((l.drop 1).drop 1) 2
  have hbl : ((l.drop 4).take (4 * hdN l)).length = 4 * hdN l := by rw [List.length_take, List.length_drop]; omega
  have hN' : hdN l < 65536 := hN
  have hA' : hdA l < 256 := hA
  refine ⟨(mayP_iff _).2 ?_, ?_⟩
  · unfold stepV
    simp only [hbl]
    omega
  · have e : l = l.take 1 ++ ((l.drop 1).take 1 ++ (((l.drop 1).drop 1).take 2 ++ ((l.drop 4).take (4 * hdN l) ++ l.drop (4 + 4 * hdN l)))) := by
      rw [← List.drop_drop, List.take_append_drop, drop11]
      have : l.drop 4 = (l.drop 2).drop 2 := by rw [List.drop_drop]
      rw [this, List.take_append_drop]
      have : l.drop 2 = (l.drop 1).drop 1 := by rw [List.drop_drop]
      rw [this, List.take_append_drop, List.take_append_drop]
    unfold packOne stepV stepR
    simp only [hbl]
    rw [putZ_one (l.take 1) _ 1 (by rw [List.length_take]; omega) (by show (128 : Int) + ((hdA l % 32 : Nat) : Int) = (hdA l : Int); omega),
      putZ_one ((l.drop 1).take 1) (hdK l : Int) 1 (by rw [List.length_take, List.length_drop]; omega) rfl,
      putZ_one (((l.drop 1).drop 1).take 2) _ 2 (by rw [List.length_take, List.length_drop, List.length_drop]; omega) (by show ((4 * hdN l / 4 : Nat) : Int) = (hdN l : Int); omega)]
    simp only [List.append_assoc]
    exact e.symm
theorem run_pack (l : List Pc) (h : l.all mayP = true) : ∀ (f : Nat) (acc : List Pc), (l.flatMap packOne).length ≤ f → runP f (l.flatMap packOne) acc = (0, acc ++ l) := by
  induction l with
  | nil => intro f acc _; cases f <;> simp [runP]
  | cons p l ih =>
    intro f acc hf
    simp only [List.all_cons, Bool.and_eq_true] at h
    rw [List.flatMap_cons] at hf ⊢
    have hpl := packOne_length p
    obtain ⟨f, rfl⟩ : ∃ g, f = g + 1 := ⟨f - 1, by rw [List.length_append] at hf; omega⟩
    obtain ⟨e1, e2, e3⟩ := step_pack p (l.flatMap packOne) h.1
    have hne : packOne p ++ l.flatMap packOne ≠ [] := by intro e; have := congrArg List.length e; rw [List.length_append, hpl] at this; simp at this
    unfold runP
    rw [if_neg hne, if_pos e1, e2, e3, ih h.2 f _ (by rw [List.length_append] at hf; omega)]
    simp
theorem pack_run : ∀ (f : Nat) (l : List UInt8) (acc PS : List Pc), l.length ≤ f → runP f l acc = (0, PS) → ∃ qs, PS = acc ++ qs ∧ qs.all mayP = true ∧ qs.flatMap packOne = l := by
  intro f
  induction f with
  | zero =>
    intro l acc PS hl h
    have : l = [] := List.eq_nil_of_length_eq_zero (by omega)
    subst this
    simp only [runP, Prod.mk.injEq, true_and] at h
    exact ⟨[], by simp [h], rfl, rfl⟩
  | succ f ih =>
    intro l acc PS hl h
    unfold runP at h
    split at h
    · rename_i hn
      simp only [Prod.mk.injEq, true_and] at h
      exact ⟨[], by simp [h], rfl, by simp [hn]⟩
    · rename_i hn
      split at h
      · rename_i he
        obtain ⟨qs, h1, h2, h3⟩ := ih _ _ _ (by have := stepR_lt l hn; omega) h
        obtain ⟨p1, p2⟩ := pack_step l he
        exact ⟨stepV l :: qs, by rw [h1]; simp, by simp [p1, h2], by rw [List.flatMap_cons, h3, p2]⟩
      · rename_i he
        simp only [Prod.mk.injEq] at h
        exact absurd h.1 he
theorem run_err : ∀ (f : Nat) (l : List UInt8) (acc : List Pc), (runP f l acc).1 ≠ 0 → (runP f l acc).2 = [] := by
  intro f
  induction f with
  | zero => intro l acc h; exact absurd rfl h
  | succ f ih =>
    intro l acc h
    unfold runP at h ⊢
    split
    · rename_i hn; rw [if_pos hn] at h; exact absurd rfl h
    · rename_i hn
      rw [if_neg hn] at h
      split
      · rename_i he; rw [if_pos he] at h; exact ih _ _ h
      · rfl
theorem split_pack (l : List Pc) (h : l.all mayP = true) : splitP (l.flatMap packOne) = (0, l) := by
  have := run_pack l h _ [] (Nat.le_refl _)
  simpa [splitP] using this
theorem pack_split (l : List UInt8) (h : (splitP l).1 = 0) : packP (splitP l).2 = l := by
  obtain ⟨qs, h1, h2, h3⟩ := pack_run l.length l [] (splitP l).2 (Nat.le_refl _) (Prod.ext h rfl)
  simp only [List.nil_append] at h1
  unfold packP
  rw [h1, if_pos h2, h3]
end Go.Proofs.Ytdgkehoodlncmaa
