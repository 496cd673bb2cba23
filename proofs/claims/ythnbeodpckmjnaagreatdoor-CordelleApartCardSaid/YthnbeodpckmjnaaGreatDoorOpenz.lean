/- Plain law of layers 10 and 11: parts of so many bytes each, whose paths rise. -/
import Derived.Test.YthnbeodpckmjnaaGreatDoorQInz
import Derived.Test.YthnbeodpckmjnaaGreatDoorKitz
import Derived.Deep.Slices
import Derived.Deep.Fields
import Derived.ChangeSame
import Derived.Lib.SmallJoins
namespace Go.Proofs.YthnbeodpckmjnaaGreatDoor
open Go.RowKit
set_option linter.unusedVariables false
set_option linter.unusedSimpArgs false

theorem fm_len {α : Type} (c : Nat) (wr : α → List UInt8) (hw : ∀ x, (wr x).length = c) (xs : List α) : (xs.flatMap wr).length = c * xs.length := by
  induction xs with
  | nil => rfl
  | cons x xs ih => rw [List.flatMap_cons, List.length_append, hw, ih, List.length_cons, Nat.mul_add]; omega
/-- The i-th part of so many bytes. -/
def blkN (c : Nat) (l : List UInt8) (i : Nat) : List UInt8 := (l.drop (4 + c * i)).take c
/-- Parts that may be, whose paths rise. -/
def rises {α : Type} (may : α → Bool) (path : α → Int) : Int → List α → Bool
  | _, [] => true
  | last, x :: xs => may x && decide (last < path x) && rises may path (path x) xs
theorem rises_map {α β : Type} (f : β → α) (may : α → Bool) (path : α → Int) : ∀ (last : Int) (xs : List β), rises may path last (xs.map f) = rises (fun y => may (f y)) (fun y => path (f y)) last xs
  | _, [] => rfl
  | last, x :: xs => by rw [List.map_cons, rises, rises, rises_map f may path]
theorem rises_few {α : Type} (may : α → Bool) (path : α → Int) (hm : ∀ x, may x = true → path x ≤ 15) : ∀ (last : Int) (xs : List α), last ≤ 15 → rises may path last xs = true → (xs.length : Int) ≤ 15 - last
  | last, [], h0, _ => by simp; omega
  | last, x :: xs, h0, h => by
    simp only [rises, Bool.and_eq_true, decide_eq_true_eq] at h
    have h1 := hm x h.1.1
    have := rises_few may path hm (path x) xs h1 h.2
    rw [List.length_cons]
    omega
/-- The last path behind so many parts. -/
def lastP {α : Type} (path : α → Int) (last : Int) (xs : List α) : Int := xs.foldl (fun _ x => path x) last
theorem lastP_snoc {α : Type} (path : α → Int) (last : Int) (xs : List α) (x : α) : lastP path last (xs ++ [x]) = path x := by simp [lastP]
theorem rises_snoc {α : Type} (may : α → Bool) (path : α → Int) (x : α) : ∀ (last : Int) (xs : List α), rises may path last (xs ++ [x]) = (rises may path last xs && (may x && decide (lastP path last xs < path x)))
  | last, [] => by rw [List.nil_append, rises, rises, rises, Bool.true_and, Bool.and_true]; rfl
  | last, y :: ys => by
    rw [List.cons_append, rises, rises, rises_snoc may path x (path y) ys, Bool.and_assoc, Bool.and_assoc, Bool.and_assoc]
    rfl
theorem rises_app {α : Type} (may : α → Bool) (path : α → Int) : ∀ (last : Int) (xs ys : List α), rises may path last (xs ++ ys) = true → rises may path last xs = true
  | _, [], _, _ => rfl
  | last, x :: xs, ys, h => by
    simp only [List.cons_append, rises, Bool.and_eq_true] at h ⊢
    exact ⟨h.1, rises_app may path _ xs ys h.2⟩
theorem rises_pre {α : Type} (may : α → Bool) (path : α → Int) (last : Int) (xs : List α) (n : Nat) (h : rises may path last xs = true) : rises may path last (xs.take n) = true := by
  apply rises_app may path last _ (xs.drop n)
  rwa [List.take_append_drop]
section
variable {α : Type} (c : Nat) (rd : List UInt8 → α) (wr : α → List UInt8) (may : α → Bool) (path : α → Int) (good : List UInt8 → Bool)
def rawN11 (l : List UInt8) : Nat := min 15 ((l.length - 4) / c)
def rawL11 (l : List UInt8) : List α := (List.range (rawN11 c l)).map fun i => rd (blkN c l i)
end
end Go.Proofs.YthnbeodpckmjnaaGreatDoor

namespace Go.Proofs.YthnbeodpckmjnaaGreatDoor
set_option linter.unusedVariables false
set_option linter.unusedSimpArgs false

/-- A piece: its count, its kind, its body. -/
abbrev Pc := Int × Int × List UInt8
def mayP (p : Pc) : Bool := decide (0 ≤ p.1 ∧ p.1 ≤ 31 ∧ 192 ≤ p.2.1 ∧ p.2.1 ≤ 223 ∧ p.2.2.length % 4 = 0 ∧ p.2.2.length ≤ 262140)
theorem mayP_iff (p : Pc) : mayP p = true ↔ (0 ≤ p.1 ∧ p.1 ≤ 31 ∧ 192 ≤ p.2.1 ∧ p.2.1 ≤ 223 ∧ p.2.2.length % 4 = 0 ∧ p.2.2.length ≤ 262140) := by simp [mayP]
def checkE (p : Pc) : Int := if mayP p = true then 0 else 6
def packOne (p : Pc) : List UInt8 := putZ (128 + p.1) 1 ++ (putZ p.2.1 1 ++ (putZ (p.2.2.length / 4 : Nat) 2 ++ p.2.2))
def packP (l : List Pc) : List UInt8 := if l.all mayP = true then l.flatMap packOne else []
theorem packOne_length (p : Pc) : (packOne p).length = 4 + p.2.2.length := by simp [packOne, putZ_length]; omega

def hdA (l : List UInt8) : Nat := getN (l.take 1)
def hdK (l : List UInt8) : Nat := getN ((l.drop 1).take 1)
def hdN (l : List UInt8) : Nat := getN (((l.drop 1).drop 1).take 2)
def stepE (l : List UInt8) : Int := if l.length < 4 then 2 else if hdA l / 32 ≠ 4 then 1 else if ¬ (192 ≤ hdK l ∧ hdK l ≤ 223) then 5 else if l.length < 4 + 4 * hdN l then 2 else 0
def stepV (l : List UInt8) : Pc := ((hdA l % 32 : Nat), (hdK l : Nat), (l.drop 4).take (4 * hdN l))
def stepR (l : List UInt8) : List UInt8 := l.drop (4 + 4 * hdN l)
def runP : Nat → List UInt8 → List Pc → Int × List Pc
  | 0, _, acc => (0, acc)
  | f + 1, l, acc => if l = [] then (0, acc) else if stepE l = 0 then runP f (stepR l) (acc ++ [stepV l]) else (stepE l, [])
def splitP (l : List UInt8) : Int × List Pc := runP l.length l []

theorem hd_lt (l : List UInt8) (k : Nat) : getN (l.take k) < 256 ^ k := by
  have h := getN_lt (l.take k)
  have h2 : (l.take k).length ≤ k := by rw [List.length_take]; exact Nat.min_le_left _ _
  exact Nat.lt_of_lt_of_le h (Nat.pow_le_pow_right (by decide) h2)
theorem stepR_lt (l : List UInt8) (h : l ≠ []) : (stepR l).length < l.length := by
  have : 0 < l.length := List.length_pos_iff.2 h
  unfold stepR; rw [List.length_drop]; omega

theorem drop11 (l : List UInt8) : (l.drop 1).drop 1 = l.drop 2 := by rw [List.drop_drop]
theorem hd_app (x y z r : List UInt8) (hx : x.length = 1) (hy : y.length = 1) (hz : z.length = 2) :
    hdA (x ++ (y ++ (z ++ r))) = getN x ∧ hdK (x ++ (y ++ (z ++ r))) = getN y ∧ hdN (x ++ (y ++ (z ++ r))) = getN z := by
  refine ⟨?_, ?_, ?_⟩
  · unfold hdA; rw [List.take_left' hx]
  · unfold hdK; rw [List.drop_left' hx, List.take_left' hy]
  · unfold hdN; rw [List.drop_left' hx, List.drop_left' hy, List.take_left' hz]
theorem step_pack (p : Pc) (r : List UInt8) (h : mayP p = true) : stepE (packOne p ++ r) = 0 ∧ stepV (packOne p ++ r) = p ∧ stepR (packOne p ++ r) = r := by
  obtain ⟨h1, h2, h3, h4, h5, h6⟩ := (mayP_iff p).1 h
  have e : packOne p ++ r = putZ (128 + p.1) 1 ++ (putZ p.2.1 1 ++ (putZ (p.2.2.length / 4 : Nat) 2 ++ (p.2.2 ++ r))) := by simp [packOne]
  obtain ⟨hA, hK, hN⟩ := hd_app (putZ (128 + p.1) 1) (putZ p.2.1 1) (putZ (p.2.2.length / 4 : Nat) 2) (p.2.2 ++ r) (putZ_length _ _) (putZ_length _ _) (putZ_length _ _)
  rw [← e] at hA hK hN
  have gA := getN_putZ (128 + p.1) 1
  have gK := getN_putZ p.2.1 1
  have gN := getN_putZ (p.2.2.length / 4 : Nat) 2
  have eA : hdA (packOne p ++ r) = (128 + p.1).toNat := by rw [hA]; omega
  have eK : hdK (packOne p ++ r) = p.2.1.toNat := by rw [hK]; omega
  have eN : 4 * hdN (packOne p ++ r) = p.2.2.length := by rw [hN]; omega
  have hl : (packOne p ++ r).length = 4 + p.2.2.length + r.length := by rw [List.length_append, packOne_length]
  have hd4 : (packOne p ++ r).drop 4 = p.2.2 ++ r := by
    have e' : packOne p ++ r = (putZ (128 + p.1) 1 ++ (putZ p.2.1 1 ++ putZ (p.2.2.length / 4 : Nat) 2)) ++ (p.2.2 ++ r) := by rw [e]; simp
    rw [e', List.drop_left' (by simp [putZ_length])]
  refine ⟨?_, ?_, ?_⟩
  · unfold stepE
    rw [if_neg (by omega), if_neg (by omega), if_neg (by omega), if_neg (by omega)]
  · unfold stepV
    rw [eN, hd4, List.take_left' rfl]
    obtain ⟨c, k, b⟩ := p
    simp only at *
    refine Prod.ext ?_ (Prod.ext ?_ rfl)
    · show ((hdA _ % 32 : Nat) : Int) = c; omega
    · show ((hdK _ : Nat) : Int) = k; omega
  · unfold stepR
    rw [eN, ← List.drop_drop, hd4, List.drop_left' rfl]
theorem putZ_one (l : List UInt8) (n : Int) (k : Nat) (hl : l.length = k) (h : n = getN l) : putZ n k = l := by
  rw [h, ← hl]; exact putZ_getN l
theorem pack_step (l : List UInt8) (h : stepE l = 0) : mayP (stepV l) = true ∧ packOne (stepV l) ++ stepR l = l := by
  unfold stepE at h
  split at h
  · cases h
  split at h
  · cases h
  split at h
  · cases h
  split at h
  · cases h
  rename_i h1 h2 h3 h4
  have hA := hd_lt l 1
  have hN := hd_lt ((l.drop 1).drop 1) 2
  have hbl : ((l.drop 4).take (4 * hdN l)).length = 4 * hdN l := by rw [List.length_take, List.length_drop]; omega
  have hN' : hdN l < 65536 := hN
  have hA' : hdA l < 256 := hA
  refine ⟨(mayP_iff _).2 ?_, ?_⟩
  · unfold stepV
    simp only [hbl]
    omega
  · have e : l = l.take 1 ++ ((l.drop 1).take 1 ++ (((l.drop 1).drop 1).take 2 ++ ((l.drop 4).take (4 * hdN l) ++ l.drop (4 + 4 * hdN l)))) := by
      rw [← List.drop_drop, List.take_append_drop, drop11]
      have : l.drop 4 = (l.drop 2).drop 2 := by rw [List.drop_drop]
      rw [this, List.take_append_drop]
      have : l.drop 2 = (l.drop 1).drop 1 := by rw [List.drop_drop]
      rw [this, List.take_append_drop, List.take_append_drop]
    unfold packOne stepV stepR
    simp only [hbl]
    rw [putZ_one (l.take 1) _ 1 (by rw [List.length_take]; omega) (by show (128 : Int) + ((hdA l % 32 : Nat) : Int) = (hdA l : Int); omega),
      putZ_one ((l.drop 1).take 1) (hdK l : Int) 1 (by rw [List.length_take, List.length_drop]; omega) rfl,
      putZ_one (((l.drop 1).drop 1).take 2) _ 2 (by rw [List.length_take, List.length_drop, List.length_drop]; omega) (by show ((4 * hdN l / 4 : Nat) : Int) = (hdN l : Int); omega)]
    simp only [List.append_assoc]
    exact e.symm
theorem run_pack (l : List Pc) (h : l.all mayP = true) : ∀ (f : Nat) (acc : List Pc), (l.flatMap packOne).length ≤ f → runP f (l.flatMap packOne) acc = (0, acc ++ l) := by
  induction l with
  | nil => intro f acc _; cases f <;> simp [runP]
  | cons p l ih =>
    intro f acc hf
    simp only [List.all_cons, Bool.and_eq_true] at h
    rw [List.flatMap_cons] at hf ⊢
    have hpl := packOne_length p
    obtain ⟨f, rfl⟩ : ∃ g, f = g + 1 := ⟨f - 1, by rw [List.length_append] at hf; omega⟩
    obtain ⟨e1, e2, e3⟩ := step_pack p (l.flatMap packOne) h.1
    have hne : packOne p ++ l.flatMap packOne ≠ [] := by intro e; have := congrArg List.length e; rw [List.length_append, hpl] at this; simp at this
    unfold runP
    rw [if_neg hne, if_pos e1, e2, e3, ih h.2 f _ (by rw [List.length_append] at hf; omega)]
    simp
theorem pack_run : ∀ (f : Nat) (l : List UInt8) (acc PS : List Pc), l.length ≤ f → runP f l acc = (0, PS) → ∃ qs, PS = acc ++ qs ∧ qs.all mayP = true ∧ qs.flatMap packOne = l := by
  intro f
  induction f with
  | zero =>
    intro l acc PS hl h
    have : l = [] := List.eq_nil_of_length_eq_zero (by omega)
    subst this
    simp only [runP, Prod.mk.injEq, true_and] at h
    exact ⟨[], by simp [h], rfl, rfl⟩
  | succ f ih =>
    intro l acc PS hl h
    unfold runP at h
    split at h
    · rename_i hn
      simp only [Prod.mk.injEq, true_and] at h
      exact ⟨[], by simp [h], rfl, by simp [hn]⟩
    · rename_i hn
      split at h
      · rename_i he
        obtain ⟨qs, h1, h2, h3⟩ := ih _ _ _ (by have := stepR_lt l hn; omega) h
        obtain ⟨p1, p2⟩ := pack_step l he
        exact ⟨stepV l :: qs, by rw [h1]; simp, by simp [p1, h2], by rw [List.flatMap_cons, h3, p2]⟩
      · rename_i he
        simp only [Prod.mk.injEq] at h
        exact absurd h.1 he
theorem run_err : ∀ (f : Nat) (l : List UInt8) (acc : List Pc), (runP f l acc).1 ≠ 0 → (runP f l acc).2 = [] := by
  intro f
  induction f with
  | zero => intro l acc h; exact absurd rfl h
  | succ f ih =>
    intro l acc h
    unfold runP at h ⊢
    split
    · rename_i hn; rw [if_pos hn] at h; exact absurd rfl h
    · rename_i hn
      rw [if_neg hn] at h
      split
      · rename_i he; rw [if_pos he] at h; exact ih _ _ h
      · rfl
theorem split_pack (l : List Pc) (h : l.all mayP = true) : splitP (l.flatMap packOne) = (0, l) := by
  have := run_pack l h _ [] (Nat.le_refl _)
  simpa [splitP] using this
end Go.Proofs.YthnbeodpckmjnaaGreatDoor

namespace Go.Proofs.YthnbeodpckmjnaaGreatDoor
open Go.RowKit
set_option linter.unusedVariables false
set_option linter.unusedSimpArgs false

structure P10 where
  pid : Int
  blp : Int
  deriving DecidableEq
structure N10 where
  fr : Int
  ab : Int
  ps : List P10
def p10El (p : P10) : List V := [vh p.pid, vh p.blp]
def zp10El (p : P10) : List V := [vi p.pid, vi p.blp]
attribute [go_sem] p10El zp10El
abbrev n10L (n : N10) : List V := [vu n.fr, vu n.ab, .lst 2 (n.ps.map p10El)]
def prs (n T : Nat) (l : List UInt8) : List P10 := (List.range n).map fun i => ⟨getN ((l.drop (T + 4 * i)).take 2), getN ((l.drop (T + 4 * i + 2)).take 2)⟩
theorem prs_succ (n T : Nat) (l : List UInt8) : prs (n + 1) T l = prs n T l ++ [⟨getN ((l.drop (T + 4 * n)).take 2), getN ((l.drop (T + 4 * n + 2)).take 2)⟩] := by
  unfold prs
  rw [List.range_succ, List.map_append]
  rfl
theorem prs_len (n T : Nat) (l : List UInt8) : (prs n T l).length = n := by simp [prs]
def nackE (p : Pc) : Int := if p.2.1 ≠ 205 ∨ p.1 ≠ 1 then 5 else if p.2.2.length < 12 then 2 else if p.2.2.length % 4 ≠ 0 ∨ 1208 < p.2.2.length then 1 else 0
def nackR (p : Pc) : N10 := if nackE p = 0 then ⟨getN (p.2.2.take 4), getN ((p.2.2.drop 4).take 4), prs ((p.2.2.length - 8) / 4) 8 p.2.2⟩ else ⟨0, 0, []⟩
/-- What is said of a path. -/
structure L11 where
  path : Int
  fr : Int
  lost : Int
  hi : Int
  ji : Int
  by' : Int
  la : Int
  de : Int
  deriving DecidableEq
structure R11 where
  src : Int
  all : List L11
abbrev l11L (x : L11) : List V := [vi x.path, vi x.fr, vi x.lost, vu x.hi, vu x.ji, vu x.by', vu x.la, vu x.de]
def l11El (x : L11) : List V := l11L x
abbrev zl11L (x : L11) : List V := [vi x.path, vi x.fr, vi x.lost, vi x.hi, vi x.ji, vi x.by', vi x.la, vi x.de]
def zl11El (x : L11) : List V := zl11L x
attribute [go_sem] l11El zl11El
abbrev r11L (r : R11) : List V := [vu r.src, .lst 8 (r.all.map l11El)]
def sg3 (n : Int) : Int := if 8388608 ≤ n then n - 16777216 else n
def rdLn (s : List UInt8) : L11 := ⟨getN (s.take 1), getN ((s.drop 1).take 1), sg3 (getN ((s.drop 4).take 3)), getN ((s.drop 8).take 4), getN ((s.drop 12).take 4), getN ((s.drop 16).take 4), getN ((s.drop 20).take 4), getN ((s.drop 24).take 4)⟩
def wrLn (x : L11) : List UInt8 := puts' 1 [x.path, x.fr] ++ puts' 2 [0] ++ puts' 3 [x.lost] ++ puts' 1 [0] ++ puts' 4 [x.hi, x.ji, x.by', x.la, x.de]
def mayLn (x : L11) : Bool := decide (1 ≤ x.path ∧ x.path ≤ 15 ∧ 0 ≤ x.fr ∧ x.fr ≤ 255 ∧ -8388608 ≤ x.lost ∧ x.lost ≤ 8388607)
theorem wrLn_len (x : L11) : (wrLn x).length = 28 := by simp [wrLn, puts'_length]
/-- A path that is there, or not. -/
structure A11 where
  path : Int
  up : Bool
  rate : Int
  deriving DecidableEq
structure S11 where
  src : Int
  all : List A11
abbrev a11L (x : A11) : List V := [vi x.path, vb x.up, vi x.rate]
def a11El (x : A11) : List V := a11L x
attribute [go_sem] a11El
abbrev s11L (r : S11) : List V := [vu r.src, .lst 3 (r.all.map a11El)]
def rdAd (s : List UInt8) : A11 := ⟨getN (s.take 1), decide (getN ((s.drop 1).take 1) = 1), getN ((s.drop 2).take 2)⟩
def wrAd (x : A11) : List UInt8 := puts' 1 [x.path, if x.up = true then 1 else 0] ++ puts' 2 [x.rate]
def mayAd (x : A11) : Bool := decide (1 ≤ x.path ∧ x.path ≤ 15 ∧ 0 ≤ x.rate ∧ x.rate ≤ 65535)
theorem wrAd_len (x : A11) : (wrAd x).length = 4 := by simp [wrAd, puts'_length]
/-- Parts behind a source, as a piece. -/
def bldP {α : Type} (f : Int) (may : α → Bool) (path : α → Int) (wr : α → List UInt8) (src : Int) (xs : List α) : Pc := if rises may path 0 xs = true then (f, 211, putZ src 4 ++ xs.flatMap wr) else (0, 0, [])
def linesP (r : R11) : Pc := if r.all.length = 0 then (0, 0, []) else bldP 1 mayLn (fun x => x.path) wrLn r.src r.all
def adsP (r : S11) : Pc := bldP 2 mayAd (fun x => x.path) wrAd r.src r.all
def linesRaw (l : List UInt8) : R11 := ⟨vl 4 (l, 0), rawL11 28 rdLn l⟩
def adsRaw (l : List UInt8) : S11 := ⟨vl 4 (l, 0), rawL11 4 rdAd l⟩
def linesE (p : Pc) : Int := if p.2.1 ≠ 211 ∨ p.1 ≠ 1 then 5 else if linesP (linesRaw p.2.2) = p then 0 else 1
def linesR (p : Pc) : R11 := if linesE p = 0 then linesRaw p.2.2 else ⟨0, []⟩
def adsE (p : Pc) : Int := if p.2.1 ≠ 211 ∨ p.1 ≠ 2 then 5 else if adsP (adsRaw p.2.2) = p then 0 else 1
def adsR (p : Pc) : S11 := if adsE p = 0 then adsRaw p.2.2 else ⟨0, []⟩
theorem mayLn15 (x : L11) (h : mayLn x = true) : x.path ≤ 15 := by
  unfold mayLn at h
  rw [decide_eq_true_eq] at h
  omega
theorem mayAd15 (x : A11) (h : mayAd x = true) : x.path ≤ 15 := by
  unfold mayAd at h
  rw [decide_eq_true_eq] at h
  omega
def preLn (b : List UInt8) (j : Nat) : List L11 := (List.range j).map fun i => rdLn (blkN 28 b i)
theorem preLn_succ (b : List UInt8) (j : Nat) : preLn b (j + 1) = preLn b j ++ [rdLn (blkN 28 b j)] := by
  unfold preLn
  rw [List.range_succ, List.map_append]
  rfl
theorem preLn_len (b : List UInt8) (j : Nat) : (preLn b j).length = j := by simp [preLn]
def preAd (b : List UInt8) (j : Nat) : List A11 := (List.range j).map fun i => rdAd (blkN 4 b i)
theorem preAd_succ (b : List UInt8) (j : Nat) : preAd b (j + 1) = preAd b j ++ [rdAd (blkN 4 b j)] := by
  unfold preAd
  rw [List.range_succ, List.map_append]
  rfl
theorem preAd_len (b : List UInt8) (j : Nat) : (preAd b j).length = j := by simp [preAd]
end Go.Proofs.YthnbeodpckmjnaaGreatDoor

namespace Go.Proofs.YthnbeodpckmjnaaGreatDoor
open Go.RowKit Go.ChangeShapes Go.WideShapes Go.Deep
set_option linter.unusedVariables false
set_option linter.unusedSimpArgs false

section
variable {H : Type} {enc : TypeId × Value → H} {P : Program} {w : World} {base : Nat} {spare : Nat → Bool} {held : Bool}
theorem open_slice_fields {t e : TypeId} {fs : Array Field} {fuel : Nat} {cs : List Value} {x : DataW H × List MemPlace} (ht : P.underlying t = some (.slice e)) (he : P.underlying e = some (.struct fs))
    (hone : oneCellFields P fs = true) (hC : P.cellsOf e = fs.size) (h : DataW.trod enc P w base spare held fuel t cs = some x) :
    (cs = [.slice none 0 0] ∧ x = (.nil, [])) ∨
    ∃ (a : Addr) (len cap m : Nat) (D : Nat → DataW H) (Pl : Nat → List MemPlace), cs = [.slice (some a) len cap] ∧ base ≤ a.block ∧ len ≤ cap ∧ cap ≤ maxLen ∧ m = (if spare a.block then cap else len) ∧
      x = (.slice ((List.range len).map D) ((List.range (m - len)).map fun j => D (len + j)), MemPlace.row a (m * fs.size) ++ (List.range m).flatMap Pl) ∧
      ∀ i, i < m → ∃ (ys : List (DataW H × List MemPlace)) (n : Nat), D i = .agg (ys.map (·.1)) ∧ Pl i = ys.flatMap (·.2) ∧ ys.length = fs.size ∧
        ∀ (j : Nat) (f : Field), fs[j]? = some f → ∃ (v : Value) (y : DataW H × List MemPlace), w.cell? (a.add (i * fs.size + j)) = some v ∧ ys[j]? = some y ∧ DataW.trod enc P w base spare held n f.type [v] = some y := by
  rcases open_slice ht h with h0 | ⟨a, len, cap, m, n, D, Pl, hcs, hb, hl, hm, hmm, hx, hi⟩
  · exact .inl h0
  · refine .inr ⟨a, len, cap, m, D, Pl, hcs, hb, hl, hm, hmm, by rw [hC] at hx; exact hx, fun i him => ?_⟩
    obtain ⟨cs', hc, ht'⟩ := hi i him
    rw [hC] at hc
    obtain ⟨ys, n', hn', hy, hlen, hyl, hf⟩ := DataW.trod_struct he ht'
    obtain ⟨_, hcl, hat⟩ := World.cells?_some hc
    simp only [Prod.mk.injEq] at hy
    refine ⟨ys, n', hy.1, hy.2, hyl, fun j f hj => ?_⟩
    obtain ⟨ho, hk⟩ := hone_of hone j f hj
    have hjl : j < fs.size := (Array.getElem?_eq_some_iff.1 hj).1
    have hcell := hat j hjl
    have hv : cs'[j]? = some (cs'[j]'(by omega)) := List.getElem?_eq_getElem (by omega)
    have h1 := hf j f hj
    rw [ho, hk] at h1
    have hone' : (cs'.drop j).take 1 = [cs'[j]'(by omega)] := by
      rw [List.drop_eq_getElem_cons (by omega)]
      rfl
    rw [hone'] at h1
    have hys : ys[j]? = some (ys[j]'(by omega)) := List.getElem?_eq_getElem (by omega)
    refine ⟨_, _, ?_, hys, h1.trans hys⟩
    rw [← Go.Deep.add_add, hcell, hv]
end

/-- What a law is told of a slice of structs that came in: each element's cells. -/
def ArgRows (w : World) (A : Option Addr) (size n : Nat) (rows : List (List Value)) : Prop :=
  rows.length = n ∧ n ≤ maxLen ∧ ∀ (i : Nat) (h : i < rows.length), ∃ b o, A = some ⟨b, o, none⟩ ∧ b < w.heap.size ∧ ∀ j u, rows[i][j]? = some u → w.cell? ⟨b, o + (i * size + j), none⟩ = some u
/-- Which values a field of a kind may hold. -/
def FieldOk (k : Nat) (v : Value) : Prop :=
  match k with
  | 0 => ∃ n : Int, v = .int .i64 n ∧ -9223372036854775807 ≤ n + 1 ∧ n ≤ 9223372036854775807
  | 1 => ∃ n : Int, v = .int .u32 n ∧ 0 ≤ n ∧ n < 4294967296
  | 2 => ∃ b : Bool, v = .bool b
  | 3 => ∃ l : List UInt8, v = str l ∧ l.length ≤ maxLen
  | _ => True

theorem addr_form {w : World} {a : Addr} {k : Nat} {v : Value} (h : w.cell? (a.add k) = some v) (h0 : ∃ u, w.cell? (a.add 0) = some u) : a = ⟨a.block, a.off, none⟩ := by
  obtain ⟨u, hu⟩ := h0
  have : a.add 0 = a := by simp [Addr.add]
  rw [this] at hu
  have := World.cell?_spot hu
  cases a; simp_all
theorem add_lit (b o k : Nat) : (⟨b, o, none⟩ : Addr).add k = ⟨b, o + k, none⟩ := by
  unfold Addr.add; split <;> simp_all

def FieldKind (P : Program) (k : Nat) (t : TypeId) : Prop :=
  match k with
  | 0 => P.underlying t = some (.int .i64)
  | 1 => P.underlying t = some (.int .u32)
  | 2 => P.underlying t = some .bool
  | 3 => P.underlying t = some .string
  | _ => True
section
variable {H : Type} {enc : TypeId × Value → H} {P : Program} {w : World} {base : Nat} {spare : Nat → Bool} {held : Bool}
theorem field_ok {k : Nat} {t : TypeId} {n : Nat} {v : Value} {y : DataW H × List MemPlace} (hk : FieldKind P k t) (h : DataW.trod enc P w base spare held n t [v] = some y) : FieldOk k v := by
  match k, hk with
  | 0, hk =>
    obtain ⟨m, e, _, hw⟩ := DataW.trod_int hk h
    simp at e; subst e
    exact ⟨m, rfl, (i64_bounds hw).1, (i64_bounds hw).2⟩
  | 1, hk =>
    obtain ⟨m, e, _, hw⟩ := DataW.trod_int hk h
    simp at e; subst e
    exact ⟨m, rfl, (u32_bounds hw).1, (u32_bounds hw).2⟩
  | 2, hk =>
    obtain ⟨b, e, _⟩ := DataW.trod_bool hk h
    simp at e; subst e
    exact ⟨b, rfl⟩
  | 3, hk =>
    obtain ⟨s, e, _, hw⟩ := DataW.trod_string hk h
    simp at e; subst e
    obtain ⟨l, rfl⟩ := str_of s
    exact ⟨l, rfl, by simpa using hw⟩
  | k + 4, _ => trivial

theorem open_rows {t e : TypeId} {fs : Array Field} {v : Value} {d : DataW H} {p : List MemPlace} {r : Reach} {b0 : Nat} (ks : List Nat) (ht : P.underlying t = some (.slice e)) (he : P.underlying e = some (.struct fs))
    (hone : oneCellFields P fs = true) (hC : P.cellsOf e = fs.size) (hpos : 0 < fs.size) (hk : ∀ j f, fs[j]? = some f → FieldKind P (ks.getD j 9) f.type) (hv : Value.okWide P w r b0 t v) (h : DataW.Trod enc P w base spare held t v d p) :
    ∃ A n c rows, v = .slice A n c ∧ n ≤ c ∧ ArgRows w A fs.size n rows ∧ ∀ row ∈ rows, row.length = fs.size ∧ ∀ j u, row[j]? = some u → FieldOk (ks.getD j 9) u := by
  obtain ⟨a0, len0, cap0, rfl⟩ := okWide_slice ht hv
  obtain ⟨fuel, hf⟩ := h
  rcases open_slice_fields ht he hone hC hf with ⟨hcs, _⟩ | ⟨a, len, cap, m, D, Pl, hcs, _, hl, hm, hmm, _, hi⟩
  · simp [Value.cells] at hcs
    obtain ⟨rfl, rfl, rfl⟩ := hcs
    exact ⟨none, 0, 0, [], rfl, Nat.le_refl _, ⟨rfl, Nat.zero_le _, fun i h => by cases h⟩, fun _ h => by cases h⟩
  · simp [Value.cells] at hcs
    obtain ⟨rfl, rfl, rfl⟩ := hcs
    have hlm : len0 ≤ m := by rw [hmm]; split <;> omega
    refine ⟨some a, len0, cap0, (List.range len0).map fun i => (List.range fs.size).map fun j => (w.cell? (a.add (i * fs.size + j))).getD undef, rfl, hl, ⟨by simp, by omega, fun i hlt => ?_⟩, fun row hr => ?_⟩
    · have hlt' : i < len0 := by simpa using hlt
      obtain ⟨ys, n, _, _, hyl, hfl⟩ := hi i (by omega)
      obtain ⟨v0, y0, hc0, _, _⟩ := hfl 0 fs[0] (Array.getElem?_eq_getElem hpos)
      have ha : a = ⟨a.block, a.off, none⟩ := by
        rcases Nat.eq_zero_or_pos (i * fs.size + 0) with hz | hz
        · exact addr_form hc0 ⟨v0, by rw [hz] at hc0; exact hc0⟩
        · obtain ⟨ys', n', _, _, _, hfl'⟩ := hi 0 (by omega)
          obtain ⟨u0, z0, hd0, _, _⟩ := hfl' 0 fs[0] (Array.getElem?_eq_getElem hpos)
          exact addr_form hc0 ⟨u0, by simpa using hd0⟩
      refine ⟨a.block, a.off, congrArg some ha, ?_, fun j u hu => ?_⟩
      · have := World.block_lt_of_cell? w _ hc0
        rw [ha, add_lit] at this
        exact this
      · simp only [List.getElem_map, List.getElem_range, List.getElem?_map, Option.map_eq_some_iff] at hu
        obtain ⟨j', hj', rfl⟩ := hu
        have hj2 : j < fs.size ∧ j' = j := by
          obtain ⟨hh, e⟩ := List.getElem?_eq_some_iff.1 hj'
          simp at hh e
          exact ⟨hh, e.symm⟩
        obtain ⟨hj2, rfl⟩ := hj2
        obtain ⟨v1, y1, hc1, _, _⟩ := hfl j' fs[j'] (Array.getElem?_eq_getElem hj2)
        have e2 : a.add (i * fs.size + j') = ⟨a.block, a.off + (i * fs.size + j'), none⟩ := by
          have := congrArg (fun q : Addr => q.add (i * fs.size + j')) ha
          simp only [add_lit] at this
          exact this
        rw [hc1, ← e2, hc1]; rfl
    · obtain ⟨i, hir, rfl⟩ := List.mem_map.1 hr
      have hlt' : i < len0 := by simpa using hir
      obtain ⟨ys, n, _, _, hyl, hfl⟩ := hi i (by omega)
      refine ⟨by simp, fun j u hu => ?_⟩
      simp only [List.getElem?_map, Option.map_eq_some_iff] at hu
      obtain ⟨j', hj', rfl⟩ := hu
      have hj2 : j < fs.size ∧ j' = j := by
        obtain ⟨hh, e⟩ := List.getElem?_eq_some_iff.1 hj'
        simp at hh e
        exact ⟨hh, e.symm⟩
      obtain ⟨hj2, rfl⟩ := hj2
      obtain ⟨v1, y1, hc1, _, ht1⟩ := hfl j' fs[j'] (Array.getElem?_eq_getElem hj2)
      rw [hc1]
      exact field_ok (hk j' fs[j'] (Array.getElem?_eq_getElem hj2)) ht1
end
theorem rows_map {α β : Type} (f : α → β) (rows : List β) (h : ∀ row ∈ rows, ∃ x, row = f x) : ∃ xs : List α, rows = xs.map f := by
  induction rows with
  | nil => exact ⟨[], rfl⟩
  | cons r rows ih =>
    obtain ⟨x, rfl⟩ := h r (List.mem_cons_self)
    obtain ⟨xs, rfl⟩ := ih fun row hr => h row (List.mem_cons_of_mem _ hr)
    exact ⟨x :: xs, rfl⟩
end Go.Proofs.YthnbeodpckmjnaaGreatDoor

