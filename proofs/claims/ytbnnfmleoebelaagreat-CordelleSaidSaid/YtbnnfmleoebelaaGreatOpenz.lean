/- Plain mathematics of layer 7: pieces and their bytes. No program in sight. -/
import Derived.Test.YtbnnfmleoebelaaGreatBytez
import Derived.Test.YtbnnfmleoebelaaGreatSubMz
import Derived.Test.YtbnnfmleoebelaaGreatSubMz
import Derived.Test.YtbnnfmleoebelaaGreatKitz
import Derived.Deep.Slices
import Derived.Deep.Fields
import Derived.ChangeSame
import Derived.Lib.SmallJoins
namespace Go.Proofs.YtbnnfmleoebelaaGreat
set_option linter.unusedVariables false
set_option linter.unusedSimpArgs false

/-- A piece: its count, its kind, its body. -/
abbrev Pc := Int × Int × List UInt8
def mayP (p : Pc) : Bool := decide (0 ≤ p.1 ∧ p.1 ≤ 31 ∧ 192 ≤ p.2.1 ∧ p.2.1 ≤ 223 ∧ p.2.2.length % 4 = 0 ∧ p.2.2.length ≤ 262140)
theorem mayP_iff (p : Pc) : mayP p = true ↔ (0 ≤ p.1 ∧ p.1 ≤ 31 ∧ 192 ≤ p.2.1 ∧ p.2.1 ≤ 223 ∧ p.2.2.length % 4 = 0 ∧ p.2.2.length ≤ 262140) := by simp [mayP]
def checkE (p : Pc) : Int := if mayP p = true then 0 else 6
def packOne (p : Pc) : List UInt8 := putZ (128 + p.1) 1 ++ (putZ p.2.1 1 ++ (putZ (p.2.2.length / 4 : Nat) 2 ++ p.2.2))
def packP (l : List Pc) : List UInt8 := if l.all mayP = true then l.flatMap packOne else []
theorem packOne_length (p : Pc) : (packOne p).length = 4 + p.2.2.length := by simp [packOne, putZ_length]; omega

def hdA (l : List UInt8) : Nat := getN (l.take 1)
def hdK (l : List UInt8) : Nat := getN ((l.drop 1).take 1)
def hdN (l : List UInt8) : Nat := getN (((l.drop 1).drop 1).take 2)
def stepE (l : List UInt8) : Int := if l.length < 4 then 2 else if hdA l / 32 ≠ 4 then 1 else if ¬ (192 ≤ hdK l ∧ hdK l ≤ 223) then 5 else if l.length < 4 + 4 * hdN l then 2 else 0
def stepV (l : List UInt8) : Pc := ((hdA l % 32 : Nat), (hdK l : Nat), (l.drop 4).take (4 * hdN l))
def stepR (l : List UInt8) : List UInt8 := l.drop (4 + 4 * hdN l)
def runP : Nat → List UInt8 → List Pc → Int × List Pc
  | 0, _, acc => (0, acc)
  | f + 1, l, acc => if l = [] then (0, acc) else if stepE l = 0 then runP f (stepR l) (acc ++ [stepV l]) else (stepE l, [])
def splitP (l : List UInt8) : Int × List Pc := runP l.length l []

theorem hd_lt (l : List UInt8) (k : Nat) : getN (l.take k) < 256 ^ k := by
  have h := getN_lt (l.take k)
  have h2 : (l.take k).length ≤ k := by rw [List.length_take]; exact Nat.min_le_left _ _
  exact Nat.lt_of_lt_of_le h (Nat.pow_le_pow_right (by decide) h2)
theorem stepR_lt (l : List UInt8) (h : l ≠ []) : (stepR l).length < l.length := by
  have : 0 < l.length := List.length_pos_iff.2 h
  unfold stepR; rw [List.length_drop]; omega

theorem drop11 (l : List UInt8) : (l.drop 1).drop 1 = l.drop 2 := by rw [List.drop_drop]
theorem hd_app (x y z r : List UInt8) (hx : x.length = 1) (hy : y.length = 1) (hz : z.length = 2) :
    hdA (x ++ (y ++ (z ++ r))) = getN x ∧ hdK (x ++ (y ++ (z ++ r))) = getN y ∧ hdN (x ++ (y ++ (z ++ r))) = getN z := by
  refine ⟨?_, ?_, ?_⟩
  · unfold hdA; rw [List.take_left' hx]
  · unfold hdK; rw [List.drop_left' hx, List.take_left' hy]
  · unfold hdN; rw [List.drop_left' hx, List.drop_left' hy, List.take_left' hz]
theorem step_pack (p : Pc) (r : List UInt8) (h : mayP p = true) : stepE (packOne p ++ r) = 0 ∧ stepV (packOne p ++ r) = p ∧ stepR (packOne p ++ r) = r := by
  obtain ⟨h1, h2, h3, h4, h5, h6⟩ := (mayP_iff p).1 h
  have e : packOne p ++ r = putZ (128 + p.1) 1 ++ (putZ p.2.1 1 ++ (putZ (p.2.2.length / 4 : Nat) 2 ++ (p.2.2 ++ r))) := by simp [packOne]
  obtain ⟨hA, hK, hN⟩ := hd_app (putZ (128 + p.1) 1) (putZ p.2.1 1) (putZ (p.2.2.length / 4 : Nat) 2) (p.2.2 ++ r) (putZ_length _ _) (putZ_length _ _) (putZ_length _ _)
  rw [← e] at hA hK hN
  have gA := getN_putZ (128 + p.1) 1
  have gK := getN_putZ p.2.1 1
  have gN := getN_putZ (p.2.2.length / 4 : Nat) 2
  have eA : hdA (packOne p ++ r) = (128 + p.1).toNat := by rw [hA]; omega
  have eK : hdK (packOne p ++ r) = p.2.1.toNat := by rw [hK]; omega
  have eN : 4 * hdN (packOne p ++ r) = p.2.2.length := by rw [hN]; omega
  have hl : (packOne p ++ r).length = 4 + p.2.2.length + r.length := by rw [List.length_append, packOne_length]
  have hd4 : (packOne p ++ r).drop 4 = p.2.2 ++ r := by
    have e' : packOne p ++ r = (putZ (128 + p.1) 1 ++ (putZ p.2.1 1 ++ putZ (p.2.2.length / 4 : Nat) 2)) ++ (p.2.2 ++ r) := by rw [e]; simp
    rw [e', List.drop_left' (by simp [putZ_length])]
  refine ⟨?_, ?_, ?_⟩
  · unfold stepE
    rw [if_neg (by omega), if_neg (by omega), if_neg (by omega), if_neg (by omega)]
  · unfold stepV
    rw [eN, hd4, List.take_left' rfl]
    obtain ⟨c, k, b⟩ := p
    simp only at *
    refine Prod.ext ?_ (Prod.ext ?_ rfl)
    · show ((hdA _ % 32 : Nat) : Int) = c; omega
    · show ((hdK _ : Nat) : Int) = k; omega
  · unfold stepR
    rw [eN, ← List.drop_drop, hd4, List.drop_left' rfl]
theorem putZ_one (l : List UInt8) (n : Int) (k : Nat) (hl : l.length = k) (h : n = getN l) : putZ n k = l := by
  rw [h, ← hl]; exact putZ_getN l
theorem pack_step (l : List UInt8) (h : stepE l = 0) : mayP (stepV l) = true ∧ packOne (stepV l) ++ stepR l = l := by
  unfold stepE at h
  split at h
  · cases h
  split at h
  · cases h
  split at h
  · cases h
  split at h
  · cases h
  rename_i h1 h2 h3 h4
  have hA := hd_lt l 1
  have hN := hd_lt ((l.drop 1).drop 1) 2
  have hbl : ((l.drop 4).take (4 * hdN l)).length = 4 * hdN l := by rw [List.length_take, List.length_drop]; omega
  have hN' : hdN l < 65536 := hN
  have hA' : hdA l < 256 := hA
  refine ⟨(mayP_iff _).2 ?_, ?_⟩
  · unfold stepV
    simp only [hbl]
    omega
  · have e : l = l.take 1 ++ ((l.drop 1).take 1 ++ (((l.drop 1).drop 1).take 2 ++ ((l.drop 4).take (4 * hdN l) ++ l.drop (4 + 4 * hdN l)))) := by
      rw [← List.drop_drop, List.take_append_drop, drop11]
      have : l.drop 4 = (l.drop 2).drop 2 := by rw [List.drop_drop]
      rw [this, List.take_append_drop]
      have : l.drop 2 = (l.drop 1).drop 1 := by rw [List.drop_drop]
      rw [this, List.take_append_drop, List.take_append_drop]
    unfold packOne stepV stepR
    simp only [hbl]
    rw [putZ_one (l.take 1) _ 1 (by rw [List.length_take]; omega) (by show (128 : Int) + ((hdA l % 32 : Nat) : Int) = (hdA l : Int); omega),
      putZ_one ((l.drop 1).take 1) (hdK l : Int) 1 (by rw [List.length_take, List.length_drop]; omega) rfl,
      putZ_one (((l.drop 1).drop 1).take 2) _ 2 (by rw [List.length_take, List.length_drop, List.length_drop]; omega) (by show ((4 * hdN l / 4 : Nat) : Int) = (hdN l : Int); omega)]
    simp only [List.append_assoc]
    exact e.symm
theorem run_pack (l : List Pc) (h : l.all mayP = true) : ∀ (f : Nat) (acc : List Pc), (l.flatMap packOne).length ≤ f → runP f (l.flatMap packOne) acc = (0, acc ++ l) := by
  induction l with
  | nil => intro f acc _; cases f <;> simp [runP]
  | cons p l ih =>
    intro f acc hf
    simp only [List.all_cons, Bool.and_eq_true] at h
    rw [List.flatMap_cons] at hf ⊢
    have hpl := packOne_length p
    obtain ⟨f, rfl⟩ : ∃ g, f = g + 1 := ⟨f - 1, by rw [List.length_append] at hf; omega⟩
    obtain ⟨e1, e2, e3⟩ := step_pack p (l.flatMap packOne) h.1
    have hne : packOne p ++ l.flatMap packOne ≠ [] := by intro e; have := congrArg List.length e; rw [List.length_append, hpl] at this; simp at this
    unfold runP
    rw [if_neg hne, if_pos e1, e2, e3, ih h.2 f _ (by rw [List.length_append] at hf; omega)]
    simp
theorem pack_run : ∀ (f : Nat) (l : List UInt8) (acc PS : List Pc), l.length ≤ f → runP f l acc = (0, PS) → ∃ qs, PS = acc ++ qs ∧ qs.all mayP = true ∧ qs.flatMap packOne = l := by
  intro f
  induction f with
  | zero =>
    intro l acc PS hl h
    have : l = [] := List.eq_nil_of_length_eq_zero (by omega)
    subst this
    simp only [runP, Prod.mk.injEq, true_and] at h
    exact ⟨[], by simp [h], rfl, rfl⟩
  | succ f ih =>
    intro l acc PS hl h
    unfold runP at h
    split at h
    · rename_i hn
      simp only [Prod.mk.injEq, true_and] at h
      exact ⟨[], by simp [h], rfl, by simp [hn]⟩
    · rename_i hn
      split at h
      · rename_i he
        obtain ⟨qs, h1, h2, h3⟩ := ih _ _ _ (by have := stepR_lt l hn; omega) h
        obtain ⟨p1, p2⟩ := pack_step l he
        exact ⟨stepV l :: qs, by rw [h1]; simp, by simp [p1, h2], by rw [List.flatMap_cons, h3, p2]⟩
      · rename_i he
        simp only [Prod.mk.injEq] at h
        exact absurd h.1 he
theorem run_err : ∀ (f : Nat) (l : List UInt8) (acc : List Pc), (runP f l acc).1 ≠ 0 → (runP f l acc).2 = [] := by
  intro f
  induction f with
  | zero => intro l acc h; exact absurd rfl h
  | succ f ih =>
    intro l acc h
    unfold runP at h ⊢
    split
    · rename_i hn; rw [if_pos hn] at h; exact absurd rfl h
    · rename_i hn
      rw [if_neg hn] at h
      split
      · rename_i he; rw [if_pos he] at h; exact ih _ _ h
      · rfl
theorem split_pack (l : List Pc) (h : l.all mayP = true) : splitP (l.flatMap packOne) = (0, l) := by
  have := run_pack l h _ [] (Nat.le_refl _)
  simpa [splitP] using this
end Go.Proofs.YtbnnfmleoebelaaGreat

namespace Go.Proofs.YtbnnfmleoebelaaGreat
open Go.RowKit
set_option linter.unusedVariables false
set_option linter.unusedSimpArgs false

structure P10 where
  pid : Int
  blp : Int
  deriving DecidableEq
structure N10 where
  fr : Int
  ab : Int
  ps : List P10
def p10El (p : P10) : List V := [vh p.pid, vh p.blp]
def zp10El (p : P10) : List V := [vi p.pid, vi p.blp]
attribute [go_sem] p10El zp10El
abbrev n10L (n : N10) : List V := [vu n.fr, vu n.ab, .lst 2 (n.ps.map p10El)]
def prs (n T : Nat) (l : List UInt8) : List P10 := (List.range n).map fun i => ⟨getN ((l.drop (T + 4 * i)).take 2), getN ((l.drop (T + 4 * i + 2)).take 2)⟩
theorem prs_succ (n T : Nat) (l : List UInt8) : prs (n + 1) T l = prs n T l ++ [⟨getN ((l.drop (T + 4 * n)).take 2), getN ((l.drop (T + 4 * n + 2)).take 2)⟩] := by
  unfold prs
  rw [List.range_succ, List.map_append]
  rfl
theorem prs_len (n T : Nat) (l : List UInt8) : (prs n T l).length = n := by simp [prs]
def wrPr (p : P10) : List UInt8 := puts' 2 [p.pid, p.blp]
theorem wrPr_len (p : P10) : (wrPr p).length = 4 := by simp [wrPr, puts'_length]
def nackE (p : Pc) : Int := if p.2.1 ≠ 205 ∨ p.1 ≠ 1 then 5 else if p.2.2.length < 12 then 2 else if p.2.2.length % 4 ≠ 0 ∨ 1208 < p.2.2.length then 1 else 0
def nackR (p : Pc) : N10 := if nackE p = 0 then ⟨getN (p.2.2.take 4), getN ((p.2.2.drop 4).take 4), prs ((p.2.2.length - 8) / 4) 8 p.2.2⟩ else ⟨0, 0, []⟩
def nackP (n : N10) : Pc := if n.ps.length = 0 ∨ 300 < n.ps.length then (0, 0, []) else (1, 205, puts' 4 [n.fr, n.ab] ++ n.ps.flatMap wrPr)
theorem puts2 (k : Nat) (m n : Int) : puts' k [m, n] = putZ m k ++ putZ n k := by simp [puts']
/-- What is said of a path. -/
structure L11 where
  path : Int
  fr : Int
  lost : Int
  hi : Int
  ji : Int
  by' : Int
  la : Int
  de : Int
  deriving DecidableEq
structure R11 where
  src : Int
  all : List L11
abbrev l11L (x : L11) : List V := [vi x.path, vi x.fr, vi x.lost, vu x.hi, vu x.ji, vu x.by', vu x.la, vu x.de]
def l11El (x : L11) : List V := l11L x
abbrev zl11L (x : L11) : List V := [vi x.path, vi x.fr, vi x.lost, vi x.hi, vi x.ji, vi x.by', vi x.la, vi x.de]
def zl11El (x : L11) : List V := zl11L x
attribute [go_sem] l11El zl11El
abbrev r11L (r : R11) : List V := [vu r.src, .lst 8 (r.all.map l11El)]
def sg3 (n : Int) : Int := if 8388608 ≤ n then n - 16777216 else n
def rdLn (s : List UInt8) : L11 := ⟨getN (s.take 1), getN ((s.drop 1).take 1), sg3 (getN ((s.drop 4).take 3)), getN ((s.drop 8).take 4), getN ((s.drop 12).take 4), getN ((s.drop 16).take 4), getN ((s.drop 20).take 4), getN ((s.drop 24).take 4)⟩
def wrLn (x : L11) : List UInt8 := puts' 1 [x.path, x.fr] ++ puts' 2 [0] ++ puts' 3 [x.lost] ++ puts' 1 [0] ++ puts' 4 [x.hi, x.ji, x.by', x.la, x.de]
def mayLn (x : L11) : Bool := decide (1 ≤ x.path ∧ x.path ≤ 15 ∧ 0 ≤ x.fr ∧ x.fr ≤ 255 ∧ -8388608 ≤ x.lost ∧ x.lost ≤ 8388607)
theorem wrLn_len (x : L11) : (wrLn x).length = 28 := by simp [wrLn, puts'_length]
/-- A path that is there, or not. -/
structure A11 where
  path : Int
  up : Bool
  rate : Int
  deriving DecidableEq
structure S11 where
  src : Int
  all : List A11
abbrev a11L (x : A11) : List V := [vi x.path, vb x.up, vi x.rate]
def a11El (x : A11) : List V := a11L x
attribute [go_sem] a11El
abbrev s11L (r : S11) : List V := [vu r.src, .lst 3 (r.all.map a11El)]
def rdAd (s : List UInt8) : A11 := ⟨getN (s.take 1), decide (getN ((s.drop 1).take 1) = 1), getN ((s.drop 2).take 2)⟩
def wrAd (x : A11) : List UInt8 := puts' 1 [x.path, if x.up = true then 1 else 0] ++ puts' 2 [x.rate]
def mayAd (x : A11) : Bool := decide (1 ≤ x.path ∧ x.path ≤ 15 ∧ 0 ≤ x.rate ∧ x.rate ≤ 65535)
theorem wrAd_len (x : A11) : (wrAd x).length = 4 := by simp [wrAd, puts'_length]
/-- Parts behind a source, as a piece. -/
def bldP {α : Type} (f : Int) (may : α → Bool) (path : α → Int) (wr : α → List UInt8) (src : Int) (xs : List α) : Pc := if rises may path 0 xs = true then (f, 211, putZ src 4 ++ xs.flatMap wr) else (0, 0, [])
def linesP (r : R11) : Pc := if r.all.length = 0 then (0, 0, []) else bldP 1 mayLn (fun x => x.path) wrLn r.src r.all
def adsP (r : S11) : Pc := bldP 2 mayAd (fun x => x.path) wrAd r.src r.all
def linesRaw (l : List UInt8) : R11 := ⟨vl 4 (l, 0), rawL11 28 rdLn l⟩
def adsRaw (l : List UInt8) : S11 := ⟨vl 4 (l, 0), rawL11 4 rdAd l⟩
def linesE (p : Pc) : Int := if p.2.1 ≠ 211 ∨ p.1 ≠ 1 then 5 else if linesP (linesRaw p.2.2) = p then 0 else 1
def linesR (p : Pc) : R11 := if linesE p = 0 then linesRaw p.2.2 else ⟨0, []⟩
def adsE (p : Pc) : Int := if p.2.1 ≠ 211 ∨ p.1 ≠ 2 then 5 else if adsP (adsRaw p.2.2) = p then 0 else 1
def adsR (p : Pc) : S11 := if adsE p = 0 then adsRaw p.2.2 else ⟨0, []⟩
theorem mayLn15 (x : L11) (h : mayLn x = true) : x.path ≤ 15 := by
  unfold mayLn at h
  rw [decide_eq_true_eq] at h
  omega
theorem mayAd15 (x : A11) (h : mayAd x = true) : x.path ≤ 15 := by
  unfold mayAd at h
  rw [decide_eq_true_eq] at h
  omega
def preLn (b : List UInt8) (j : Nat) : List L11 := (List.range j).map fun i => rdLn (blkN 28 b i)
theorem preLn_succ (b : List UInt8) (j : Nat) : preLn b (j + 1) = preLn b j ++ [rdLn (blkN 28 b j)] := by
  unfold preLn
  rw [List.range_succ, List.map_append]
  rfl
theorem preLn_len (b : List UInt8) (j : Nat) : (preLn b j).length = j := by simp [preLn]
def preAd (b : List UInt8) (j : Nat) : List A11 := (List.range j).map fun i => rdAd (blkN 4 b i)
theorem preAd_succ (b : List UInt8) (j : Nat) : preAd b (j + 1) = preAd b j ++ [rdAd (blkN 4 b j)] := by
  unfold preAd
  rw [List.range_succ, List.map_append]
  rfl
theorem preAd_len (b : List UInt8) (j : Nat) : (preAd b j).length = j := by simp [preAd]
end Go.Proofs.YtbnnfmleoebelaaGreat

namespace Go.Proofs.YtbnnfmleoebelaaGreat
open Go.RowKit Go.ChangeShapes Go.WideShapes Go.Deep
set_option linter.unusedVariables false
set_option linter.unusedSimpArgs false

section
variable {H : Type} {enc : TypeId × Value → H} {P : Program} {w : World} {base : Nat} {spare : Nat → Bool} {held : Bool}
end

theorem add_lit (b o k : Nat) : (⟨b, o, none⟩ : Addr).add k = ⟨b, o + k, none⟩ := by
  unfold Addr.add; split <;> simp_all

section
variable {H : Type} {enc : TypeId × Value → H} {P : Program} {w : World} {base : Nat} {spare : Nat → Bool} {held : Bool}
end
end Go.Proofs.YtbnnfmleoebelaaGreat

