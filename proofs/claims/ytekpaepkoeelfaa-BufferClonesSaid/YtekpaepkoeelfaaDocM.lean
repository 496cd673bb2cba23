
/- The document's frames and buffers (layers 23, 24), in plain Lean. -/
import Derived.Test.YtekpaepkoeelfaaRK2
namespace Go.Proofs.Ytekpaepkoeelfaa
open Go.RowKit
set_option linter.unusedVariables false
set_option linter.unusedSimpArgs false

structure RF where
  tm : Int
  t0 : Int
  has : List Bool
  parts : List (List UInt8)
abbrev rfL (r : RF) : List V := [vi r.tm, vi r.t0, .lst 1 (r.has.map fun b => [vb b]), .lst 1 (r.parts.map fun s => [vs s])]
def rfEl (r : RF) : List V := rfL r
attribute [go_sem] rfEl
def newR (t c now : Int) : RF := ⟨t, now, List.replicate (max 1 (min c 255)).toNat false, List.replicate (max 1 (min c 255)).toNat []⟩
/-- Which aren't there. -/
def lackR : Nat → List Bool → List Nat
  | _, [] => []
  | k, b :: l => if b = true then lackR (k + 1) l else k :: lackR (k + 1) l
def putR (r : RF) (i c : Int) (s : List UInt8) : RF × Int :=
  if c ≠ r.has.length ∨ i < 0 ∨ c ≤ i then (r, 4)
  else if r.has.getD i.toNat false = true then (r, 3)
  else let g : RF := { r with has := r.has.set i.toNat true, parts := r.parts.set i.toNat s }
    (g, if (lackR 0 g.has).length = 0 then 2 else 1)
def catR : List (List UInt8) → List UInt8
  | [] => []
  | s :: l => s ++ catR l
def dataR (r : RF) : List UInt8 × Int := (if lackR 0 r.has = [] then catR r.parts else [], (catR r.parts).length)
structure RF.Ok (r : RF) : Prop where
  ln : r.parts.length = r.has.length
  l1 : r.has.length ≤ 255
  sz : ∀ s ∈ r.parts, s.length ≤ 1048576
theorem lackR_app : ∀ (a b : List Bool) (k : Nat), lackR k (a ++ b) = lackR k a ++ lackR (k + a.length) b
  | [], b, k => by simp [lackR]
  | x :: a, b, k => by
    simp only [List.cons_append, lackR]
    rw [lackR_app a b (k + 1), show k + 1 + a.length = k + (x :: a).length by simp only [List.length_cons]; omega]
    split <;> rfl
theorem lackR_len : ∀ (l : List Bool) (k : Nat), (lackR k l).length ≤ l.length
  | [], k => by simp [lackR]
  | b :: l, k => by
    have := lackR_len l (k + 1)
    unfold lackR
    split
    · simp only [List.length_cons]; omega
    · simp only [List.length_cons]; omega
theorem catR_app (a b : List (List UInt8)) : catR (a ++ b) = catR a ++ catR b := by
  induction a with
  | nil => rfl
  | cons x a ih => simp only [List.cons_append, catR, ih, List.append_assoc]
theorem catR_len {l : List (List UInt8)} (h : ∀ s ∈ l, s.length ≤ 1048576) : (catR l).length ≤ 1048576 * l.length := by
  induction l with
  | nil => simp [catR]
  | cons x l ih =>
    have h1 := h x (List.mem_cons_self ..)
    have h2 := ih fun s hs => h s (List.mem_cons_of_mem _ hs)
    simp only [catR, List.length_append, List.length_cons]
    omega
theorem newR_ok (t c now : Int) : (newR t c now).Ok := ⟨by simp [newR], by unfold newR; simp; omega, fun s hs => by
  unfold newR at hs
  simp at hs
  rw [hs.2]
  simp⟩
theorem putR_ok {r : RF} (h : r.Ok) (i c : Int) {s : List UInt8} (hs : s.length ≤ 1048576) : (putR r i c s).1.Ok := by
  unfold putR
  split
  · exact h
  · split
    · exact h
    · refine ⟨by simp [h.ln], by simpa using h.l1, fun x hx => ?_⟩
      rcases List.mem_or_eq_of_mem_set hx with h1 | rfl
      · exact h.sz x h1
      · exact hs
/-! ### Buffers -/
structure RB where
  cf : Int
  cp : Int
  cb : Int
  l : List RF
  hz : Int
  pl : Int
  dr : Int
  ev : Int
def rbV (b : RB) : V := .agg [vi b.cf, vi b.cp, vi b.cb, .lst 4 (b.l.map rfEl), vi b.hz, vi b.pl, vi b.dr, vi b.ev]
attribute [go_sem] rbV
def newRB (f p c : Int) : RB := ⟨max 1 (min f 1024), max 1 (min p 65536), max 1 (min c 67108864), [], -1, 0, 0, 0⟩
def sizeR (l : List RF) : Int × Int := l.foldl (fun x f => (x.1 + ((f.has.length : Int) - (lackR 0 f.has).length), x.2 + (dataR f).2)) (0, 0)
/-- A round through the frames. -/
def stepR (t i c now : Int) (s : List UInt8) (x : List RF × Int × Bool) (f : RF) : List RF × Int × Bool :=
  let y : List RF × Int × Bool := if x.2.2 = false ∧ t < f.tm then (x.1 ++ [(putR (newR t c now) i c s).1], (putR (newR t c now) i c s).2, true) else x
  if f.tm = t then (y.1 ++ [(putR f i c s).1], (putR f i c s).2, true) else (y.1 ++ [f], y.2)
def roundR (t i c now : Int) (s : List UInt8) (l : List RF) : List RF × Int :=
  let x := l.foldl (stepR t i c now s) ([], 0, false)
  if x.2.2 = true then (x.1, x.2.1) else (x.1 ++ [(putR (newR t c now) i c s).1], (putR (newR t c now) i c s).2)
def overR (b : RB) : Bool := decide (b.cf < b.l.length ∨ b.cp < (sizeR b.l).1 ∨ b.cb < (sizeR b.l).2)
def evictR (t : Int) : Nat → RB → Int → List Int → RB × Int × List Int
  | 0, b, k, e => (b, k, e)
  | n + 1, b, k, e => if overR b = true then (match b.l with
    | [] => (b, k, e)
    | f :: l => evictR t n { b with l := l, hz := f.tm, ev := b.ev + 1 } (if f.tm = t then 6 else k) (e ++ [f.tm])) else (b, k, e)
def putRB (b : RB) (t i c : Int) (s : List UInt8) (now : Int) : RB × Int × List Int :=
  if t ≤ b.hz then (b, 5, []) else if c < 1 ∨ 255 < c ∨ i < 0 ∨ c ≤ i then (b, 4, []) else
    let r := roundR t i c now s b.l
    evictR t r.1.length { b with l := r.1 } r.2 []
structure PlyR where
  l : List RF
  hz : Int
  out : List (Int × List UInt8)
  gone : List Int
def playLR (now delay most : Int) : List RF → Int → PlyR
  | [], h => ⟨[], h, [], []⟩
  | f :: l, h => if lackR 0 f.has = [] ∧ delay ≤ now - f.t0 then (let r := playLR now delay most l f.tm; ⟨r.l, r.hz, (f.tm, (dataR f).1) :: r.out, r.gone⟩)
    else if most ≤ now - f.t0 then (let r := playLR now delay most l f.tm; ⟨r.l, r.hz, r.out, f.tm :: r.gone⟩)
    else ⟨f :: l, h, [], []⟩
def playRB (b : RB) (now delay most : Int) : RB × List (Int × List UInt8) × List Int :=
  let r := playLR now delay most b.l b.hz
  ({ b with l := r.l, hz := r.hz, pl := b.pl + r.out.length, dr := b.dr + r.gone.length }, r.out, r.gone)
end Go.Proofs.Ytekpaepkoeelfaa
