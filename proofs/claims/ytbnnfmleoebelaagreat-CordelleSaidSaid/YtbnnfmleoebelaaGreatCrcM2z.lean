/- Package notes: goodbyes and words read. -/
import Derived.Test.YtbnnfmleoebelaaGreatNotes3z
import Derived.Below
import Derived.WalkKit
import Derived.Test.YtbnnfmleoebelaaGreatBytez
import Derived.Test.YtbnnfmleoebelaaGreatKitz
namespace Go.Proofs.YtbnnfmleoebelaaGreat
open Go.RowKit
set_option linter.unusedVariables false
set_option linter.unusedSimpArgs false

def rdWs : Nat → List UInt8 × Int → List Int
  | 0, _ => []
  | n + 1, x => vl 4 x :: rdWs n (nx 4 x)
def nxWs : Nat → List UInt8 × Int → List UInt8 × Int
  | 0, x => x
  | n + 1, x => nxWs n (nx 4 x)
theorem rdWs_len (n : Nat) (x : List UInt8 × Int) : (rdWs n x).length = n := by
  induction n generalizing x with
  | zero => rfl
  | succ n ih => simp [rdWs, ih]
theorem rdWs_in (n : Nat) (x : List UInt8 × Int) : ∀ m ∈ rdWs n x, 0 ≤ m ∧ m < 4294967296 := by
  induction n generalizing x with
  | zero => intro m h; simp [rdWs] at h
  | succ n ih =>
    intro m h
    rw [rdWs] at h
    rcases List.mem_cons.1 h with rfl | h
    · exact vl_lt 4 4294967296 x (by decide)
    · exact ih _ m h
theorem nxWs_len (n : Nat) (x : List UInt8 × Int) : (nxWs n x).1.length ≤ x.1.length := by
  induction n generalizing x with
  | zero => exact Nat.le_refl _
  | succ n ih => exact Nat.le_trans (ih _) (nx_len 4 x)
def cnt32 (n : Int) : Nat := (max 0 (min n 32)).toNat
def rawY (p : Pc) : Y9 :=
  ⟨if (nxWs (cnt32 p.1) (p.2.2, 0)).1 = [] then [] else rawT (nx 1 (nxWs (cnt32 p.1) (p.2.2, 0))).1 (vl 1 (nxWs (cnt32 p.1) (p.2.2, 0))), rdWs (cnt32 p.1) (p.2.2, 0)⟩
def byeE (p : Pc) : Int := justE p 203 (byeP (rawY p))
def byeR (p : Pc) : Y9 := if byeE p = 0 then rawY p else ⟨[], []⟩
theorem rawT_le (l : List UInt8) (n : Int) : (rawT l n).length ≤ l.length := by
  unfold rawT
  split
  · rw [List.length_take]; omega
  · simp
theorem rawY_ok (p : Pc) (h : p.2.2.length ≤ maxLen) : (rawY p).Ok := by
  have h1 := nxWs_len (cnt32 p.1) (p.2.2, 0)
  refine ⟨?_, ?_, rdWs_in _ _⟩
  · unfold rawY
    dsimp only
    split
    · simp
    · have h2 := nx_len 1 (nxWs (cnt32 p.1) (p.2.2, 0))
      have h3 := rawT_le (nx 1 (nxWs (cnt32 p.1) (p.2.2, 0))).1 (vl 1 (nxWs (cnt32 p.1) (p.2.2, 0)))
      dsimp only at h1
      omega
  · unfold rawY
    dsimp only
    rw [rdWs_len]
    unfold cnt32 maxLen
    omega
set_option maxRecDepth 100000 in
set_option maxHeartbeats 8000000 in
theorem notes_tobye (p : Pc) (hp : p.2.2.length ≤ maxLen) : Spec Tryz.prog 54 [.ca (.val (pcV p))] [] (.ca (.val (.tup [.agg (y9L (byeR p)), vi (byeE p)]))) [] := by
  have hok := rawY_ok p hp
  have c1 := notes_bye (rawY p) hok
  have c2 := just_bye p 203 (rawY p) (byeP (rawY p))
  have hE : byeE p = justE p 203 (byeP (rawY p)) := rfl
  have hR : byeR p = if byeE p = 0 then rawY p else ⟨[], []⟩ := rfl
  rw [← hE, ← hR] at c2
  clear hE hR
  generalize byeE p = E at *
  generalize byeR p = R at *
  generalize byeP (rawY p) = Q at *
  obtain ⟨n, k, b⟩ := p
  obtain ⟨Y, hY⟩ : ∃ Y, Y = rawY (n, k, b) := ⟨_, rfl⟩
  rw [← hY] at c1 c2
  unfold rawY at hY
  dsimp only at *
  obtain ⟨N, hN⟩ : ∃ N, N = cnt32 n := ⟨_, rfl⟩
  have hcn : max 0 (min n 32) = (N : Int) := by unfold cnt32 at hN; omega
  have hN32 : N ≤ 32 := by unfold cnt32 at hN; omega
  obtain ⟨SS, hSS⟩ : ∃ x, x = rdWs N (b, 0) := ⟨_, rfl⟩
  obtain ⟨XF, hXF⟩ : ∃ x, x = nxWs N (b, 0) := ⟨_, rfl⟩
  have hsl : SS.length = N := by rw [hSS, rdWs_len]
  rw [← hN, ← hSS, ← hXF] at hY
  have hxl : XF.1.length ≤ maxLen := by rw [hXF]; exact Nat.le_trans (nxWs_len _ _) hp
  obtain ⟨RE, hRE⟩ : ∃ x, x = if XF.1 = [] then [] else rawT (nx 1 XF).1 (vl 1 XF) := ⟨_, rfl⟩
  rw [← hRE] at hY
  subst hY
  refine spec_of Tryz.func54 rfl Tryz.ntmps54 Tryz.results54 ⟨by decide, by simp⟩ fun C hC => ?_
  (repeat (first | refine sp_ ?_ | exact ex0))
  refine call_s Tryz.call43 (pen_of b) [] ?_
  (repeat (first | refine sp_ ?_ | exact ex0))
  refine own_c (5, 0) 1 (5, 2) 22 1 ?_
  simp (decide := true) (disch := omega) only [go_sem, ↓reduceIte, ↓put_at]
  refine loop_s (α := {y : Nat × (List UInt8 × Int) × List Int // y.1 ≤ N ∧ y.2.1.1.length ≤ maxLen ∧ y.2.2.length = y.1 ∧ y.2.2 ++ rdWs (N - y.1) y.2.1 = SS ∧ nxWs (N - y.1) y.2.1 = XF}) (fun y => [(.s 1, .av (.ptr (1, 0) 0 0)), (.o (1, 0), .num 3), (.c (1, 0) 0, .av (.val (vi n))), (.c (1, 0) 1, .av (.val (vi k))), (.c (1, 0) 2, .av (.val (vs b))), (.s 2, .av (.ptr (2, 0) 0 0)), (.o (2, 0), .num 2), (.s 4, .av (.ptr (8, 0) 0 0)), (.o (8, 0), .num 2), (.c (8, 0) 0, .av (.val (vs y.1.2.1.1))), (.c (8, 0) 1, .av (.val (vi y.1.2.1.2))), (.s 5, .av (.ptr (5, 0) 0 0)), (.o (5, 0), .num 2), (.c (5, 0) 0, .av (.val (vs []))), (.c (5, 0) 1, .av (.own (5, 2) 0 22 1 (y.1.2.2.map u32El))), (.k (5, 2), .row 22 1 y.1.2.2.length), (.s 12, .av (.val (vi N))), (.s 13, .av (.val (vi y.1.1)))]) (fun y => N - y.1.1) ⟨(0, (b, 0), []), Nat.zero_le _, hp, rfl, hSS.symm, hXF.symm⟩ ?_ (fun y => ?_)
  · simp only [List.map_nil]
    simp (decide := true) (disch := omega) only [go_sem, ↓reduceIte, ↓put_at]
    exact hcn
  · obtain ⟨⟨j, x, acc⟩, hj, hxl', hac, hb1, hb2⟩ := y
    dsimp only at hj hxl' hac hb1 hb2 ⊢
    by_cases hlt : j < N
    · have c3 := rd32 x hxl'
      have hnl := Nat.le_trans (nx_len 4 x) hxl'
      obtain ⟨m, hm⟩ : ∃ m, N - j = m + 1 := ⟨N - j - 1, by omega⟩
      have hm2 : N - (j + 1) = m := by omega
      rw [hm] at hb1 hb2
      rw [rdWs] at hb1
      rw [nxWs] at hb2
      (repeat (first | refine sp_ ?_ | exact ex0))
      refine call_s Tryz.call71 c3 [(8, 0)] ?_
      (repeat (first | refine sp_ ?_ | exact ex0))
      refine next_s ⟨(j + 1, nx 4 x, acc ++ [vl 4 x]), hlt, hnl, by simp [hac], by dsimp only; rw [hm2, List.append_assoc]; exact hb1, by dsimp only; rw [hm2]; exact hb2⟩ ⟨?_, by dsimp only; omega⟩
      simp (decide := true) (disch := omega) only [go_sem, ↓reduceIte, ↓put_at]
      rw [List.map_append]; rfl
    · have hjN : N - j = 0 := by omega
      rw [hjN] at hb1 hb2
      simp only [rdWs, nxWs, List.append_nil] at hb1 hb2
      clear hSS hXF
      subst hb1 hb2
      by_cases hx0 : x.1 = []
      · rw [if_pos hx0] at hRE
        subst hRE
        have hx0' : x.1.length = 0 := by rw [hx0]; rfl
        (repeat (first | refine sp_ ?_ | exact ex0))
        refine call_s Tryz.call44 (in_left x.1 x.2) [(8, 0)] ?_
        (repeat (first | refine sp_ ?_ | exact ex0))
        refine call_s Tryz.call79 c1 [] ?_
        (repeat (first | refine sp_ ?_ | exact ex0))
        refine call_s Tryz.call78 c2 [] ?_
        (repeat (first | refine sp_ ?_ | exact ex0))
        (refine ret_s [] ?_; simp (decide := true) (disch := omega) only [go_sem, ↓reduceIte, ↓put_at])
      · rw [if_neg hx0] at hRE
        have hx0' : 0 < x.1.length := List.length_pos_iff.2 hx0
        have v1 := vl_lt 1 256 x (by decide)
        have c4 := rd8 x hxl'
        have hnl := Nat.le_trans (nx_len 1 x) hxl'
        have c5 := in_raw (nx 1 x).1 (nx 1 x).2 (vl 1 x) hnl (by unfold maxLen; omega)
        rw [← hRE] at c5
        (repeat (first | refine sp_ ?_ | exact ex0))
        refine call_s Tryz.call44 (in_left x.1 x.2) [(8, 0)] ?_
        (repeat (first | refine sp_ ?_ | exact ex0))
        refine call_s Tryz.call68 c4 [(8, 0)] ?_
        (repeat (first | refine sp_ ?_ | exact ex0))
        refine call_s Tryz.call70 c5 [(8, 0)] ?_
        (repeat (first | refine sp_ ?_ | exact ex0))
        refine call_s Tryz.call79 c1 [] ?_
        (repeat (first | refine sp_ ?_ | exact ex0))
        refine call_s Tryz.call78 c2 [] ?_
        (repeat (first | refine sp_ ?_ | exact ex0))
        (refine ret_s [] ?_; simp (decide := true) (disch := omega) only [go_sem, ↓reduceIte, ↓put_at])
end Go.Proofs.YtbnnfmleoebelaaGreat

namespace Go.Proofs.YtbnnfmleoebelaaGreat
open Go.RowKit
set_option linter.unusedVariables false
set_option linter.unusedSimpArgs false

def rawA (p : Pc) : A9 := ⟨p.1, vl 4 (p.2.2, 0), rawT (nx 4 (p.2.2, 0)).1 4, (nx 4 (nx 4 (p.2.2, 0))).1⟩
def appE (p : Pc) : Int := justE p 204 (appP (rawA p))
def appR (p : Pc) : A9 := if appE p = 0 then rawA p else ⟨0, 0, [], []⟩
theorem rawT_all (l : List UInt8) : rawT l l.length = l := by unfold rawT; rw [if_pos (Int.le_refl _)]; simp
theorem rawT_le2 (l : List UInt8) (n : Int) : (rawT l n).length ≤ n.toNat := by
  unfold rawT
  split
  · rw [List.length_take]; omega
  · simp
theorem rawA_ok (p : Pc) (h : p.2.2.length ≤ maxLen) : (rawA p).Ok := by
  have h1 := nx_len 4 (p.2.2, 0)
  have h2 := nx_len 4 (nx 4 (p.2.2, 0))
  have h3 := rawT_le (nx 4 (p.2.2, 0)).1 4
  refine ⟨vl_lt 4 4294967296 _ (by decide), ?_, ?_⟩
  · unfold rawA; dsimp only at *; omega
  · unfold rawA; dsimp only at *; omega
set_option maxRecDepth 100000 in
set_option maxHeartbeats 8000000 in
theorem notes_toapp (p : Pc) (hp : p.2.2.length ≤ maxLen) : Spec Tryz.prog 47 [.ca (.val (pcV p))] [] (.ca (.val (.tup [.agg (a9L (appR p)), vi (appE p)]))) [] := by
  have hok := rawA_ok p hp
  have c1 := notes_app (rawA p) hok
  have c2 := just_app p 204 (rawA p) (appP (rawA p))
  have hE : appE p = justE p 204 (appP (rawA p)) := rfl
  have hR : appR p = if appE p = 0 then rawA p else ⟨0, 0, [], []⟩ := rfl
  rw [← hE, ← hR] at c2
  clear hE hR
  generalize appE p = E at *
  generalize appR p = R at *
  generalize appP (rawA p) = Q at *
  obtain ⟨n, k, b⟩ := p
  have c3 := rd32 (b, 0) hp
  have l1 := Nat.le_trans (nx_len 4 (b, 0)) hp
  have c4 := in_raw (nx 4 (b, 0)).1 (nx 4 (b, 0)).2 4 l1 (by decide)
  have e4 : (rawL (nx 4 (b, 0)).1 (nx 4 (b, 0)).2 4) = (nx 4 (nx 4 (b, 0))).1 := rfl
  have e5 : (rawE (nx 4 (b, 0)).1 (nx 4 (b, 0)).2 4) = (nx 4 (nx 4 (b, 0))).2 := rfl
  rw [e4, e5] at c4
  have l2 := Nat.le_trans (nx_len 4 (nx 4 (b, 0))) l1
  have c5 := in_raw (nx 4 (nx 4 (b, 0))).1 (nx 4 (nx 4 (b, 0))).2 (nx 4 (nx 4 (b, 0))).1.length l2 (by omega)
  rw [rawT_all] at c5
  unfold rawA at c1 c2
  dsimp only at *
  generalize vl 4 (b, 0) = src at *
  generalize rawT (nx 4 (b, 0)).1 4 = name at *
  generalize nx 4 (nx 4 (b, 0)) = x2 at *
  generalize nx 4 (b, 0) = x1 at *
  refine spec_of Tryz.func47 rfl Tryz.ntmps47 Tryz.results47 ⟨by decide, by simp⟩ fun C hC => ?_
  (repeat (first | refine sp_ ?_ | exact ex0))
  refine call_s Tryz.call43 (pen_of b) [] ?_
  (repeat (first | refine sp_ ?_ | exact ex0))
  refine call_s Tryz.call71 c3 [(8, 0)] ?_
  (repeat (first | refine sp_ ?_ | exact ex0))
  refine call_s Tryz.call70 c4 [(8, 0)] ?_
  (repeat (first | refine sp_ ?_ | exact ex0))
  refine call_s Tryz.call44 (in_left x2.1 x2.2) [(8, 0)] ?_
  (repeat (first | refine sp_ ?_ | exact ex0))
  refine call_s Tryz.call70 c5 [(8, 0)] ?_
  (repeat (first | refine sp_ ?_ | exact ex0))
  refine call_s Tryz.call26 c1 [] ?_
  (repeat (first | refine sp_ ?_ | exact ex0))
  refine call_s Tryz.call72 c2 [] ?_
  (repeat (first | refine sp_ ?_ | exact ex0))
  (refine ret_s [] ?_; simp (decide := true) (disch := omega) only [go_sem, ↓reduceIte, ↓put_at])
/-- What an In is after so many bytes as they are. -/
def nxr (n : Int) (x : List UInt8 × Int) : List UInt8 × Int := (rawL x.1 x.2 n, rawE x.1 x.2 n)
theorem nxr_len (n : Int) (x : List UInt8 × Int) : (nxr n x).1.length ≤ x.1.length := by
  unfold nxr rawL failL
  dsimp only
  split
  · simp
  · split <;> simp
theorem rdRaw (x : List UInt8 × Int) (n : Int) (hl : x.1.length ≤ maxLen) (hn : 0 ≤ n ∧ n ≤ maxLen) : Spec Tryz.prog 70 [.ptr 0 0, .ca (.val (vi n))] [inO x.1 x.2] (.ca (.val (vs (rawT x.1 n)))) [inO (nxr n x).1 (nxr n x).2] := in_raw x.1 x.2 n hl hn
def rdN (x : List UInt8 × Int) : N9 := ⟨vl 4 x, rawT (nx 1 (nx 1 (nx 4 x))).1 (vl 1 (nx 1 (nx 4 x)))⟩
def nxN (x : List UInt8 × Int) : List UInt8 × Int := nxr (4 - ((rdN x).text.length + 2) % 4) (nxr (vl 1 (nx 1 (nx 4 x))) (nx 1 (nx 1 (nx 4 x))))
def runN : Nat → List UInt8 × Int → List N9 → List N9
  | 0, _, acc => acc
  | f + 1, x, acc => if x.1 = [] then acc else runN f (nxN x) (acc ++ [rdN x])
def rawN (p : Pc) : List N9 := runN 32 (p.2.2, 0) []
def namesE (p : Pc) : Int := justE p 202 (namesP (rawN p))
def namesR (p : Pc) : List N9 := if namesE p = 0 then rawN p else []
theorem nxN_len (x : List UInt8 × Int) : (nxN x).1.length ≤ x.1.length := by
  unfold nxN
  exact Nat.le_trans (nxr_len _ _) (Nat.le_trans (nxr_len _ _) (Nat.le_trans (nx_len _ _) (Nat.le_trans (nx_len _ _) (nx_len _ _))))
theorem rdN_ok (x : List UInt8 × Int) (h : x.1.length ≤ maxLen) : (rdN x).Ok := by
  refine ⟨vl_lt 4 4294967296 _ (by decide), ?_⟩
  have h1 := rawT_le (nx 1 (nx 1 (nx 4 x))).1 (vl 1 (nx 1 (nx 4 x)))
  have h2 := Nat.le_trans (nx_len 1 (nx 1 (nx 4 x))) (Nat.le_trans (nx_len 1 (nx 4 x)) (nx_len 4 x))
  unfold rdN
  dsimp only
  omega
set_option maxRecDepth 100000 in
set_option maxHeartbeats 8000000 in
theorem notes_tonames (p : Pc) (hp : p.2.2.length ≤ maxLen) : Spec Tryz.prog 52 [.ca (.val (pcV p))] [] (.ca (.val (.tup [.lst 2 ((namesR p).map n9El), vi (namesE p)]))) [] := by
  have c2 := just_names p 202 (rawN p) (namesP (rawN p))
  have hE : namesE p = justE p 202 (namesP (rawN p)) := rfl
  have hR : namesR p = if namesE p = 0 then rawN p else [] := rfl
  rw [← hE, ← hR] at c2
  clear hE hR
  generalize namesE p = E at *
  generalize namesR p = R at *
  obtain ⟨n, k, b⟩ := p
  obtain ⟨L, hL⟩ : ∃ L, L = runN 32 (b, 0) [] := ⟨_, rfl⟩
  have hL2 : rawN (n, k, b) = L := hL.symm
  rw [hL2] at c2
  clear hL2
  dsimp only at hp
  refine spec_of Tryz.func52 rfl Tryz.ntmps52 Tryz.results52 ⟨by decide, by simp⟩ fun C hC => ?_
  (repeat (first | refine sp_ ?_ | exact ex0))
  refine call_s Tryz.call43 (pen_of b) [] ?_
  (repeat (first | refine sp_ ?_ | exact ex0))
  refine own_s 5 (5, 0) 50 2 ?_
  simp (decide := true) (disch := omega) only [go_sem, ↓reduceIte, ↓put_at]
  refine loop_s (α := {y : (List UInt8 × Int) × List N9 // y.1.1.length ≤ maxLen ∧ y.2.length ≤ 32 ∧ (∀ a ∈ y.2, a.Ok) ∧ runN (32 - y.2.length) y.1 y.2 = L}) (fun y => [(.s 1, .av (.ptr (1, 0) 0 0)), (.o (1, 0), .num 3), (.c (1, 0) 0, .av (.val (vi n))), (.c (1, 0) 1, .av (.val (vi k))), (.c (1, 0) 2, .av (.val (vs b))), (.s 4, .av (.ptr (9, 0) 0 0)), (.o (9, 0), .num 2), (.c (9, 0) 0, .av (.val (vs y.1.1.1))), (.c (9, 0) 1, .av (.val (vi y.1.1.2))), (.s 5, .av (.own (5, 0) 0 50 2 (y.1.2.map n9El))), (.k (5, 0), .row 50 2 y.1.2.length)]) (fun y => 32 - y.1.2.length) ⟨((b, 0), []), hp, by simp, fun a h => by simp at h, hL.symm⟩ ?_ (fun y => ?_)
  · simp only [List.map_nil]
    simp (decide := true) (disch := omega) only [go_sem, ↓reduceIte, ↓put_at]
  · obtain ⟨⟨x, acc⟩, hxl, hal, hao, hrun⟩ := y
    dsimp only at hxl hal hao hrun ⊢
    have cE : ∀ (h : acc = L), Spec Tryz.prog 20 [.ca (.val (.lst 2 (acc.map n9El)))] [] (.ca (.val (pcV (namesP L)))) [] := fun h => by
      rw [← h]
      exact notes_names acc (by unfold maxLen; omega) hao
    by_cases hx0 : x.1 = []
    · have hLa : acc = L := by
        rw [← hrun]
        cases h32 : 32 - acc.length with
        | zero => rfl
        | succ f => rw [runN, if_pos hx0]
      have c1 := cE hLa
      clear hL cE
      subst hLa
      have hx0' : x.1.length = 0 := by rw [hx0]; rfl
      generalize namesP acc = Q at *
      (repeat (first | refine sp_ ?_ | exact ex0))
      refine call_s Tryz.call44 (in_left x.1 x.2) [(9, 0)] ?_
      (repeat (first | refine sp_ ?_ | exact ex0))
      refine call_s Tryz.call20 c1 [] ?_
      (repeat (first | refine sp_ ?_ | exact ex0))
      refine call_s Tryz.call77 c2 [] ?_
      (repeat (first | refine sp_ ?_ | exact ex0))
      (refine ret_s [] ?_; simp (decide := true) (disch := omega) only [go_sem, ↓reduceIte, ↓put_at])
    have hx0' : 0 < x.1.length := List.length_pos_iff.2 hx0
    by_cases h31 : acc.length ≤ 31
    · obtain ⟨f, hf⟩ : ∃ f, 32 - acc.length = f + 1 := ⟨31 - acc.length, by omega⟩
      rw [hf, runN, if_neg hx0] at hrun
      have hf2 : 32 - (acc ++ [rdN x]).length = f := by simp; omega
      have hxn := Nat.le_trans (nxN_len x) hxl
      have hro := rdN_ok x hxl
      have v1 := vl_lt 1 256 (nx 1 (nx 4 x)) (by decide)
      have t1 := rawT_le (nx 1 (nx 1 (nx 4 x))).1 (vl 1 (nx 1 (nx 4 x)))
      have t2 : (rdN x).text.length ≤ 255 := Nat.le_trans (rawT_le2 _ _) (by omega)
      have c3 := rd32 x hxl
      have l1 := Nat.le_trans (nx_len 4 x) hxl
      have c4 := rd8 (nx 4 x) l1
      have l2 := Nat.le_trans (nx_len 1 (nx 4 x)) l1
      have c5 := rd8 (nx 1 (nx 4 x)) l2
      have l3 := Nat.le_trans (nx_len 1 (nx 1 (nx 4 x))) l2
      have c6 := rdRaw (nx 1 (nx 1 (nx 4 x))) (vl 1 (nx 1 (nx 4 x))) l3 (by unfold maxLen; omega)
      have l4 := Nat.le_trans (nxr_len (vl 1 (nx 1 (nx 4 x))) (nx 1 (nx 1 (nx 4 x)))) l3
      have c7 := rdRaw (nxr (vl 1 (nx 1 (nx 4 x))) (nx 1 (nx 1 (nx 4 x)))) (4 - ((rdN x).text.length + 2) % 4) l4 (by unfold maxLen; omega)
      have e7 : nxr (4 - ((rdN x).text.length + 2) % 4) (nxr (vl 1 (nx 1 (nx 4 x))) (nx 1 (nx 1 (nx 4 x)))) = nxN x := rfl
      rw [e7] at c7
      have e8 : (rdN x).text = rawT (nx 1 (nx 1 (nx 4 x))).1 (vl 1 (nx 1 (nx 4 x))) := rfl
      have e9 : (rdN x).src = vl 4 x := rfl
      rw [← e8] at c6 t1
      rw [← e9] at c3
      obtain ⟨ho1, ho2⟩ := hro
      have hro : (rdN x).Ok := ⟨ho1, ho2⟩
      generalize rdN x = y at *
      generalize nxN x = x5 at *
      unfold maxLen at ho2
      (repeat (first | refine sp_ ?_ | exact ex0))
      refine call_s Tryz.call44 (in_left x.1 x.2) [(9, 0)] ?_
      (repeat (first | refine sp_ ?_ | exact ex0))
      refine call_s Tryz.call71 c3 [(9, 0)] ?_
      (repeat (first | refine sp_ ?_ | exact ex0))
      refine call_s Tryz.call68 c4 [(9, 0)] ?_
      (repeat (first | refine sp_ ?_ | exact ex0))
      refine call_s Tryz.call68 c5 [(9, 0)] ?_
      (repeat (first | refine sp_ ?_ | exact ex0))
      refine call_s Tryz.call70 c6 [(9, 0)] ?_
      (repeat (first | refine sp_ ?_ | exact ex0))
      refine call_s Tryz.call70 c7 [(9, 0)] ?_
      (repeat (first | refine sp_ ?_ | exact ex0))
      have hao2 : ∀ a ∈ acc ++ [y], a.Ok := fun a ha => by
        rcases List.mem_append.1 ha with h | h
        · exact hao a h
        · rw [List.mem_singleton.1 h]; exact hro
      have hal2 : (acc ++ [y]).length = acc.length + 1 := by simp
      refine next_s ⟨(x5, acc ++ [y]), hxn, by dsimp only; omega, hao2, by dsimp only; rw [hf2]; exact hrun⟩ ⟨?_, by dsimp only; omega⟩
      simp (decide := true) (disch := omega) only [go_sem, ↓reduceIte, ↓put_at]
      rw [List.map_append]; rfl
    · have h32 : 32 - acc.length = 0 := by omega
      rw [h32] at hrun
      have hLa : acc = L := hrun
      have c1 := cE hLa
      clear hL cE
      subst hLa
      generalize namesP acc = Q at *
      (repeat (first | refine sp_ ?_ | exact ex0))
      refine call_s Tryz.call44 (in_left x.1 x.2) [(9, 0)] ?_
      (repeat (first | refine sp_ ?_ | exact ex0))
      refine call_s Tryz.call20 c1 [] ?_
      (repeat (first | refine sp_ ?_ | exact ex0))
      refine call_s Tryz.call77 c2 [] ?_
      (repeat (first | refine sp_ ?_ | exact ex0))
      (refine ret_s [] ?_; simp (decide := true) (disch := omega) only [go_sem, ↓reduceIte, ↓put_at])
end Go.Proofs.YtbnnfmleoebelaaGreat

namespace Go.Proofs.YtbnnfmleoebelaaGreat
set_option linter.unusedVariables false
set_option linter.unusedSimpArgs false

def poly : Nat := 79764919
def up (r : Nat) : Nat := ((r <<< 1) % 2 ^ 32) ^^^ (if r.testBit 31 = true then poly else 0)
def stepC (r : Nat) (b : Bool) : Nat := up r ^^^ b.toNat
def remB (l : List Bool) : Nat := l.foldl stepC 0
theorem xor_lc (a b c : Nat) : a ^^^ (b ^^^ c) = b ^^^ (a ^^^ c) := by rw [← Nat.xor_assoc, Nat.xor_comm a b, Nat.xor_assoc]
theorem xor_cancel (a b : Nat) : a ^^^ (b ^^^ a) = b := by rw [Nat.xor_comm b a, ← Nat.xor_assoc, Nat.xor_self, Nat.zero_xor]
theorem xor_cancel' (a b : Nat) : a ^^^ (a ^^^ b) = b := by rw [← Nat.xor_assoc, Nat.xor_self, Nat.zero_xor]
theorem up_zero : up 0 = 0 := by decide
theorem up_xor (a b : Nat) : up (a ^^^ b) = up a ^^^ up b := by
  unfold up
  rw [Nat.shiftLeft_xor_distrib, Nat.xor_mod_two_pow, Nat.testBit_xor]
  generalize (a <<< 1) % 2 ^ 32 = A
  generalize (b <<< 1) % 2 ^ 32 = B
  cases a.testBit 31 <;> cases b.testBit 31 <;> simp [Nat.xor_assoc, xor_lc, Nat.xor_comm, xor_cancel, xor_cancel']
theorem stepC_xor (r s : Nat) (x y : Bool) : stepC (r ^^^ s) (x ^^ y) = stepC r x ^^^ stepC s y := by
  unfold stepC
  rw [up_xor]
  have : (x ^^ y).toNat = x.toNat ^^^ y.toNat := by cases x <;> cases y <;> rfl
  rw [this]
  simp only [Nat.xor_assoc]
  rw [xor_lc (up s)]
theorem fold_xor : ∀ (a b : List Bool) (r s : Nat), a.length = b.length → (List.zipWith Bool.xor a b).foldl stepC (r ^^^ s) = a.foldl stepC r ^^^ b.foldl stepC s
  | [], [], r, s, _ => rfl
  | x :: a, y :: b, r, s, h => by
    rw [List.zipWith_cons_cons, List.foldl_cons, List.foldl_cons, List.foldl_cons, stepC_xor]
    exact fold_xor a b _ _ (by simpa using h)
theorem rem_xor (a b : List Bool) (h : a.length = b.length) : remB (List.zipWith Bool.xor a b) = remB a ^^^ remB b := fold_xor a b 0 0 h
theorem up_lt (r : Nat) : up r < 4294967296 := by
  unfold up
  have h1 : (r <<< 1) % 2 ^ 32 < 2 ^ 32 := Nat.mod_lt _ (by decide)
  have h2 : (if r.testBit 31 = true then poly else 0) < 2 ^ 32 := by split <;> decide
  exact Nat.xor_lt_two_pow h1 h2
theorem stepC_lt (r : Nat) (b : Bool) : stepC r b < 4294967296 := by
  unfold stepC
  have h1 : up r < 2 ^ 32 := up_lt r
  have h2 : b.toNat < 2 ^ 32 := by cases b <;> decide
  exact Nat.xor_lt_two_pow h1 h2
theorem fold_lt : ∀ (l : List Bool) (r : Nat), r < 4294967296 → l.foldl stepC r < 4294967296
  | [], r, h => h
  | b :: l, r, h => by rw [List.foldl_cons]; exact fold_lt l _ (stepC_lt r b)
theorem rem_lt (l : List Bool) : remB l < 4294967296 := fold_lt l 0 (by decide)
theorem bit31 (r : Nat) (h : r < 4294967296) : r.testBit 31 = decide (2147483648 ≤ r) := by
  rw [Nat.testBit_eq_decide_div_mod_eq]
  congr 1
  apply propext
  have : 2 ^ 31 = 2147483648 := by decide
  rw [this]
  omega
theorem up_small (r : Nat) (h : r < 2147483648) : up r = 2 * r := by
  unfold up
  rw [bit31 r (by omega), if_neg (by simp; omega), Nat.xor_zero, Nat.shiftLeft_eq]
  omega
def upN : Nat → Nat → Nat
  | 0, r => r
  | n + 1, r => upN n (up r)
theorem stepC_false (r : Nat) : stepC r false = up r := Nat.xor_zero _
theorem fold_zeros : ∀ (n r : Nat), (List.replicate n false).foldl stepC r = upN n r
  | 0, r => rfl
  | n + 1, r => by
    rw [List.replicate_succ, List.foldl_cons, fold_zeros n, stepC_false]
    rfl
theorem upN_zero : ∀ n, upN n 0 = 0
  | 0 => rfl
  | n + 1 => by unfold upN; rw [up_zero]; exact upN_zero n
theorem xor_bit (a : Nat) (b : Bool) : (2 * a) ^^^ b.toNat = 2 * a + b.toNat := by
  cases b with
  | false => simp
  | true =>
    apply Nat.eq_of_testBit_eq
    intro i
    rw [Nat.testBit_xor]
    cases i with
    | zero => simp [Nat.testBit_zero]
    | succ i =>
      rw [Nat.testBit_succ, Nat.testBit_succ, Nat.testBit_succ]
      have h1 : 2 * a / 2 = a := by omega
      have h2 : (2 * a + true.toNat) / 2 = a := by simp; omega
      have h3 : true.toNat / 2 = 0 := by decide
      rw [h1, h2, h3]; simp
/-- So many bits go into the remainder as they are. -/
theorem short : ∀ (l : List Bool) (k r : Nat), r < 2 ^ k → k + l.length ≤ 32 → l.foldl stepC r = l.foldl (fun n b => 2 * n + b.toNat) r
  | [], k, r, _, _ => rfl
  | b :: l, k, r, hr, hk => by
    rw [List.length_cons] at hk
    have h1 : 2 ^ k ≤ 2 ^ 31 := Nat.pow_le_pow_right (by decide) (by omega)
    have h2 : (2 : Nat) ^ 31 = 2147483648 := by decide
    have h3 : stepC r b = 2 * r + b.toNat := by
      unfold stepC
      rw [up_small r (by omega), xor_bit]
    rw [List.foldl_cons, List.foldl_cons, h3]
    refine short l (k + 1) _ ?_ (by omega)
    have : b.toNat ≤ 1 := by cases b <;> decide
    rw [Nat.pow_succ]
    omega
/-! ### Bytes -/
def bits8 (b : UInt8) : List Bool := [b.toNat.testBit 7, b.toNat.testBit 6, b.toNat.testBit 5, b.toNat.testBit 4, b.toNat.testBit 3, b.toNat.testBit 2, b.toNat.testBit 1, b.toNat.testBit 0]
def bitsL (l : List UInt8) : List Bool := l.flatMap bits8
def rem (l : List UInt8) : Nat := remB (bitsL l)
theorem bitsL_len (l : List UInt8) : (bitsL l).length = 8 * l.length := by
  induction l with
  | nil => rfl
  | cons b l ih =>
    unfold bitsL at ih ⊢
    rw [List.flatMap_cons, List.length_append, ih]
    simp [bits8]; omega
theorem bitsL_app (a b : List UInt8) : bitsL (a ++ b) = bitsL a ++ bitsL b := by unfold bitsL; simp
/-! ### Downwards -/
def down (r : Nat) : Nat := if r % 2 = 1 then (r ^^^ poly) / 2 + 2147483648 else r / 2
theorem up_high (x : Nat) (h : x < 2147483648) : up (x + 2147483648) = (2 * x) ^^^ poly := by
  have h1 : (x + 2147483648).testBit 31 = true := by
    rw [bit31 _ (by omega)]
    exact decide_eq_true (by omega)
  have h2 : ((x + 2147483648) <<< 1) % 2 ^ 32 = 2 * x := by
    rw [Nat.shiftLeft_eq]
    omega
  unfold up
  rw [h2, if_pos h1]
theorem xor_odd (r : Nat) (h : r % 2 = 1) : (r ^^^ poly) % 2 = 0 := by
  have h1 : (r ^^^ poly).testBit 0 = false := by
    rw [Nat.testBit_xor, Nat.testBit_zero, Nat.testBit_zero, h]
    rfl
  rw [Nat.testBit_zero] at h1
  have := of_decide_eq_false h1
  omega
theorem up_down (r : Nat) (h : r < 4294967296) : up (down r) = r := by
  unfold down
  by_cases h1 : r % 2 = 1
  · rw [if_pos h1]
    have h2 : (r ^^^ poly) < 2 ^ 32 := Nat.xor_lt_two_pow (by omega) (by decide)
    have h3 := xor_odd r h1
    rw [up_high _ (by omega), show 2 * ((r ^^^ poly) / 2) = r ^^^ poly by omega, Nat.xor_assoc, Nat.xor_self, Nat.xor_zero]
  · rw [if_neg h1, up_small _ (by omega)]
    omega
theorem down_lt (r : Nat) (h : r < 4294967296) : down r < 4294967296 := by
  unfold down
  have h2 : (r ^^^ poly) < 2 ^ 32 := Nat.xor_lt_two_pow (by omega) (by decide)
  split <;> omega
def downN : Nat → Nat → Nat
  | 0, r => r
  | n + 1, r => down (downN n r)
theorem downN_lt : ∀ (n r : Nat), r < 4294967296 → downN n r < 4294967296
  | 0, r, h => h
  | n + 1, r, h => down_lt _ (downN_lt n r h)
theorem upN_downN : ∀ (n r : Nat), r < 4294967296 → upN n (downN n r) = r
  | 0, r, _ => rfl
  | n + 1, r, h => by
    unfold upN downN
    rw [up_down _ (downN_lt n r h)]
    exact upN_downN n r h
end Go.Proofs.YtbnnfmleoebelaaGreat

namespace Go.Proofs.YtbnnfmleoebelaaGreat
set_option linter.unusedVariables false
set_option linter.unusedSimpArgs false

theorem val8 (n : Nat) (b : UInt8) : (bits8 b).foldl (fun n b => 2 * n + b.toNat) n = 256 * n + b.toNat := by
  have hb := b.toNat_lt
  simp only [bits8, List.foldl_cons, List.foldl_nil, Nat.toNat_testBit]
  omega
theorem valL : ∀ (l : List UInt8) (n : Nat), (bitsL l).foldl (fun n b => 2 * n + b.toNat) n = l.foldl (fun n b => 256 * n + b.toNat) n
  | [], n => rfl
  | b :: l, n => by
    have e : bitsL (b :: l) = bits8 b ++ bitsL l := rfl
    rw [e, List.foldl_append, val8, List.foldl_cons]
    exact valL l _
theorem rem_field (l : List UInt8) (h : l.length = 4) : remB (bitsL l) = getN l := by
  unfold remB
  rw [short _ 0 0 (by decide) (by rw [bitsL_len]; omega), valL]
  rfl
theorem zip_zeros : ∀ (l : List Bool), List.zipWith Bool.xor l (List.replicate l.length false) = l
  | [] => rfl
  | b :: l => by
    rw [List.length_cons, List.replicate_succ, List.zipWith_cons_cons, zip_zeros l, Bool.xor_false]
theorem zeros_zip : ∀ (l : List Bool), List.zipWith Bool.xor (List.replicate l.length false) l = l
  | [] => rfl
  | b :: l => by
    rw [List.length_cons, List.replicate_succ, List.zipWith_cons_cons, zeros_zip l, Bool.false_xor]
def fieldB (h t : List UInt8) : List UInt8 := putZ (downN (8 * t.length) (rem (h ++ [0, 0, 0, 0] ++ t)) : Nat) 4
def sealB (h t : List UInt8) : List UInt8 := h ++ fieldB h t ++ t
theorem fieldB_len (h t : List UInt8) : (fieldB h t).length = 4 := putZ_length _ 4
theorem sealB_rem (h t : List UInt8) : rem (sealB h t) = 0 := by
  obtain ⟨R, hR⟩ : ∃ R, R = rem (h ++ [0, 0, 0, 0] ++ t) := ⟨_, rfl⟩
  have hRl : R < 4294967296 := by rw [hR]; exact rem_lt _
  obtain ⟨r, hr⟩ : ∃ r, r = downN (8 * t.length) R := ⟨_, rfl⟩
  have hrl : r < 4294967296 := by rw [hr]; exact downN_lt _ _ hRl
  have hup : upN (8 * t.length) r = R := by rw [hr]; exact upN_downN _ _ hRl
  have hf : fieldB h t = putZ (r : Nat) 4 := by unfold fieldB; rw [← hR, ← hr]
  have hfl := fieldB_len h t
  have hfr : remB (bitsL (fieldB h t)) = r := by
    rw [rem_field _ hfl, hf]
    have := getN_putZ (r : Int) 4
    have e : (r : Int) % 256 ^ 4 = r := Int.emod_eq_of_lt (by omega) (by
      have : (256 : Int) ^ 4 = 4294967296 := by decide
      omega)
    rw [e] at this
    exact Int.ofNat.inj this
  have hz4 : bitsL [0, 0, 0, 0] = List.replicate 32 false := by decide
  have hl4 : (bitsL (fieldB h t)).length = 32 := by rw [bitsL_len, hfl]
  have hx := rem_xor (bitsL h ++ bitsL [0, 0, 0, 0] ++ bitsL t) (List.replicate (bitsL h).length false ++ bitsL (fieldB h t) ++ List.replicate (bitsL t).length false) (by
    simp only [List.length_append, List.length_replicate, hl4, hz4])
  rw [List.zipWith_append (by simp only [List.length_append, List.length_replicate, hl4, hz4]), List.zipWith_append (by simp), zip_zeros, zip_zeros, hz4] at hx
  have e1 : List.zipWith Bool.xor (List.replicate 32 false) (bitsL (fieldB h t)) = bitsL (fieldB h t) := by
    have := zeros_zip (bitsL (fieldB h t))
    rwa [hl4] at this
  rw [e1] at hx
  have e2 : remB (List.replicate (bitsL h).length false ++ bitsL (fieldB h t) ++ List.replicate (bitsL t).length false) = R := by
    unfold remB
    rw [List.foldl_append, List.foldl_append, fold_zeros, fold_zeros, upN_zero, bitsL_len t]
    show upN (8 * t.length) (remB (bitsL (fieldB h t))) = R
    rw [hfr, hup]
  have e3 : remB (bitsL h ++ List.replicate 32 false ++ bitsL t) = R := by
    rw [hR]
    unfold rem
    rw [bitsL_app, bitsL_app, hz4]
  rw [e2, e3, Nat.xor_self] at hx
  unfold rem sealB
  rw [bitsL_app, bitsL_app]
  exact hx

/-! ### Numbers of 32 bits -/
theorem ofInt_nat (a : Nat) (h : a < 4294967296) : (BitVec.ofInt 32 (a : Int)).toNat = a := by
  rw [BitVec.toNat_ofInt]
  omega
theorem u32_xor (a b : Nat) (ha : a < 4294967296) (hb : b < 4294967296) : bits .xor .u32 (a : Int) (b : Int) = ((a ^^^ b : Nat) : Int) := by
  have h : a ^^^ b < 2 ^ 32 := Nat.xor_lt_two_pow ha hb
  show IntKind.u32.wrap ((BitVec.ofInt 32 (a : Int) ^^^ BitVec.ofInt 32 (b : Int)).toNat : Int) = _
  rw [BitVec.toNat_xor, ofInt_nat a ha, ofInt_nat b hb]
  exact u32_wraps _ (by omega) (by omega)
theorem u32_and (a b : Nat) (ha : a < 4294967296) (hb : b < 4294967296) : bits .and .u32 (a : Int) (b : Int) = ((a &&& b : Nat) : Int) := by
  have h : a &&& b ≤ a := Nat.and_le_left
  show IntKind.u32.wrap ((BitVec.ofInt 32 (a : Int) &&& BitVec.ofInt 32 (b : Int)).toNat : Int) = _
  rw [BitVec.toNat_and, ofInt_nat a ha, ofInt_nat b hb]
  exact u32_wraps _ (by omega) (by omega)
theorem top_bit (r : Nat) (h : r < 4294967296) : (bits .and .u32 (r : Int) 2147483648 != 0) = r.testBit 31 := by
  rw [show (2147483648 : Int) = ((2147483648 : Nat) : Int) from rfl, u32_and r 2147483648 h (by decide), bit31 r h]
  have e : r &&& 2147483648 = if 2147483648 ≤ r then 2147483648 else 0 := by
    apply Nat.eq_of_testBit_eq
    intro i
    have hp : (2147483648 : Nat) = 2 ^ 31 := by decide
    rw [Nat.testBit_and]
    have h2 : (2147483648 : Nat).testBit i = decide (i = 31) := by rw [hp, Nat.testBit_two_pow]; exact decide_eq_decide.2 ⟨fun h => h.symm, fun h => h.symm⟩
    rw [h2]
    by_cases hi : i = 31
    · subst hi
      rw [bit31 r h]
      by_cases hr : 2147483648 ≤ r
      · rw [if_pos hr, h2, decide_eq_true hr]; rfl
      · rw [if_neg hr, decide_eq_false hr]; simp
    · rw [decide_eq_false hi, Bool.and_false]
      split
      · rw [h2, decide_eq_false hi]
      · simp
  rw [e]
  by_cases hr : 2147483648 ≤ r
  · rw [if_pos hr, decide_eq_true hr]; rfl
  · rw [if_neg hr, decide_eq_false hr]; rfl
theorem low_bit (r : Nat) (h : r < 4294967296) : (bits .and .u32 (r : Int) 1 != 0) = decide (r % 2 = 1) := by
  rw [show (1 : Int) = ((1 : Nat) : Int) from rfl, u32_and r 1 h (by decide), Nat.and_one_is_mod]
  by_cases hr : r % 2 = 1
  · rw [decide_eq_true hr, hr]; rfl
  · rw [decide_eq_false hr, show r % 2 = 0 by omega]; rfl
theorem up_t (r : Nat) (h : r < 4294967296) (hb : r.testBit 31 = true) : bits .xor .u32 (IntKind.u32.wrap ((r : Int) * 2)) 79764919 = ((up r : Nat) : Int) := by
  have e : IntKind.u32.wrap ((r : Int) * 2) = (((r <<< 1) % 2 ^ 32 : Nat) : Int) := by
    rw [IntKind.wrap_u32, Nat.shiftLeft_eq]; omega
  rw [e, show (79764919 : Int) = ((79764919 : Nat) : Int) from rfl, u32_xor _ _ (Nat.mod_lt _ (by decide)) (by decide)]
  unfold up
  rw [if_pos hb]
  rfl
theorem up_f (r : Nat) (h : r < 4294967296) (hb : r.testBit 31 = false) : (r : Int) * 2 = ((up r : Nat) : Int) := by
  rw [bit31 r h] at hb
  have := of_decide_eq_false hb
  rw [up_small r (by omega)]
  omega
theorem down_t (r : Nat) (h : r < 4294967296) (hb : r % 2 = 1) : bits .or .u32 (bits .xor .u32 (r : Int) 79764919 / 2) 2147483648 = ((down r : Nat) : Int) := by
  have h2 : (r ^^^ poly) < 2 ^ 32 := Nat.xor_lt_two_pow (by omega) (by decide)
  rw [show (79764919 : Int) = ((poly : Nat) : Int) from rfl, u32_xor r poly h (by decide)]
  unfold down
  rw [if_pos hb]
  generalize r ^^^ poly = x at *
  have e : bits .or .u32 (2147483648 : Int) (((x : Int)) / 2) = 2147483648 + (x : Int) / 2 := u32_join 31 _ _ (by omega) (by decide) (by omega) (by omega) (by omega) (by omega)
  have ec : bits .or .u32 ((x : Int) / 2) 2147483648 = bits .or .u32 2147483648 ((x : Int) / 2) := by
    show IntKind.u32.wrap ((BitVec.ofInt 32 ((x : Int) / 2) ||| BitVec.ofInt 32 2147483648).toNat : Int) = IntKind.u32.wrap ((BitVec.ofInt 32 2147483648 ||| BitVec.ofInt 32 ((x : Int) / 2)).toNat : Int)
    rw [BitVec.or_comm]
  rw [ec, e]
  omega
theorem down_f (r : Nat) (hb : ¬ r % 2 = 1) : (r : Int) / 2 = ((down r : Nat) : Int) := by
  unfold down
  rw [if_neg hb]
  omega
end Go.Proofs.YtbnnfmleoebelaaGreat

