/- Package notes: goodbyes and words read. -/
import Derived.Test.YtjkmnjmmnjhacaaGreatNotes3z
namespace Go.Proofs.YtjkmnjmmnjhacaaGreat
open Go.RowKit
set_option linter.unusedVariables false
set_option linter.unusedSimpArgs false

def rdWs : Nat → List UInt8 × Int → List Int
  | 0, _ => []
  | n + 1, x => vl 4 x :: rdWs n (nx 4 x)
def nxWs : Nat → List UInt8 × Int → List UInt8 × Int
  | 0, x => x
  | n + 1, x => nxWs n (nx 4 x)
theorem rdWs_len (n : Nat) (x : List UInt8 × Int) : (rdWs n x).length = n := by
  induction n generalizing x with
  | zero => rfl
  | succ n ih => simp [rdWs, ih]
theorem rdWs_in (n : Nat) (x : List UInt8 × Int) : ∀ m ∈ rdWs n x, 0 ≤ m ∧ m < 4294967296 := by
  induction n generalizing x with
  | zero => intro m h; simp [rdWs] at h
  | succ n ih =>
    intro m h
    rw [rdWs] at h
    rcases List.mem_cons.1 h with rfl | h
    · exact vl_lt 4 4294967296 x (by decide)
    · exact ih _ m h
theorem nxWs_len (n : Nat) (x : List UInt8 × Int) : (nxWs n x).1.length ≤ x.1.length := by
  induction n generalizing x with
  | zero => exact Nat.le_refl _
  | succ n ih => exact Nat.le_trans (ih _) (nx_len 4 x)
def cnt32 (n : Int) : Nat := (max 0 (min n 32)).toNat
def rawY (p : Pc) : Y9 :=
  ⟨if (nxWs (cnt32 p.1) (p.2.2, 0)).1 = [] then [] else rawT (nx 1 (nxWs (cnt32 p.1) (p.2.2, 0))).1 (vl 1 (nxWs (cnt32 p.1) (p.2.2, 0))), rdWs (cnt32 p.1) (p.2.2, 0)⟩
def byeE (p : Pc) : Int := justE p 203 (byeP (rawY p))
def byeR (p : Pc) : Y9 := if byeE p = 0 then rawY p else ⟨[], []⟩
theorem rawT_le (l : List UInt8) (n : Int) : (rawT l n).length ≤ l.length := by
  unfold rawT
  split
  · rw [List.length_take]; omega
  · simp
theorem rawY_ok (p : Pc) (h : p.2.2.length ≤ maxLen) : (rawY p).Ok := by
  have h1 := nxWs_len (cnt32 p.1) (p.2.2, 0)
  refine ⟨?_, ?_, rdWs_in _ _⟩
  · unfold rawY
    dsimp only
    split
    · simp
    · have h2 := nx_len 1 (nxWs (cnt32 p.1) (p.2.2, 0))
      have h3 := rawT_le (nx 1 (nxWs (cnt32 p.1) (p.2.2, 0))).1 (vl 1 (nxWs (cnt32 p.1) (p.2.2, 0)))
      dsimp only at h1
      omega
  · unfold rawY
    dsimp only
    rw [rdWs_len]
    unfold cnt32 maxLen
    omega
set_option maxRecDepth 100000 in
set_option maxHeartbeats 8000000 in
theorem notes_tobye (p : Pc) (hp : p.2.2.length ≤ maxLen) : Spec Tryz.prog 103 [.ca (.val (pcV p))] [] (.ca (.val (.tup [.agg (y9L (byeR p)), vi (byeE p)]))) [] := by
  have hok := rawY_ok p hp
  have c1 := notes_bye (rawY p) hok
  have c2 := just_bye p 203 (rawY p) (byeP (rawY p))
  have hE : byeE p = justE p 203 (byeP (rawY p)) := rfl
  have hR : byeR p = if byeE p = 0 then rawY p else ⟨[], []⟩ := rfl
  rw [← hE, ← hR] at c2
  clear hE hR
  generalize byeE p = E at *
  generalize byeR p = R at *
  generalize byeP (rawY p) = Q at *
  obtain ⟨n, k, b⟩ := p
  obtain ⟨Y, hY⟩ : ∃ Y, Y = rawY (n, k, b) := ⟨_, rfl⟩
  rw [← hY] at c1 c2
  unfold rawY at hY
  dsimp only at *
  obtain ⟨N, hN⟩ : ∃ N, N = cnt32 n := ⟨_, rfl⟩
  have hcn : max 0 (min n 32) = (N : Int) := by unfold cnt32 at hN; omega
  have hN32 : N ≤ 32 := by unfold cnt32 at hN; omega
  obtain ⟨SS, hSS⟩ : ∃ x, x = rdWs N (b, 0) := ⟨_, rfl⟩
  obtain ⟨XF, hXF⟩ : ∃ x, x = nxWs N (b, 0) := ⟨_, rfl⟩
  have hsl : SS.length = N := by rw [hSS, rdWs_len]
  rw [← hN, ← hSS, ← hXF] at hY
  have hxl : XF.1.length ≤ maxLen := by rw [hXF]; exact Nat.le_trans (nxWs_len _ _) hp
  obtain ⟨RE, hRE⟩ : ∃ x, x = if XF.1 = [] then [] else rawT (nx 1 XF).1 (vl 1 XF) := ⟨_, rfl⟩
  rw [← hRE] at hY
  subst hY
  refine spec_of Tryz.func103 rfl Tryz.ntmps103 Tryz.results103 ⟨by decide, by simp⟩ fun C hC => ?_
  (repeat (first | refine sp_ ?_ | exact ex0))
  refine call_s Tryz.call69 (pen_of b) [] ?_
  (repeat (first | refine sp_ ?_ | exact ex0))
  refine own_c (5, 0) 1 (5, 2) 36 1 ?_
  simp (decide := true) (disch := omega) only [go_sem, ↓reduceIte, ↓put_at]
  refine loop_s (α := {y : Nat × (List UInt8 × Int) × List Int // y.1 ≤ N ∧ y.2.1.1.length ≤ maxLen ∧ y.2.2.length = y.1 ∧ y.2.2 ++ rdWs (N - y.1) y.2.1 = SS ∧ nxWs (N - y.1) y.2.1 = XF}) (fun y => [(.s 1, .av (.ptr (1, 0) 0 0)), (.o (1, 0), .num 3), (.c (1, 0) 0, .av (.val (vi n))), (.c (1, 0) 1, .av (.val (vi k))), (.c (1, 0) 2, .av (.val (vs b))), (.s 2, .av (.ptr (2, 0) 0 0)), (.o (2, 0), .num 2), (.s 4, .av (.ptr (8, 0) 0 0)), (.o (8, 0), .num 2), (.c (8, 0) 0, .av (.val (vs y.1.2.1.1))), (.c (8, 0) 1, .av (.val (vi y.1.2.1.2))), (.s 5, .av (.ptr (5, 0) 0 0)), (.o (5, 0), .num 2), (.c (5, 0) 0, .av (.val (vs []))), (.c (5, 0) 1, .av (.own (5, 2) 0 36 1 (y.1.2.2.map u32El))), (.k (5, 2), .row 36 1 y.1.2.2.length), (.s 12, .av (.val (vi N))), (.s 13, .av (.val (vi y.1.1)))]) (fun y => N - y.1.1) ⟨(0, (b, 0), []), Nat.zero_le _, hp, rfl, hSS.symm, hXF.symm⟩ ?_ (fun y => ?_)
  · simp only [List.map_nil]
    simp (decide := true) (disch := omega) only [go_sem, ↓reduceIte, ↓put_at]
    exact hcn
  · obtain ⟨⟨j, x, acc⟩, hj, hxl', hac, hb1, hb2⟩ := y
    dsimp only at hj hxl' hac hb1 hb2 ⊢
    by_cases hlt : j < N
    · have c3 := rd32 x hxl'
      have hnl := Nat.le_trans (nx_len 4 x) hxl'
      obtain ⟨m, hm⟩ : ∃ m, N - j = m + 1 := ⟨N - j - 1, by omega⟩
      have hm2 : N - (j + 1) = m := by omega
      rw [hm] at hb1 hb2
      rw [rdWs] at hb1
      rw [nxWs] at hb2
      (repeat (first | refine sp_ ?_ | exact ex0))
      refine call_s Tryz.call96 c3 [(8, 0)] ?_
      (repeat (first | refine sp_ ?_ | exact ex0))
      refine next_s ⟨(j + 1, nx 4 x, acc ++ [vl 4 x]), hlt, hnl, by simp [hac], by dsimp only; rw [hm2, List.append_assoc]; exact hb1, by dsimp only; rw [hm2]; exact hb2⟩ ⟨?_, by dsimp only; omega⟩
      simp (decide := true) (disch := omega) only [go_sem, ↓reduceIte, ↓put_at]
      rw [List.map_append]; rfl
    · have hjN : N - j = 0 := by omega
      rw [hjN] at hb1 hb2
      simp only [rdWs, nxWs, List.append_nil] at hb1 hb2
      clear hSS hXF
      subst hb1 hb2
      by_cases hx0 : x.1 = []
      · rw [if_pos hx0] at hRE
        subst hRE
        have hx0' : x.1.length = 0 := by rw [hx0]; rfl
        (repeat (first | refine sp_ ?_ | exact ex0))
        refine call_s Tryz.call70 (in_left x.1 x.2) [(8, 0)] ?_
        (repeat (first | refine sp_ ?_ | exact ex0))
        refine call_s Tryz.call123 c1 [] ?_
        (repeat (first | refine sp_ ?_ | exact ex0))
        refine call_s Tryz.call122 c2 [] ?_
        (repeat (first | refine sp_ ?_ | exact ex0))
        (refine ret_s [] ?_; simp (decide := true) (disch := omega) only [go_sem, ↓reduceIte, ↓put_at])
      · rw [if_neg hx0] at hRE
        have hx0' : 0 < x.1.length := List.length_pos_iff.2 hx0
        have v1 := vl_lt 1 256 x (by decide)
        have c4 := rd8 x hxl'
        have hnl := Nat.le_trans (nx_len 1 x) hxl'
        have c5 := in_raw (nx 1 x).1 (nx 1 x).2 (vl 1 x) hnl (by unfold maxLen; omega)
        rw [← hRE] at c5
        (repeat (first | refine sp_ ?_ | exact ex0))
        refine call_s Tryz.call70 (in_left x.1 x.2) [(8, 0)] ?_
        (repeat (first | refine sp_ ?_ | exact ex0))
        refine call_s Tryz.call92 c4 [(8, 0)] ?_
        (repeat (first | refine sp_ ?_ | exact ex0))
        refine call_s Tryz.call95 c5 [(8, 0)] ?_
        (repeat (first | refine sp_ ?_ | exact ex0))
        refine call_s Tryz.call123 c1 [] ?_
        (repeat (first | refine sp_ ?_ | exact ex0))
        refine call_s Tryz.call122 c2 [] ?_
        (repeat (first | refine sp_ ?_ | exact ex0))
        (refine ret_s [] ?_; simp (decide := true) (disch := omega) only [go_sem, ↓reduceIte, ↓put_at])
end Go.Proofs.YtjkmnjmmnjhacaaGreat

namespace Go.Proofs.YtjkmnjmmnjhacaaGreat
open Go.RowKit
set_option linter.unusedVariables false
set_option linter.unusedSimpArgs false

def rawA (p : Pc) : A9 := ⟨p.1, vl 4 (p.2.2, 0), rawT (nx 4 (p.2.2, 0)).1 4, (nx 4 (nx 4 (p.2.2, 0))).1⟩
def appE (p : Pc) : Int := justE p 204 (appP (rawA p))
def appR (p : Pc) : A9 := if appE p = 0 then rawA p else ⟨0, 0, [], []⟩
theorem rawT_all (l : List UInt8) : rawT l l.length = l := by unfold rawT; rw [if_pos (Int.le_refl _)]; simp
theorem rawT_le2 (l : List UInt8) (n : Int) : (rawT l n).length ≤ n.toNat := by
  unfold rawT
  split
  · rw [List.length_take]; omega
  · simp
theorem rawA_ok (p : Pc) (h : p.2.2.length ≤ maxLen) : (rawA p).Ok := by
  have h1 := nx_len 4 (p.2.2, 0)
  have h2 := nx_len 4 (nx 4 (p.2.2, 0))
  have h3 := rawT_le (nx 4 (p.2.2, 0)).1 4
  refine ⟨vl_lt 4 4294967296 _ (by decide), ?_, ?_⟩
  · unfold rawA; dsimp only at *; omega
  · unfold rawA; dsimp only at *; omega
set_option maxRecDepth 100000 in
set_option maxHeartbeats 8000000 in
theorem notes_toapp (p : Pc) (hp : p.2.2.length ≤ maxLen) : Spec Tryz.prog 73 [.ca (.val (pcV p))] [] (.ca (.val (.tup [.agg (a9L (appR p)), vi (appE p)]))) [] := by
  have hok := rawA_ok p hp
  have c1 := notes_app (rawA p) hok
  have c2 := just_app p 204 (rawA p) (appP (rawA p))
  have hE : appE p = justE p 204 (appP (rawA p)) := rfl
  have hR : appR p = if appE p = 0 then rawA p else ⟨0, 0, [], []⟩ := rfl
  rw [← hE, ← hR] at c2
  clear hE hR
  generalize appE p = E at *
  generalize appR p = R at *
  generalize appP (rawA p) = Q at *
  obtain ⟨n, k, b⟩ := p
  have c3 := rd32 (b, 0) hp
  have l1 := Nat.le_trans (nx_len 4 (b, 0)) hp
  have c4 := in_raw (nx 4 (b, 0)).1 (nx 4 (b, 0)).2 4 l1 (by decide)
  have e4 : (rawL (nx 4 (b, 0)).1 (nx 4 (b, 0)).2 4) = (nx 4 (nx 4 (b, 0))).1 := rfl
  have e5 : (rawE (nx 4 (b, 0)).1 (nx 4 (b, 0)).2 4) = (nx 4 (nx 4 (b, 0))).2 := rfl
  rw [e4, e5] at c4
  have l2 := Nat.le_trans (nx_len 4 (nx 4 (b, 0))) l1
  have c5 := in_raw (nx 4 (nx 4 (b, 0))).1 (nx 4 (nx 4 (b, 0))).2 (nx 4 (nx 4 (b, 0))).1.length l2 (by omega)
  rw [rawT_all] at c5
  unfold rawA at c1 c2
  dsimp only at *
  generalize vl 4 (b, 0) = src at *
  generalize rawT (nx 4 (b, 0)).1 4 = name at *
  generalize nx 4 (nx 4 (b, 0)) = x2 at *
  generalize nx 4 (b, 0) = x1 at *
  refine spec_of Tryz.func73 rfl Tryz.ntmps73 Tryz.results73 ⟨by decide, by simp⟩ fun C hC => ?_
  (repeat (first | refine sp_ ?_ | exact ex0))
  refine call_s Tryz.call69 (pen_of b) [] ?_
  (repeat (first | refine sp_ ?_ | exact ex0))
  refine call_s Tryz.call96 c3 [(8, 0)] ?_
  (repeat (first | refine sp_ ?_ | exact ex0))
  refine call_s Tryz.call95 c4 [(8, 0)] ?_
  (repeat (first | refine sp_ ?_ | exact ex0))
  refine call_s Tryz.call70 (in_left x2.1 x2.2) [(8, 0)] ?_
  (repeat (first | refine sp_ ?_ | exact ex0))
  refine call_s Tryz.call95 c5 [(8, 0)] ?_
  (repeat (first | refine sp_ ?_ | exact ex0))
  refine call_s Tryz.call20 c1 [] ?_
  (repeat (first | refine sp_ ?_ | exact ex0))
  refine call_s Tryz.call97 c2 [] ?_
  (repeat (first | refine sp_ ?_ | exact ex0))
  (refine ret_s [] ?_; simp (decide := true) (disch := omega) only [go_sem, ↓reduceIte, ↓put_at])
/-- What an In is after so many bytes as they are. -/
def nxr (n : Int) (x : List UInt8 × Int) : List UInt8 × Int := (rawL x.1 x.2 n, rawE x.1 x.2 n)
theorem nxr_len (n : Int) (x : List UInt8 × Int) : (nxr n x).1.length ≤ x.1.length := by
  unfold nxr rawL failL
  dsimp only
  split
  · simp
  · split <;> simp
theorem rdRaw (x : List UInt8 × Int) (n : Int) (hl : x.1.length ≤ maxLen) (hn : 0 ≤ n ∧ n ≤ maxLen) : Spec Tryz.prog 95 [.ptr 0 0, .ca (.val (vi n))] [inO x.1 x.2] (.ca (.val (vs (rawT x.1 n)))) [inO (nxr n x).1 (nxr n x).2] := in_raw x.1 x.2 n hl hn
def rdN (x : List UInt8 × Int) : N9 := ⟨vl 4 x, rawT (nx 1 (nx 1 (nx 4 x))).1 (vl 1 (nx 1 (nx 4 x)))⟩
def nxN (x : List UInt8 × Int) : List UInt8 × Int := nxr (4 - ((rdN x).text.length + 2) % 4) (nxr (vl 1 (nx 1 (nx 4 x))) (nx 1 (nx 1 (nx 4 x))))
def runN : Nat → List UInt8 × Int → List N9 → List N9
  | 0, _, acc => acc
  | f + 1, x, acc => if x.1 = [] then acc else runN f (nxN x) (acc ++ [rdN x])
def rawN (p : Pc) : List N9 := runN 32 (p.2.2, 0) []
def namesE (p : Pc) : Int := justE p 202 (namesP (rawN p))
def namesR (p : Pc) : List N9 := if namesE p = 0 then rawN p else []
theorem nxN_len (x : List UInt8 × Int) : (nxN x).1.length ≤ x.1.length := by
  unfold nxN
  exact Nat.le_trans (nxr_len _ _) (Nat.le_trans (nxr_len _ _) (Nat.le_trans (nx_len _ _) (Nat.le_trans (nx_len _ _) (nx_len _ _))))
theorem rdN_ok (x : List UInt8 × Int) (h : x.1.length ≤ maxLen) : (rdN x).Ok := by
  refine ⟨vl_lt 4 4294967296 _ (by decide), ?_⟩
  have h1 := rawT_le (nx 1 (nx 1 (nx 4 x))).1 (vl 1 (nx 1 (nx 4 x)))
  have h2 := Nat.le_trans (nx_len 1 (nx 1 (nx 4 x))) (Nat.le_trans (nx_len 1 (nx 4 x)) (nx_len 4 x))
  unfold rdN
  dsimp only
  omega
set_option maxRecDepth 100000 in
set_option maxHeartbeats 8000000 in
theorem notes_tonames (p : Pc) (hp : p.2.2.length ≤ maxLen) : Spec Tryz.prog 101 [.ca (.val (pcV p))] [] (.ca (.val (.tup [.lst 2 ((namesR p).map n9El), vi (namesE p)]))) [] := by
  have c2 := just_names p 202 (rawN p) (namesP (rawN p))
  have hE : namesE p = justE p 202 (namesP (rawN p)) := rfl
  have hR : namesR p = if namesE p = 0 then rawN p else [] := rfl
  rw [← hE, ← hR] at c2
  clear hE hR
  generalize namesE p = E at *
  generalize namesR p = R at *
  obtain ⟨n, k, b⟩ := p
  obtain ⟨L, hL⟩ : ∃ L, L = runN 32 (b, 0) [] := ⟨_, rfl⟩
  have hL2 : rawN (n, k, b) = L := hL.symm
  rw [hL2] at c2
  clear hL2
  dsimp only at hp
  refine spec_of Tryz.func101 rfl Tryz.ntmps101 Tryz.results101 ⟨by decide, by simp⟩ fun C hC => ?_
  (repeat (first | refine sp_ ?_ | exact ex0))
  refine call_s Tryz.call69 (pen_of b) [] ?_
  (repeat (first | refine sp_ ?_ | exact ex0))
  refine own_s 5 (5, 0) 83 2 ?_
  simp (decide := true) (disch := omega) only [go_sem, ↓reduceIte, ↓put_at]
  refine loop_s (α := {y : (List UInt8 × Int) × List N9 // y.1.1.length ≤ maxLen ∧ y.2.length ≤ 32 ∧ (∀ a ∈ y.2, a.Ok) ∧ runN (32 - y.2.length) y.1 y.2 = L}) (fun y => [(.s 1, .av (.ptr (1, 0) 0 0)), (.o (1, 0), .num 3), (.c (1, 0) 0, .av (.val (vi n))), (.c (1, 0) 1, .av (.val (vi k))), (.c (1, 0) 2, .av (.val (vs b))), (.s 4, .av (.ptr (9, 0) 0 0)), (.o (9, 0), .num 2), (.c (9, 0) 0, .av (.val (vs y.1.1.1))), (.c (9, 0) 1, .av (.val (vi y.1.1.2))), (.s 5, .av (.own (5, 0) 0 83 2 (y.1.2.map n9El))), (.k (5, 0), .row 83 2 y.1.2.length)]) (fun y => 32 - y.1.2.length) ⟨((b, 0), []), hp, by simp, fun a h => by simp at h, hL.symm⟩ ?_ (fun y => ?_)
  · simp only [List.map_nil]
    simp (decide := true) (disch := omega) only [go_sem, ↓reduceIte, ↓put_at]
  · obtain ⟨⟨x, acc⟩, hxl, hal, hao, hrun⟩ := y
    dsimp only at hxl hal hao hrun ⊢
    have cE : ∀ (h : acc = L), Spec Tryz.prog 31 [.ca (.val (.lst 2 (acc.map n9El)))] [] (.ca (.val (pcV (namesP L)))) [] := fun h => by
      rw [← h]
      exact notes_names acc (by unfold maxLen; omega) hao
    by_cases hx0 : x.1 = []
    · have hLa : acc = L := by
        rw [← hrun]
        cases h32 : 32 - acc.length with
        | zero => rfl
        | succ f => rw [runN, if_pos hx0]
      have c1 := cE hLa
      clear hL cE
      subst hLa
      have hx0' : x.1.length = 0 := by rw [hx0]; rfl
      generalize namesP acc = Q at *
      (repeat (first | refine sp_ ?_ | exact ex0))
      refine call_s Tryz.call70 (in_left x.1 x.2) [(9, 0)] ?_
      (repeat (first | refine sp_ ?_ | exact ex0))
      refine call_s Tryz.call31 c1 [] ?_
      (repeat (first | refine sp_ ?_ | exact ex0))
      refine call_s Tryz.call121 c2 [] ?_
      (repeat (first | refine sp_ ?_ | exact ex0))
      (refine ret_s [] ?_; simp (decide := true) (disch := omega) only [go_sem, ↓reduceIte, ↓put_at])
    have hx0' : 0 < x.1.length := List.length_pos_iff.2 hx0
    by_cases h31 : acc.length ≤ 31
    · obtain ⟨f, hf⟩ : ∃ f, 32 - acc.length = f + 1 := ⟨31 - acc.length, by omega⟩
      rw [hf, runN, if_neg hx0] at hrun
      have hf2 : 32 - (acc ++ [rdN x]).length = f := by simp; omega
      have hxn := Nat.le_trans (nxN_len x) hxl
      have hro := rdN_ok x hxl
      have v1 := vl_lt 1 256 (nx 1 (nx 4 x)) (by decide)
      have t1 := rawT_le (nx 1 (nx 1 (nx 4 x))).1 (vl 1 (nx 1 (nx 4 x)))
      have t2 : (rdN x).text.length ≤ 255 := Nat.le_trans (rawT_le2 _ _) (by omega)
      have c3 := rd32 x hxl
      have l1 := Nat.le_trans (nx_len 4 x) hxl
      have c4 := rd8 (nx 4 x) l1
      have l2 := Nat.le_trans (nx_len 1 (nx 4 x)) l1
      have c5 := rd8 (nx 1 (nx 4 x)) l2
      have l3 := Nat.le_trans (nx_len 1 (nx 1 (nx 4 x))) l2
      have c6 := rdRaw (nx 1 (nx 1 (nx 4 x))) (vl 1 (nx 1 (nx 4 x))) l3 (by unfold maxLen; omega)
      have l4 := Nat.le_trans (nxr_len (vl 1 (nx 1 (nx 4 x))) (nx 1 (nx 1 (nx 4 x)))) l3
      have c7 := rdRaw (nxr (vl 1 (nx 1 (nx 4 x))) (nx 1 (nx 1 (nx 4 x)))) (4 - ((rdN x).text.length + 2) % 4) l4 (by unfold maxLen; omega)
      have e7 : nxr (4 - ((rdN x).text.length + 2) % 4) (nxr (vl 1 (nx 1 (nx 4 x))) (nx 1 (nx 1 (nx 4 x)))) = nxN x := rfl
      rw [e7] at c7
      have e8 : (rdN x).text = rawT (nx 1 (nx 1 (nx 4 x))).1 (vl 1 (nx 1 (nx 4 x))) := rfl
      have e9 : (rdN x).src = vl 4 x := rfl
      rw [← e8] at c6 t1
      rw [← e9] at c3
      obtain ⟨ho1, ho2⟩ := hro
      have hro : (rdN x).Ok := ⟨ho1, ho2⟩
      generalize rdN x = y at *
      generalize nxN x = x5 at *
      unfold maxLen at ho2
      (repeat (first | refine sp_ ?_ | exact ex0))
      refine call_s Tryz.call70 (in_left x.1 x.2) [(9, 0)] ?_
      (repeat (first | refine sp_ ?_ | exact ex0))
      refine call_s Tryz.call96 c3 [(9, 0)] ?_
      (repeat (first | refine sp_ ?_ | exact ex0))
      refine call_s Tryz.call92 c4 [(9, 0)] ?_
      (repeat (first | refine sp_ ?_ | exact ex0))
      refine call_s Tryz.call92 c5 [(9, 0)] ?_
      (repeat (first | refine sp_ ?_ | exact ex0))
      refine call_s Tryz.call95 c6 [(9, 0)] ?_
      (repeat (first | refine sp_ ?_ | exact ex0))
      refine call_s Tryz.call95 c7 [(9, 0)] ?_
      (repeat (first | refine sp_ ?_ | exact ex0))
      have hao2 : ∀ a ∈ acc ++ [y], a.Ok := fun a ha => by
        rcases List.mem_append.1 ha with h | h
        · exact hao a h
        · rw [List.mem_singleton.1 h]; exact hro
      have hal2 : (acc ++ [y]).length = acc.length + 1 := by simp
      refine next_s ⟨(x5, acc ++ [y]), hxn, by dsimp only; omega, hao2, by dsimp only; rw [hf2]; exact hrun⟩ ⟨?_, by dsimp only; omega⟩
      simp (decide := true) (disch := omega) only [go_sem, ↓reduceIte, ↓put_at]
      rw [List.map_append]; rfl
    · have h32 : 32 - acc.length = 0 := by omega
      rw [h32] at hrun
      have hLa : acc = L := hrun
      have c1 := cE hLa
      clear hL cE
      subst hLa
      generalize namesP acc = Q at *
      (repeat (first | refine sp_ ?_ | exact ex0))
      refine call_s Tryz.call70 (in_left x.1 x.2) [(9, 0)] ?_
      (repeat (first | refine sp_ ?_ | exact ex0))
      refine call_s Tryz.call31 c1 [] ?_
      (repeat (first | refine sp_ ?_ | exact ex0))
      refine call_s Tryz.call121 c2 [] ?_
      (repeat (first | refine sp_ ?_ | exact ex0))
      (refine ret_s [] ?_; simp (decide := true) (disch := omega) only [go_sem, ↓reduceIte, ↓put_at])
end Go.Proofs.YtjkmnjmmnjhacaaGreat

