
/- Package notes: goodbyes and words read. -/
import Derived.Test.YtlhkhncdnaibgaaNotes3
namespace Go.Proofs.Ytlhkhncdnaibgaa
open Go.RowKit
set_option linter.unusedVariables false
set_option linter.unusedSimpArgs false

def rdWs : Nat → List UInt8 × Int → List Int
  | 0, _ => []
  | n + 1, x => vl 4 x :: rdWs n (nx 4 x)
def nxWs : Nat → List UInt8 × Int → List UInt8 × Int
  | 0, x => x
  | n + 1, x => nxWs n (nx 4 x)
theorem rdWs_len (n : Nat) (x : List UInt8 × Int) : (rdWs n x).length = n := by
  induction n generalizing x with
  | zero => rfl
  | succ n ih => simp [rdWs, ih]
theorem rdWs_in (n : Nat) (x : List UInt8 × Int) : ∀ m ∈ rdWs n x, 0 ≤ m ∧ m < 4294967296 := by
  induction n generalizing x with
  | zero => intro m h; simp [rdWs] at h
  | succ n ih =>
    intro m h
    rw [rdWs] at h
    rcases List.mem_cons.1 h with rfl | h
    · exact vl_lt 4 4294967296 x (by decide)
    · exact ih _ m h
theorem nxWs_len (n : Nat) (x : List UInt8 × Int) : (nxWs n x).1.length ≤ x.1.length := by
  induction n generalizing x with
  | zero => exact Nat.le_refl _
  | succ n ih => exact Nat.le_trans (ih _) (nx_len 4 x)
def cnt32 (n : Int) : Nat := (max 0 (min n 32)).toNat
def rawY (p : Pc) : Y9 :=
  ⟨if (nxWs (cnt32 p.1) (p.2.2, 0)).1 = [] then [] else rawT (nx 1 (nxWs (cnt32 p.1) (p.2.2, 0))).1 (vl 1 (nxWs (cnt32 p.1) (p.2.2, 0))), rdWs (cnt32 p.1) (p.2.2, 0)⟩
def byeE (p : Pc) : Int := justE p 203 (byeP (rawY p))
def byeR (p : Pc) : Y9 := if byeE p = 0 then rawY p else ⟨[], []⟩
theorem rawT_le (l : List UInt8) (n : Int) : (rawT l n).length ≤ l.length := by
  unfold rawT
  split
  · rw [List.length_take]; omega
  · simp
theorem rawY_ok (p : Pc) (h : p.2.2.length ≤ maxLen) : (rawY p).Ok := by
  have h1 := nxWs_len (cnt32 p.1) (p.2.2, 0)
  refine ⟨?_, ?_, rdWs_in _ _⟩
  · unfold rawY
    dsimp only
    split
    · simp
    · have h2 := nx_len 1 (nxWs (cnt32 p.1) (p.2.2, 0))
      have h3 := rawT_le (nx 1 (nxWs (cnt32 p.1) (p.2.2, 0))).1 (vl 1 (nxWs (cnt32 p.1) (p.2.2, 0)))
      dsimp only at h1
      omega
  · unfold rawY
    dsimp only
    rw [rdWs_len]
    unfold cnt32 maxLen
    omega
set_option maxRecDepth 100000 in
set_option maxHeartbeats 8000000 in
theorem notes_tobye (p : Pc) (hp : p.2.2.length ≤ maxLen) : Spec Try.prog 29 [.ca (.val (pcV p))] [] (.ca (.val (.tup [.agg (y9L (byeR p)), vi (byeE p)]))) [] := by
  have hok := rawY_ok p hp
  have c1 := notes_bye (rawY p) hok
  have c2 := just_bye p 203 (rawY p) (byeP (rawY p))
  have hE : byeE p = justE p 203 (byeP (rawY p)) := rfl
  have hR : byeR p = if byeE p = 0 then rawY p else ⟨[], []⟩ := rfl
  rw [← hE, ← hR] at c2
  clear hE hR
  generalize byeE p = E at *
  generalize byeR p = R at *
  generalize byeP (rawY p) = Q at *
  obtain ⟨n, k, b⟩ := p
  obtain ⟨Y, hY⟩ : ∃ Y, Y = rawY (n, k, b) := ⟨_, rfl⟩
  rw [← hY] at c1 c2
  unfold rawY at hY
  dsimp only at *
  obtain ⟨N, hN⟩ : ∃ N, N = cnt32 n := ⟨_, rfl⟩
  have hcn : max 0 (min n 32) = (N : Int) := by unfold cnt32 at hN; omega
  have hN32 : N ≤ 32 := by unfold cnt32 at hN; omega
  obtain ⟨SS, hSS⟩ : ∃ x, x = rdWs N (b, 0) := ⟨_, rfl⟩
  obtain ⟨XF, hXF⟩ : ∃ x, x = nxWs N (b, 0) := ⟨_, rfl⟩
  have hsl : SS.length = N := by rw [hSS, rdWs_len]
  rw [← hN, ← hSS, ← hXF] at hY
  have hxl : XF.1.length ≤ maxLen := by rw [hXF]; exact Nat.le_trans (nxWs_len _ _) hp
  obtain ⟨RE, hRE⟩ : ∃ x, x = if XF.1 = [] then [] else rawT (nx 1 XF).1 (vl 1 XF) := ⟨_, rfl⟩
  rw [← hRE] at hY
  subst hY
  refine spec_of Try.func29 rfl Try.ntmps29 Try.results29 ⟨by decide, by simp⟩ fun C hC => ?_
  (repeat (first | refine aw_seq ?_ | refine aw_block ?_ | refine aw_reg hC (by kernel_rfl) ?_ | refine aw_regd hC Try.checked.mixed (by kernel_rfl) ?_ | refine chk_and (by kernel_rfl) ?_ | refine aw_skip ?_ | refine aw_if ?_ | refine And.intro (by first | omega | with_reducible assumption) ?_ | refine aw_exit ?_ | refine aw_ret ?_ | (simp (decide := true) (disch := omega) only [go_sem, ↓reduceIte, ↓put_at, reduceCtorEq, Nat.reduceAdd, Nat.reduceSub, Nat.reduceMul, Int.reduceToNat, Int.reducePow, Int.reduceAdd, Int.reduceSub, Int.reduceMul, Int.reduceNeg, Nat.min_eq_left, Nat.min_eq_right, Int.max_eq_left, Int.max_eq_right, Int.min_eq_left, Int.min_eq_right, Nat.reduceLeDiff])))
  refine call_s Try.call75 (pen_of b) [] ?_
  (repeat (first | refine aw_seq ?_ | refine aw_block ?_ | refine aw_reg hC (by kernel_rfl) ?_ | refine aw_regd hC Try.checked.mixed (by kernel_rfl) ?_ | refine chk_and (by kernel_rfl) ?_ | refine aw_skip ?_ | refine aw_if ?_ | refine And.intro (by first | omega | with_reducible assumption) ?_ | refine aw_exit ?_ | refine aw_ret ?_ | (simp (decide := true) (disch := omega) only [go_sem, ↓reduceIte, ↓put_at, reduceCtorEq, Nat.reduceAdd, Nat.reduceSub, Nat.reduceMul, Int.reduceToNat, Int.reducePow, Int.reduceAdd, Int.reduceSub, Int.reduceMul, Int.reduceNeg, Nat.min_eq_left, Nat.min_eq_right, Int.max_eq_left, Int.max_eq_right, Int.min_eq_left, Int.min_eq_right, Nat.reduceLeDiff])))
  refine own_c (5, 0) 1 (5, 2) 50 1 ?_
  simp (decide := true) (disch := omega) only [go_sem, ↓reduceIte, ↓put_at, reduceCtorEq, Nat.reduceAdd, Nat.reduceSub, Nat.reduceMul, Int.reduceToNat, Int.reducePow, Int.reduceAdd, Int.reduceSub, Int.reduceMul, Int.reduceNeg, Nat.min_eq_left, Nat.min_eq_right, Int.max_eq_left, Int.max_eq_right, Int.min_eq_left, Int.min_eq_right, Nat.reduceLeDiff]
  refine loop_s (α := {y : Nat × (List UInt8 × Int) × List Int // y.1 ≤ N ∧ y.2.1.1.length ≤ maxLen ∧ y.2.2.length = y.1 ∧ y.2.2 ++ rdWs (N - y.1) y.2.1 = SS ∧ nxWs (N - y.1) y.2.1 = XF}) (fun y => [(.s 1, .av (.ptr (1, 0) 0 0)), (.o (1, 0), .num 3), (.c (1, 0) 0, .av (.val (vi n))), (.c (1, 0) 1, .av (.val (vi k))), (.c (1, 0) 2, .av (.val (vs b))), (.s 2, .av (.ptr (2, 0) 0 0)), (.o (2, 0), .num 2), (.s 4, .av (.ptr (8, 0) 0 0)), (.o (8, 0), .num 2), (.c (8, 0) 0, .av (.val (vs y.1.2.1.1))), (.c (8, 0) 1, .av (.val (vi y.1.2.1.2))), (.s 5, .av (.ptr (5, 0) 0 0)), (.o (5, 0), .num 2), (.c (5, 0) 0, .av (.val (vs []))), (.c (5, 0) 1, .av (.own (5, 2) 0 50 1 (y.1.2.2.map u32El))), (.k (5, 2), .row 50 1 y.1.2.2.length), (.s 12, .av (.val (vi N))), (.s 13, .av (.val (vi y.1.1)))]) (fun y => N - y.1.1) ⟨(0, (b, 0), []), Nat.zero_le _, hp, rfl, hSS.symm, hXF.symm⟩ ?_ (fun y => ?_)
  · simp only [List.map_nil]
    simp (decide := true) (disch := omega) only [go_sem, ↓reduceIte, ↓put_at, reduceCtorEq, Nat.reduceAdd, Nat.reduceSub, Nat.reduceMul, Int.reduceToNat, Int.reducePow, Int.reduceAdd, Int.reduceSub, Int.reduceMul, Int.reduceNeg, Nat.min_eq_left, Nat.min_eq_right, Int.max_eq_left, Int.max_eq_right, Int.min_eq_left, Int.min_eq_right, Nat.reduceLeDiff]
    exact hcn
  · obtain ⟨⟨j, x, acc⟩, hj, hxl', hac, hb1, hb2⟩ := y
    dsimp only at hj hxl' hac hb1 hb2 ⊢
    by_cases hlt : j < N
    · have c3 := rd32 x hxl'
      have hnl := Nat.le_trans (nx_len 4 x) hxl'
      obtain ⟨m, hm⟩ : ∃ m, N - j = m + 1 := ⟨N - j - 1, by omega⟩
      have hm2 : N - (j + 1) = m := by omega
      rw [hm] at hb1 hb2
      rw [rdWs] at hb1
      rw [nxWs] at hb2
      (repeat (first | refine aw_seq ?_ | refine aw_block ?_ | refine aw_reg hC (by kernel_rfl) ?_ | refine aw_regd hC Try.checked.mixed (by kernel_rfl) ?_ | refine chk_and (by kernel_rfl) ?_ | refine aw_skip ?_ | refine aw_if ?_ | refine And.intro (by first | omega | with_reducible assumption) ?_ | refine aw_exit ?_ | refine aw_ret ?_ | (simp (decide := true) (disch := omega) only [go_sem, ↓reduceIte, ↓put_at, reduceCtorEq, Nat.reduceAdd, Nat.reduceSub, Nat.reduceMul, Int.reduceToNat, Int.reducePow, Int.reduceAdd, Int.reduceSub, Int.reduceMul, Int.reduceNeg, Nat.min_eq_left, Nat.min_eq_right, Int.max_eq_left, Int.max_eq_right, Int.min_eq_left, Int.min_eq_right, Nat.reduceLeDiff])))
      refine call_s Try.call76 c3 [(8, 0)] ?_
      (repeat (first | refine aw_seq ?_ | refine aw_block ?_ | refine aw_reg hC (by kernel_rfl) ?_ | refine aw_regd hC Try.checked.mixed (by kernel_rfl) ?_ | refine chk_and (by kernel_rfl) ?_ | refine aw_skip ?_ | refine aw_if ?_ | refine And.intro (by first | omega | with_reducible assumption) ?_ | refine aw_exit ?_ | refine aw_ret ?_ | (simp (decide := true) (disch := omega) only [go_sem, ↓reduceIte, ↓put_at, reduceCtorEq, Nat.reduceAdd, Nat.reduceSub, Nat.reduceMul, Int.reduceToNat, Int.reducePow, Int.reduceAdd, Int.reduceSub, Int.reduceMul, Int.reduceNeg, Nat.min_eq_left, Nat.min_eq_right, Int.max_eq_left, Int.max_eq_right, Int.min_eq_left, Int.min_eq_right, Nat.reduceLeDiff])))
      refine next_s ⟨(j + 1, nx 4 x, acc ++ [vl 4 x]), hlt, hnl, by simp [hac], by dsimp only; rw [hm2, List.append_assoc]; exact hb1, by dsimp only; rw [hm2]; exact hb2⟩ ⟨?_, by dsimp only; omega⟩
      simp (decide := true) (disch := omega) only [go_sem, ↓reduceIte, ↓put_at, reduceCtorEq, Nat.reduceAdd, Nat.reduceSub, Nat.reduceMul, Int.reduceToNat, Int.reducePow, Int.reduceAdd, Int.reduceSub, Int.reduceMul, Int.reduceNeg, Nat.min_eq_left, Nat.min_eq_right, Int.max_eq_left, Int.max_eq_right, Int.min_eq_left, Int.min_eq_right, Nat.reduceLeDiff]
      rw [List.map_append]; rfl
    · have hjN : N - j = 0 := by omega
      rw [hjN] at hb1 hb2
      simp only [rdWs, nxWs, List.append_nil] at hb1 hb2
      clear hSS hXF
      subst hb1 hb2
      by_cases hx0 : x.1 = []
      · rw [if_pos hx0] at hRE
        subst hRE
        have hx0' : x.1.length = 0 := by rw [hx0]; rfl
        (repeat (first | refine aw_seq ?_ | refine aw_block ?_ | refine aw_reg hC (by kernel_rfl) ?_ | refine aw_regd hC Try.checked.mixed (by kernel_rfl) ?_ | refine chk_and (by kernel_rfl) ?_ | refine aw_skip ?_ | refine aw_if ?_ | refine And.intro (by first | omega | with_reducible assumption) ?_ | refine aw_exit ?_ | refine aw_ret ?_ | (simp (decide := true) (disch := omega) only [go_sem, ↓reduceIte, ↓put_at, reduceCtorEq, Nat.reduceAdd, Nat.reduceSub, Nat.reduceMul, Int.reduceToNat, Int.reducePow, Int.reduceAdd, Int.reduceSub, Int.reduceMul, Int.reduceNeg, Nat.min_eq_left, Nat.min_eq_right, Int.max_eq_left, Int.max_eq_right, Int.min_eq_left, Int.min_eq_right, Nat.reduceLeDiff])))
        refine call_s Try.call77 (in_left x.1 x.2) [(8, 0)] ?_
        (repeat (first | refine aw_seq ?_ | refine aw_block ?_ | refine aw_reg hC (by kernel_rfl) ?_ | refine aw_regd hC Try.checked.mixed (by kernel_rfl) ?_ | refine chk_and (by kernel_rfl) ?_ | refine aw_skip ?_ | refine aw_if ?_ | refine And.intro (by first | omega | with_reducible assumption) ?_ | refine aw_exit ?_ | refine aw_ret ?_ | (simp (decide := true) (disch := omega) only [go_sem, ↓reduceIte, ↓put_at, reduceCtorEq, Nat.reduceAdd, Nat.reduceSub, Nat.reduceMul, Int.reduceToNat, Int.reducePow, Int.reduceAdd, Int.reduceSub, Int.reduceMul, Int.reduceNeg, Nat.min_eq_left, Nat.min_eq_right, Int.max_eq_left, Int.max_eq_right, Int.min_eq_left, Int.min_eq_right, Nat.reduceLeDiff])))
        refine call_s Try.call26 c1 [] ?_
        (repeat (first | refine aw_seq ?_ | refine aw_block ?_ | refine aw_reg hC (by kernel_rfl) ?_ | refine aw_regd hC Try.checked.mixed (by kernel_rfl) ?_ | refine chk_and (by kernel_rfl) ?_ | refine aw_skip ?_ | refine aw_if ?_ | refine And.intro (by first | omega | with_reducible assumption) ?_ | refine aw_exit ?_ | refine aw_ret ?_ | (simp (decide := true) (disch := omega) only [go_sem, ↓reduceIte, ↓put_at, reduceCtorEq, Nat.reduceAdd, Nat.reduceSub, Nat.reduceMul, Int.reduceToNat, Int.reducePow, Int.reduceAdd, Int.reduceSub, Int.reduceMul, Int.reduceNeg, Nat.min_eq_left, Nat.min_eq_right, Int.max_eq_left, Int.max_eq_right, Int.min_eq_left, Int.min_eq_right, Nat.reduceLeDiff])))
        refine call_s Try.call80 c2 [] ?_
        (repeat (first | refine aw_seq ?_ | refine aw_block ?_ | refine aw_reg hC (by kernel_rfl) ?_ | refine aw_regd hC Try.checked.mixed (by kernel_rfl) ?_ | refine chk_and (by kernel_rfl) ?_ | refine aw_skip ?_ | refine aw_if ?_ | refine And.intro (by first | omega | with_reducible assumption) ?_ | refine aw_exit ?_ | refine aw_ret ?_ | (simp (decide := true) (disch := omega) only [go_sem, ↓reduceIte, ↓put_at, reduceCtorEq, Nat.reduceAdd, Nat.reduceSub, Nat.reduceMul, Int.reduceToNat, Int.reducePow, Int.reduceAdd, Int.reduceSub, Int.reduceMul, Int.reduceNeg, Nat.min_eq_left, Nat.min_eq_right, Int.max_eq_left, Int.max_eq_right, Int.min_eq_left, Int.min_eq_right, Nat.reduceLeDiff])))
        (refine ret_s [] ?_; simp (decide := true) (disch := omega) only [go_sem, ↓reduceIte, ↓put_at, reduceCtorEq, Nat.reduceAdd, Nat.reduceSub, Nat.reduceMul, Int.reduceToNat, Int.reducePow, Int.reduceAdd, Int.reduceSub, Int.reduceMul, Int.reduceNeg, Nat.min_eq_left, Nat.min_eq_right, Int.max_eq_left, Int.max_eq_right, Int.min_eq_left, Int.min_eq_right, Nat.reduceLeDiff])
      · rw [if_neg hx0] at hRE
        have hx0' : 0 < x.1.length := List.length_pos_iff.2 hx0
        have v1 := vl_lt 1 256 x (by decide)
        have c4 := rd8 x hxl'
        have hnl := Nat.le_trans (nx_len 1 x) hxl'
        have c5 := in_raw (nx 1 x).1 (nx 1 x).2 (vl 1 x) hnl (by unfold maxLen; omega)
        rw [← hRE] at c5
        (repeat (first | refine aw_seq ?_ | refine aw_block ?_ | refine aw_reg hC (by kernel_rfl) ?_ | refine aw_regd hC Try.checked.mixed (by kernel_rfl) ?_ | refine chk_and (by kernel_rfl) ?_ | refine aw_skip ?_ | refine aw_if ?_ | refine And.intro (by first | omega | with_reducible assumption) ?_ | refine aw_exit ?_ | refine aw_ret ?_ | (simp (decide := true) (disch := omega) only [go_sem, ↓reduceIte, ↓put_at, reduceCtorEq, Nat.reduceAdd, Nat.reduceSub, Nat.reduceMul, Int.reduceToNat, Int.reducePow, Int.reduceAdd, Int.reduceSub, Int.reduceMul, Int.reduceNeg, Nat.min_eq_left, Nat.min_eq_right, Int.max_eq_left, Int.max_eq_right, Int.min_eq_left, Int.min_eq_right, Nat.reduceLeDiff])))
        refine call_s Try.call77 (in_left x.1 x.2) [(8, 0)] ?_
        (repeat (first | refine aw_seq ?_ | refine aw_block ?_ | refine aw_reg hC (by kernel_rfl) ?_ | refine aw_regd hC Try.checked.mixed (by kernel_rfl) ?_ | refine chk_and (by kernel_rfl) ?_ | refine aw_skip ?_ | refine aw_if ?_ | refine And.intro (by first | omega | with_reducible assumption) ?_ | refine aw_exit ?_ | refine aw_ret ?_ | (simp (decide := true) (disch := omega) only [go_sem, ↓reduceIte, ↓put_at, reduceCtorEq, Nat.reduceAdd, Nat.reduceSub, Nat.reduceMul, Int.reduceToNat, Int.reducePow, Int.reduceAdd, Int.reduceSub, Int.reduceMul, Int.reduceNeg, Nat.min_eq_left, Nat.min_eq_right, Int.max_eq_left, Int.max_eq_right, Int.min_eq_left, Int.min_eq_right, Nat.reduceLeDiff])))
        refine call_s Try.call79 c4 [(8, 0)] ?_
        (repeat (first | refine aw_seq ?_ | refine aw_block ?_ | refine aw_reg hC (by kernel_rfl) ?_ | refine aw_regd hC Try.checked.mixed (by kernel_rfl) ?_ | refine chk_and (by kernel_rfl) ?_ | refine aw_skip ?_ | refine aw_if ?_ | refine And.intro (by first | omega | with_reducible assumption) ?_ | refine aw_exit ?_ | refine aw_ret ?_ | (simp (decide := true) (disch := omega) only [go_sem, ↓reduceIte, ↓put_at, reduceCtorEq, Nat.reduceAdd, Nat.reduceSub, Nat.reduceMul, Int.reduceToNat, Int.reducePow, Int.reduceAdd, Int.reduceSub, Int.reduceMul, Int.reduceNeg, Nat.min_eq_left, Nat.min_eq_right, Int.max_eq_left, Int.max_eq_right, Int.min_eq_left, Int.min_eq_right, Nat.reduceLeDiff])))
        refine call_s Try.call78 c5 [(8, 0)] ?_
        (repeat (first | refine aw_seq ?_ | refine aw_block ?_ | refine aw_reg hC (by kernel_rfl) ?_ | refine aw_regd hC Try.checked.mixed (by kernel_rfl) ?_ | refine chk_and (by kernel_rfl) ?_ | refine aw_skip ?_ | refine aw_if ?_ | refine And.intro (by first | omega | with_reducible assumption) ?_ | refine aw_exit ?_ | refine aw_ret ?_ | (simp (decide := true) (disch := omega) only [go_sem, ↓reduceIte, ↓put_at, reduceCtorEq, Nat.reduceAdd, Nat.reduceSub, Nat.reduceMul, Int.reduceToNat, Int.reducePow, Int.reduceAdd, Int.reduceSub, Int.reduceMul, Int.reduceNeg, Nat.min_eq_left, Nat.min_eq_right, Int.max_eq_left, Int.max_eq_right, Int.min_eq_left, Int.min_eq_right, Nat.reduceLeDiff])))
        refine call_s Try.call26 c1 [] ?_
        (repeat (first | refine aw_seq ?_ | refine aw_block ?_ | refine aw_reg hC (by kernel_rfl) ?_ | refine aw_regd hC Try.checked.mixed (by kernel_rfl) ?_ | refine chk_and (by kernel_rfl) ?_ | refine aw_skip ?_ | refine aw_if ?_ | refine And.intro (by first | omega | with_reducible assumption) ?_ | refine aw_exit ?_ | refine aw_ret ?_ | (simp (decide := true) (disch := omega) only [go_sem, ↓reduceIte, ↓put_at, reduceCtorEq, Nat.reduceAdd, Nat.reduceSub, Nat.reduceMul, Int.reduceToNat, Int.reducePow, Int.reduceAdd, Int.reduceSub, Int.reduceMul, Int.reduceNeg, Nat.min_eq_left, Nat.min_eq_right, Int.max_eq_left, Int.max_eq_right, Int.min_eq_left, Int.min_eq_right, Nat.reduceLeDiff])))
        refine call_s Try.call80 c2 [] ?_
        (repeat (first | refine aw_seq ?_ | refine aw_block ?_ | refine aw_reg hC (by kernel_rfl) ?_ | refine aw_regd hC Try.checked.mixed (by kernel_rfl) ?_ | refine chk_and (by kernel_rfl) ?_ | refine aw_skip ?_ | refine aw_if ?_ | refine And.intro (by first | omega | with_reducible assumption) ?_ | refine aw_exit ?_ | refine aw_ret ?_ | (simp (decide := true) (disch := omega) only [go_sem, ↓reduceIte, ↓put_at, reduceCtorEq, Nat.reduceAdd, Nat.reduceSub, Nat.reduceMul, Int.reduceToNat, Int.reducePow, Int.reduceAdd, Int.reduceSub, Int.reduceMul, Int.reduceNeg, Nat.min_eq_left, Nat.min_eq_right, Int.max_eq_left, Int.max_eq_right, Int.min_eq_left, Int.min_eq_right, Nat.reduceLeDiff])))
        (refine ret_s [] ?_; simp (decide := true) (disch := omega) only [go_sem, ↓reduceIte, ↓put_at, reduceCtorEq, Nat.reduceAdd, Nat.reduceSub, Nat.reduceMul, Int.reduceToNat, Int.reducePow, Int.reduceAdd, Int.reduceSub, Int.reduceMul, Int.reduceNeg, Nat.min_eq_left, Nat.min_eq_right, Int.max_eq_left, Int.max_eq_right, Int.min_eq_left, Int.min_eq_right, Nat.reduceLeDiff])
end Go.Proofs.Ytlhkhncdnaibgaa
