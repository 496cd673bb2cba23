
/- Package buffer: the times; walked. -/
import Derived.Test.YtekpaepkoeelfaaBuf3
namespace Go.Proofs.Ytekpaepkoeelfaa
open Go.RowKit
set_option linter.unusedVariables false
set_option linter.unusedSimpArgs false

set_option maxRecDepth 100000 in
set_option maxHeartbeats 4000000 in
theorem buf_times (b : Bu) (hf : ∀ f ∈ b.l, f.Ok) (hl : b.l.length ≤ 2000) : Spec Try.prog 13 [.ptr 0 0] [buO b] (.ca (.val (.lst 1 (b.l.map fun f => [vu f.tm])))) [buO b] := by
  obtain ⟨cf, cp, cb, l, hz, pl, dr, ev⟩ := b
  dsimp only at hf hl ⊢
  refine spec_of Try.func13 rfl Try.ntmps13 Try.results13 ⟨by decide, by simp⟩ fun C hC => ?_
  (repeat' ((fail_if_success (refine stop_reg 3 ?_)); (first | refine sp_ ?_ | exact ex0 | (refine ret_s [] ?_; simp (decide := true) (disch := omega) only [go_sem, ↓reduceIte, ↓put_at]))))
  refine own_s 3 (3, 1) 32 1 ?_
  simp (decide := true) (disch := omega) only [go_sem, ↓reduceIte, ↓put_at]
  refine spl_s (1000, 7) (90, 1) l frT 66 ⟨by simp (decide := true) (disch := omega) only [go_sem, ↓reduceIte, ↓put_at], by decide, by decide⟩ fun zs hzl => ?_
  have hlz : zs.length = l.length := by rw [← hzl, List.length_map]
  refine loop_s (α := {i : Nat // i ≤ l.length}) (fun i => [(.o (1000, 0), .num 11), (.c (1000, 0) 0, .av (.val (vi cf))), (.c (1000, 0) 1, .av (.val (vi cp))), (.c (1000, 0) 2, .av (.val (vi cb))), (.c (1000, 0) 3, .av (.val (vi l.length))), (.c (1000, 0) 4, .av (.val (vi (pkts l)))), (.c (1000, 0) 5, .av (.val (vi (bts l)))), (.c (1000, 0) 6, .av (.ref (1000, 7) 0)), (.c (1000, 0) 7, .av (.val (vi hz))), (.c (1000, 0) 8, .av (.val (vi pl))), (.c (1000, 0) 9, .av (.val (vi dr))), (.c (1000, 0) 10, .av (.val (vi ev))), (.r (1000, 7), .tree (.rw 66 1 (zs.map fun z => [V.sc (pw z.1)]))), (.r (90, 1), .tree (.bag (zs.map fun z => (pw z.1, T.box (frT z.2))))), (.k (3, 1), .row 32 1 (l.take i.1).length), (.s 3, .av (.own (3, 1) 0 32 1 ((l.take i.1).map fun f => [vu f.tm]))), (.s 9, .av (.ref (1000, 7) 0)), (.s 10, .av (.val (vi l.length))), (.s 11, .av (.val (vi i.1)))]) (fun i => l.length - i.1) ⟨0, Nat.zero_le _⟩ ?_ (fun i => ?_)
  · rw [List.take_zero]
    simp (decide := true) (disch := omega) only [go_sem, ↓reduceIte, ↓put_at]
  obtain ⟨i, hi⟩ := i
  dsimp only at hi ⊢
  by_cases hlt : i < l.length
  · obtain ⟨b0, hb0⟩ := zs_at hzl hlt
    obtain ⟨j1, j2, j3, j4, j5⟩ := zs_set hb0
    have hof := hf _ (List.getElem_mem hlt)
    have hft := hof.tm
    have htk : l.take (i + 1) = l.take i ++ [l[i]] := List.take_succ_eq_append_getElem hlt
    have htl : (l.take i).length = i := by rw [List.length_take]; omega
    generalize l[i] = f at *
    have ct := spl_time f
    have hltz : (i : Int) < l.length := by omega
    refine opn_s hC (90, 1) 14 i [14, 21] [] (pw b0) (zs.map fun z => (pw z.1, T.box (frT z.2))) ((zs.map fun z => (pw z.1, T.box (frT z.2))).set i (pw b0, .av .any)) (frT f) j1 rfl ⟨rfl, rfl⟩ ⟨by simp (decide := true) (disch := omega) only [go_sem, ↓reduceIte, ↓put_at], ?_⟩
    (repeat' ((fail_if_success (first | refine stop_at 5 ?_ | refine stop_l 5 ?_)); (first | refine sp_ ?_ | exact ex0 | (refine ret_s [] ?_; simp (decide := true) (disch := omega) only [go_sem, ↓reduceIte, ↓put_at]))))
    refine ⟨⟨by omega, by rw [(List.getElem?_eq_some_iff.1 hb0).2]⟩, ?_⟩
    (repeat' ((fail_if_success (first | refine stop_at 6 ?_ | refine stop_l 6 ?_)); (first | refine sp_ ?_ | exact ex0 | refine call_u Try.call28 (ct) [(14, 0)] ex1 ?_ | (refine ret_s [] ?_; simp (decide := true) (disch := omega) only [go_sem, ↓reduceIte, ↓put_at]))))
    refine cls_s hC (90, 1) (14, 0) i 21 [] (pw b0) ((zs.map fun z => (pw z.1, T.box (frT z.2))).set i (pw b0, .av .any)) (zs.map fun z => (pw z.1, T.box (frT z.2))) .any (frT f) j3 (by rw [List.set_set]; exact set_self j1) rfl ⟨by simp (decide := true) (disch := omega) only [go_sem, ↓reduceIte, ↓put_at], ?_⟩
    (repeat' ((first | refine sp_ ?_ | exact ex0 | (refine ret_s [] ?_; simp (decide := true) (disch := omega) only [go_sem, ↓reduceIte, ↓put_at]))))
    refine next_s (α := {i : Nat // i ≤ l.length}) ⟨i + 1, hlt⟩ ⟨?_, by (try dsimp only); omega⟩
    (try dsimp only)
    rw [htk]
    simp (decide := true) (disch := omega) only [go_sem, ↓reduceIte, ↓put_at]
    rw [List.map_append]
    first | rfl | exact ⟨rfl, rfl⟩ | (refine ⟨?_, rfl⟩; omega)
  · obtain rfl : i = l.length := by omega
    rw [List.take_length]
    (repeat' ((fail_if_success (refine stop_ret ?_)); (first | refine sp_ ?_ | exact ex0 | (refine ret_s [] ?_; simp (decide := true) (disch := omega) only [go_sem, ↓reduceIte, ↓put_at]))))
    refine joi_s (1000, 7) (90, 1) 66 (zs.map fun z => (pw z.1, T.box (frT z.2))) (zs.map fun z => [V.sc (pw z.1)]) (l.map fun f => [T.box (frT f)]) (by rw [List.map_map]; rfl) (by rw [← hzl, List.map_map, List.map_map]; rfl) ⟨by simp (decide := true) (disch := omega) only [go_sem, ↓reduceIte, ↓put_at], ?_⟩
    (repeat' ((first | refine sp_ ?_ | exact ex0 | (refine ret_s [] ?_; simp (decide := true) (disch := omega) only [go_sem, ↓reduceIte, ↓put_at]))))
end Go.Proofs.Ytekpaepkoeelfaa
