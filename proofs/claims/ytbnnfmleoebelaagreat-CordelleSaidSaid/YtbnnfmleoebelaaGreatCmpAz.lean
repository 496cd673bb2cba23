/- Layer 12: pieces again, of what was said; walked. -/
import Derived.Test.YtbnnfmleoebelaaGreatCmp8z
namespace Go.Proofs.YtbnnfmleoebelaaGreat
open Go.RowKit
set_option linter.unusedVariables false
set_option linter.unusedSimpArgs false

theorem each_snoc {α : Type} (f : α → Pc) (xs : List α) (x : α) : eachP f (xs ++ [x]) = eachP f xs ++ (if f x = noPc then [] else [f x]) := by
  unfold eachP
  rw [List.map_append, List.filter_append]
  congr 1
  rw [List.map_cons, List.map_nil, List.filter_cons, List.filter_nil]
  by_cases h : f x = noPc
  · rw [if_pos h, if_neg (by simp [h])]
  · rw [if_neg h, if_pos (by simp [h])]
theorem each_le {α : Type} (f : α → Pc) (xs : List α) : (eachP f xs).length ≤ xs.length := by
  unfold eachP
  exact Nat.le_trans (List.length_filter_le _ _) (by rw [List.length_map]; exact Nat.le_refl _)
def okR8 (x : R8) : Prop := x.Ok ∧ x.bs.length ≤ 9223372036854775807
def okY9 (x : Y9) : Prop := x.Ok
def okA9 (x : A9) : Prop := x.Ok
def okN10 (x : N10) : Prop := x.Ok ∧ x.ps.length ≤ maxLen
def okR11 (x : R11) : Prop := (0 ≤ x.src ∧ x.src < 4294967296) ∧ (∀ y ∈ x.all, y.Ok) ∧ x.all.length ≤ maxLen
def okS11 (x : S11) : Prop := (0 ≤ x.src ∧ x.src < 4294967296) ∧ x.all.length ≤ maxLen
set_option maxRecDepth 100000 in
set_option maxHeartbeats 16000000 in
theorem each_R8 (es : List (List V)) (xs : List R8) (hok : ∀ x ∈ xs, okR8 x) (hl : es.length + xs.length ≤ 1000000) : Spec Tryz.prog 19 [.ca (.own 67 3 es), .ca (.val (.lst 7 (xs.map r8El)))] [] (.ca (.own 67 3 (es ++ (eachP pieceR xs).map pcEl))) [] := by
  refine spec_of Tryz.func19 rfl Tryz.ntmps19 Tryz.results19 ⟨by decide, by simp⟩ fun C hC => ?_
  (repeat' ((fail_if_success (refine stop_reg 2 ?_)); (first | refine sp_ ?_ | exact ex0 | (refine ret_s [] ?_; simp (decide := true) (disch := omega) only [go_sem, ↓reduceIte, ↓put_at]))))
  refine loop_s (α := {j : Nat // j ≤ xs.length}) (fun j => [(.s 0, .av (.own (0, 0) 0 67 3 (es ++ (eachP pieceR (xs.take j.1)).map pcEl))), (.k (0, 0), .row 67 3 (es ++ (eachP pieceR (xs.take j.1)).map pcEl).length), (.s 4, .av (.val (.sc (.slice none 0 0)))), (.s 8, .av (.val (.lst 7 (xs.map r8El)))), (.s 9, .av (.val (vi xs.length))), (.s 10, .av (.val (vi j.1)))]) (fun j => xs.length - j.1) ⟨0, Nat.zero_le _⟩ ?_ (fun j => ?_)
  · (try dsimp only)
    rw [show (eachP pieceR (xs.take 0)).map pcEl = [] from rfl, List.append_nil]
    simp (decide := true) (disch := omega) only [go_sem, ↓reduceIte, ↓put_at]
  · obtain ⟨j, hj⟩ := j
    dsimp only at hj ⊢
    have hel := each_le pieceR (xs.take j)
    rw [List.length_take, Nat.min_eq_left hj] at hel
    have hml : (es ++ (eachP pieceR (xs.take j)).map pcEl).length ≤ es.length + j := by rw [List.length_append, List.length_map]; omega
    by_cases hlt : j < xs.length
    · have hge : (xs.map r8El).getD j [] = r8El xs[j] := by simp [hlt]
      have hnx : es ++ (eachP pieceR (xs.take (j + 1))).map pcEl = (es ++ (eachP pieceR (xs.take j)).map pcEl) ++ (if pieceR xs[j] = noPc then [] else [pcEl (pieceR xs[j])]) := by
        rw [List.take_succ_eq_append_getElem hlt, each_snoc, List.map_append, List.append_assoc]
        congr 2
        split
        · rfl
        · rfl
      have h := hok _ (List.getElem_mem hlt)
      generalize es ++ (eachP pieceR (xs.take j)).map pcEl = M at *
      obtain ⟨M2, hM2⟩ : ∃ M2, M2 = es ++ (eachP pieceR (xs.take (j + 1))).map pcEl := ⟨_, rfl⟩
      rw [← hM2] at hnx
      have hM2l : M2.length = es.length + (eachP pieceR (xs.take (j + 1))).length := by rw [hM2, List.length_append, List.length_map]
      generalize hx : xs[j] = x at *
      have c1 := report_piece x h.1 h.2
      generalize pieceR x = p at *
      obtain ⟨pc, pk, pb⟩ := p
      have hcm := pp_ne pc 0 pk 0 pb []
      by_cases hp : (pc, pk, pb) = noPc
      · rw [if_pos hp, List.append_nil] at hnx
        unfold noPc at hp
        simp only [Prod.mk.injEq] at hp
        rw [decide_eq_true hp] at hcm
        (repeat' ((first | refine sp_ ?_ | exact ex0 | (refine ret_s [] ?_; simp (decide := true) (disch := omega) only [go_sem, ↓reduceIte, ↓put_at]))))
        simp only [hx]
        refine mkI_s (by kernel_rfl) ?_
        (repeat' ((first | refine sp_ ?_ | exact ex0 | (refine ret_s [] ?_; simp (decide := true) (disch := omega) only [go_sem, ↓reduceIte, ↓put_at]))))
        refine inv_u Tryz.call121 27 (.agg (r8El x)) ⟨_, Tryz.underlying27, fun e h => by cases h⟩ (by kernel_rfl) c1 [] (by simp (decide := true) (disch := omega) only [go_sem, ↓reduceIte, ↓put_at]) ?_
        (repeat' ((first | refine sp_ ?_ | exact ex0 | (refine ret_s [] ?_; simp (decide := true) (disch := omega) only [go_sem, ↓reduceIte, ↓put_at]))))
        refine cmpA_s _ _ _ (.inr rfl) (by simp (decide := true) (disch := omega) only [go_sem, ↓reduceIte, ↓put_at]) (by simp (decide := true) (disch := omega) only [go_sem, ↓reduceIte, ↓put_at]) (by kernel_rfl) hcm ?_
        (repeat' ((first | refine sp_ ?_ | exact ex0 | (refine ret_s [] ?_; simp (decide := true) (disch := omega) only [go_sem, ↓reduceIte, ↓put_at]))))
        refine next_s (α := {j : Nat // j ≤ xs.length}) ⟨j + 1, hlt⟩ ⟨?_, by (try dsimp only); omega⟩
        (try dsimp only)
        rw [← hM2, hnx]
        simp (decide := true) (disch := omega) only [go_sem, ↓reduceIte, ↓put_at]
        rw [← hM2l, hnx]
      · rw [if_neg hp] at hnx
        unfold noPc at hp
        simp only [Prod.mk.injEq] at hp
        rw [decide_eq_false hp] at hcm
        (repeat' ((first | refine sp_ ?_ | exact ex0 | (refine ret_s [] ?_; simp (decide := true) (disch := omega) only [go_sem, ↓reduceIte, ↓put_at]))))
        simp only [hx]
        refine mkI_s (by kernel_rfl) ?_
        (repeat' ((first | refine sp_ ?_ | exact ex0 | (refine ret_s [] ?_; simp (decide := true) (disch := omega) only [go_sem, ↓reduceIte, ↓put_at]))))
        refine inv_u Tryz.call121 27 (.agg (r8El x)) ⟨_, Tryz.underlying27, fun e h => by cases h⟩ (by kernel_rfl) c1 [] (by simp (decide := true) (disch := omega) only [go_sem, ↓reduceIte, ↓put_at]) ?_
        (repeat' ((first | refine sp_ ?_ | exact ex0 | (refine ret_s [] ?_; simp (decide := true) (disch := omega) only [go_sem, ↓reduceIte, ↓put_at]))))
        refine cmpA_s _ _ _ (.inr rfl) (by simp (decide := true) (disch := omega) only [go_sem, ↓reduceIte, ↓put_at]) (by simp (decide := true) (disch := omega) only [go_sem, ↓reduceIte, ↓put_at]) (by kernel_rfl) hcm ?_
        (repeat' ((first | refine sp_ ?_ | exact ex0 | (refine ret_s [] ?_; simp (decide := true) (disch := omega) only [go_sem, ↓reduceIte, ↓put_at]))))
        refine next_s (α := {j : Nat // j ≤ xs.length}) ⟨j + 1, hlt⟩ ⟨?_, by (try dsimp only); omega⟩
        (try dsimp only)
        rw [← hM2, hnx]
        simp (decide := true) (disch := omega) only [go_sem, ↓reduceIte, ↓put_at]
        rw [← hM2l, hnx, List.length_append]
        rfl
    · obtain rfl : j = xs.length := by omega
      simp only [List.take_length]
      (repeat' ((first | refine sp_ ?_ | exact ex0 | (refine ret_s [] ?_; simp (decide := true) (disch := omega) only [go_sem, ↓reduceIte, ↓put_at]))))
set_option maxRecDepth 100000 in
set_option maxHeartbeats 16000000 in
theorem each_Y9 (es : List (List V)) (xs : List Y9) (hok : ∀ x ∈ xs, okY9 x) (hl : es.length + xs.length ≤ 1000000) : Spec Tryz.prog 21 [.ca (.own 67 3 es), .ca (.val (.lst 2 (xs.map y9El)))] [] (.ca (.own 67 3 (es ++ (eachP byeP xs).map pcEl))) [] := by
  refine spec_of Tryz.func21 rfl Tryz.ntmps21 Tryz.results21 ⟨by decide, by simp⟩ fun C hC => ?_
  (repeat' ((fail_if_success (refine stop_reg 2 ?_)); (first | refine sp_ ?_ | exact ex0 | (refine ret_s [] ?_; simp (decide := true) (disch := omega) only [go_sem, ↓reduceIte, ↓put_at]))))
  refine loop_s (α := {j : Nat // j ≤ xs.length}) (fun j => [(.s 0, .av (.own (0, 0) 0 67 3 (es ++ (eachP byeP (xs.take j.1)).map pcEl))), (.k (0, 0), .row 67 3 (es ++ (eachP byeP (xs.take j.1)).map pcEl).length), (.s 4, .av (.val (.sc (.slice none 0 0)))), (.s 8, .av (.val (.lst 2 (xs.map y9El)))), (.s 9, .av (.val (vi xs.length))), (.s 10, .av (.val (vi j.1)))]) (fun j => xs.length - j.1) ⟨0, Nat.zero_le _⟩ ?_ (fun j => ?_)
  · (try dsimp only)
    rw [show (eachP byeP (xs.take 0)).map pcEl = [] from rfl, List.append_nil]
    simp (decide := true) (disch := omega) only [go_sem, ↓reduceIte, ↓put_at]
  · obtain ⟨j, hj⟩ := j
    dsimp only at hj ⊢
    have hel := each_le byeP (xs.take j)
    rw [List.length_take, Nat.min_eq_left hj] at hel
    have hml : (es ++ (eachP byeP (xs.take j)).map pcEl).length ≤ es.length + j := by rw [List.length_append, List.length_map]; omega
    by_cases hlt : j < xs.length
    · have hge : (xs.map y9El).getD j [] = y9El xs[j] := by simp [hlt]
      have hnx : es ++ (eachP byeP (xs.take (j + 1))).map pcEl = (es ++ (eachP byeP (xs.take j)).map pcEl) ++ (if byeP xs[j] = noPc then [] else [pcEl (byeP xs[j])]) := by
        rw [List.take_succ_eq_append_getElem hlt, each_snoc, List.map_append, List.append_assoc]
        congr 2
        split
        · rfl
        · rfl
      have h := hok _ (List.getElem_mem hlt)
      generalize es ++ (eachP byeP (xs.take j)).map pcEl = M at *
      obtain ⟨M2, hM2⟩ : ∃ M2, M2 = es ++ (eachP byeP (xs.take (j + 1))).map pcEl := ⟨_, rfl⟩
      rw [← hM2] at hnx
      have hM2l : M2.length = es.length + (eachP byeP (xs.take (j + 1))).length := by rw [hM2, List.length_append, List.length_map]
      generalize hx : xs[j] = x at *
      have c1 := notes_bye x h
      generalize byeP x = p at *
      obtain ⟨pc, pk, pb⟩ := p
      have hcm := pp_ne pc 0 pk 0 pb []
      by_cases hp : (pc, pk, pb) = noPc
      · rw [if_pos hp, List.append_nil] at hnx
        unfold noPc at hp
        simp only [Prod.mk.injEq] at hp
        rw [decide_eq_true hp] at hcm
        (repeat' ((first | refine sp_ ?_ | exact ex0 | (refine ret_s [] ?_; simp (decide := true) (disch := omega) only [go_sem, ↓reduceIte, ↓put_at]))))
        simp only [hx]
        refine mkI_s (by kernel_rfl) ?_
        (repeat' ((first | refine sp_ ?_ | exact ex0 | (refine ret_s [] ?_; simp (decide := true) (disch := omega) only [go_sem, ↓reduceIte, ↓put_at]))))
        refine inv_u Tryz.call79 59 (.agg (y9El x)) ⟨_, Tryz.underlying59, fun e h => by cases h⟩ (by kernel_rfl) c1 [] (by simp (decide := true) (disch := omega) only [go_sem, ↓reduceIte, ↓put_at]) ?_
        (repeat' ((first | refine sp_ ?_ | exact ex0 | (refine ret_s [] ?_; simp (decide := true) (disch := omega) only [go_sem, ↓reduceIte, ↓put_at]))))
        refine cmpA_s _ _ _ (.inr rfl) (by simp (decide := true) (disch := omega) only [go_sem, ↓reduceIte, ↓put_at]) (by simp (decide := true) (disch := omega) only [go_sem, ↓reduceIte, ↓put_at]) (by kernel_rfl) hcm ?_
        (repeat' ((first | refine sp_ ?_ | exact ex0 | (refine ret_s [] ?_; simp (decide := true) (disch := omega) only [go_sem, ↓reduceIte, ↓put_at]))))
        refine next_s (α := {j : Nat // j ≤ xs.length}) ⟨j + 1, hlt⟩ ⟨?_, by (try dsimp only); omega⟩
        (try dsimp only)
        rw [← hM2, hnx]
        simp (decide := true) (disch := omega) only [go_sem, ↓reduceIte, ↓put_at]
        rw [← hM2l, hnx]
      · rw [if_neg hp] at hnx
        unfold noPc at hp
        simp only [Prod.mk.injEq] at hp
        rw [decide_eq_false hp] at hcm
        (repeat' ((first | refine sp_ ?_ | exact ex0 | (refine ret_s [] ?_; simp (decide := true) (disch := omega) only [go_sem, ↓reduceIte, ↓put_at]))))
        simp only [hx]
        refine mkI_s (by kernel_rfl) ?_
        (repeat' ((first | refine sp_ ?_ | exact ex0 | (refine ret_s [] ?_; simp (decide := true) (disch := omega) only [go_sem, ↓reduceIte, ↓put_at]))))
        refine inv_u Tryz.call79 59 (.agg (y9El x)) ⟨_, Tryz.underlying59, fun e h => by cases h⟩ (by kernel_rfl) c1 [] (by simp (decide := true) (disch := omega) only [go_sem, ↓reduceIte, ↓put_at]) ?_
        (repeat' ((first | refine sp_ ?_ | exact ex0 | (refine ret_s [] ?_; simp (decide := true) (disch := omega) only [go_sem, ↓reduceIte, ↓put_at]))))
        refine cmpA_s _ _ _ (.inr rfl) (by simp (decide := true) (disch := omega) only [go_sem, ↓reduceIte, ↓put_at]) (by simp (decide := true) (disch := omega) only [go_sem, ↓reduceIte, ↓put_at]) (by kernel_rfl) hcm ?_
        (repeat' ((first | refine sp_ ?_ | exact ex0 | (refine ret_s [] ?_; simp (decide := true) (disch := omega) only [go_sem, ↓reduceIte, ↓put_at]))))
        refine next_s (α := {j : Nat // j ≤ xs.length}) ⟨j + 1, hlt⟩ ⟨?_, by (try dsimp only); omega⟩
        (try dsimp only)
        rw [← hM2, hnx]
        simp (decide := true) (disch := omega) only [go_sem, ↓reduceIte, ↓put_at]
        rw [← hM2l, hnx, List.length_append]
        rfl
    · obtain rfl : j = xs.length := by omega
      simp only [List.take_length]
      (repeat' ((first | refine sp_ ?_ | exact ex0 | (refine ret_s [] ?_; simp (decide := true) (disch := omega) only [go_sem, ↓reduceIte, ↓put_at]))))
set_option maxRecDepth 100000 in
set_option maxHeartbeats 16000000 in
theorem each_A9 (es : List (List V)) (xs : List A9) (hok : ∀ x ∈ xs, okA9 x) (hl : es.length + xs.length ≤ 1000000) : Spec Tryz.prog 25 [.ca (.own 67 3 es), .ca (.val (.lst 4 (xs.map a9El)))] [] (.ca (.own 67 3 (es ++ (eachP appP xs).map pcEl))) [] := by
  refine spec_of Tryz.func25 rfl Tryz.ntmps25 Tryz.results25 ⟨by decide, by simp⟩ fun C hC => ?_
  (repeat' ((fail_if_success (refine stop_reg 2 ?_)); (first | refine sp_ ?_ | exact ex0 | (refine ret_s [] ?_; simp (decide := true) (disch := omega) only [go_sem, ↓reduceIte, ↓put_at]))))
  refine loop_s (α := {j : Nat // j ≤ xs.length}) (fun j => [(.s 0, .av (.own (0, 0) 0 67 3 (es ++ (eachP appP (xs.take j.1)).map pcEl))), (.k (0, 0), .row 67 3 (es ++ (eachP appP (xs.take j.1)).map pcEl).length), (.s 4, .av (.val (.sc (.slice none 0 0)))), (.s 8, .av (.val (.lst 4 (xs.map a9El)))), (.s 9, .av (.val (vi xs.length))), (.s 10, .av (.val (vi j.1)))]) (fun j => xs.length - j.1) ⟨0, Nat.zero_le _⟩ ?_ (fun j => ?_)
  · (try dsimp only)
    rw [show (eachP appP (xs.take 0)).map pcEl = [] from rfl, List.append_nil]
    simp (decide := true) (disch := omega) only [go_sem, ↓reduceIte, ↓put_at]
  · obtain ⟨j, hj⟩ := j
    dsimp only at hj ⊢
    have hel := each_le appP (xs.take j)
    rw [List.length_take, Nat.min_eq_left hj] at hel
    have hml : (es ++ (eachP appP (xs.take j)).map pcEl).length ≤ es.length + j := by rw [List.length_append, List.length_map]; omega
    by_cases hlt : j < xs.length
    · have hge : (xs.map a9El).getD j [] = a9El xs[j] := by simp [hlt]
      have hnx : es ++ (eachP appP (xs.take (j + 1))).map pcEl = (es ++ (eachP appP (xs.take j)).map pcEl) ++ (if appP xs[j] = noPc then [] else [pcEl (appP xs[j])]) := by
        rw [List.take_succ_eq_append_getElem hlt, each_snoc, List.map_append, List.append_assoc]
        congr 2
        split
        · rfl
        · rfl
      have h := hok _ (List.getElem_mem hlt)
      generalize es ++ (eachP appP (xs.take j)).map pcEl = M at *
      obtain ⟨M2, hM2⟩ : ∃ M2, M2 = es ++ (eachP appP (xs.take (j + 1))).map pcEl := ⟨_, rfl⟩
      rw [← hM2] at hnx
      have hM2l : M2.length = es.length + (eachP appP (xs.take (j + 1))).length := by rw [hM2, List.length_append, List.length_map]
      generalize hx : xs[j] = x at *
      have c1 := notes_app x h
      generalize appP x = p at *
      obtain ⟨pc, pk, pb⟩ := p
      have hcm := pp_ne pc 0 pk 0 pb []
      by_cases hp : (pc, pk, pb) = noPc
      · rw [if_pos hp, List.append_nil] at hnx
        unfold noPc at hp
        simp only [Prod.mk.injEq] at hp
        rw [decide_eq_true hp] at hcm
        (repeat' ((first | refine sp_ ?_ | exact ex0 | (refine ret_s [] ?_; simp (decide := true) (disch := omega) only [go_sem, ↓reduceIte, ↓put_at]))))
        simp only [hx]
        refine mkI_s (by kernel_rfl) ?_
        (repeat' ((first | refine sp_ ?_ | exact ex0 | (refine ret_s [] ?_; simp (decide := true) (disch := omega) only [go_sem, ↓reduceIte, ↓put_at]))))
        refine inv_u Tryz.call26 86 (.agg (a9El x)) ⟨_, Tryz.underlying86, fun e h => by cases h⟩ (by kernel_rfl) c1 [] (by simp (decide := true) (disch := omega) only [go_sem, ↓reduceIte, ↓put_at]) ?_
        (repeat' ((first | refine sp_ ?_ | exact ex0 | (refine ret_s [] ?_; simp (decide := true) (disch := omega) only [go_sem, ↓reduceIte, ↓put_at]))))
        refine cmpA_s _ _ _ (.inr rfl) (by simp (decide := true) (disch := omega) only [go_sem, ↓reduceIte, ↓put_at]) (by simp (decide := true) (disch := omega) only [go_sem, ↓reduceIte, ↓put_at]) (by kernel_rfl) hcm ?_
        (repeat' ((first | refine sp_ ?_ | exact ex0 | (refine ret_s [] ?_; simp (decide := true) (disch := omega) only [go_sem, ↓reduceIte, ↓put_at]))))
        refine next_s (α := {j : Nat // j ≤ xs.length}) ⟨j + 1, hlt⟩ ⟨?_, by (try dsimp only); omega⟩
        (try dsimp only)
        rw [← hM2, hnx]
        simp (decide := true) (disch := omega) only [go_sem, ↓reduceIte, ↓put_at]
        rw [← hM2l, hnx]
      · rw [if_neg hp] at hnx
        unfold noPc at hp
        simp only [Prod.mk.injEq] at hp
        rw [decide_eq_false hp] at hcm
        (repeat' ((first | refine sp_ ?_ | exact ex0 | (refine ret_s [] ?_; simp (decide := true) (disch := omega) only [go_sem, ↓reduceIte, ↓put_at]))))
        simp only [hx]
        refine mkI_s (by kernel_rfl) ?_
        (repeat' ((first | refine sp_ ?_ | exact ex0 | (refine ret_s [] ?_; simp (decide := true) (disch := omega) only [go_sem, ↓reduceIte, ↓put_at]))))
        refine inv_u Tryz.call26 86 (.agg (a9El x)) ⟨_, Tryz.underlying86, fun e h => by cases h⟩ (by kernel_rfl) c1 [] (by simp (decide := true) (disch := omega) only [go_sem, ↓reduceIte, ↓put_at]) ?_
        (repeat' ((first | refine sp_ ?_ | exact ex0 | (refine ret_s [] ?_; simp (decide := true) (disch := omega) only [go_sem, ↓reduceIte, ↓put_at]))))
        refine cmpA_s _ _ _ (.inr rfl) (by simp (decide := true) (disch := omega) only [go_sem, ↓reduceIte, ↓put_at]) (by simp (decide := true) (disch := omega) only [go_sem, ↓reduceIte, ↓put_at]) (by kernel_rfl) hcm ?_
        (repeat' ((first | refine sp_ ?_ | exact ex0 | (refine ret_s [] ?_; simp (decide := true) (disch := omega) only [go_sem, ↓reduceIte, ↓put_at]))))
        refine next_s (α := {j : Nat // j ≤ xs.length}) ⟨j + 1, hlt⟩ ⟨?_, by (try dsimp only); omega⟩
        (try dsimp only)
        rw [← hM2, hnx]
        simp (decide := true) (disch := omega) only [go_sem, ↓reduceIte, ↓put_at]
        rw [← hM2l, hnx, List.length_append]
        rfl
    · obtain rfl : j = xs.length := by omega
      simp only [List.take_length]
      (repeat' ((first | refine sp_ ?_ | exact ex0 | (refine ret_s [] ?_; simp (decide := true) (disch := omega) only [go_sem, ↓reduceIte, ↓put_at]))))
set_option maxRecDepth 100000 in
set_option maxHeartbeats 16000000 in
theorem each_N10 (es : List (List V)) (xs : List N10) (hok : ∀ x ∈ xs, okN10 x) (hl : es.length + xs.length ≤ 1000000) : Spec Tryz.prog 24 [.ca (.own 67 3 es), .ca (.val (.lst 3 (xs.map n10El)))] [] (.ca (.own 67 3 (es ++ (eachP nackP xs).map pcEl))) [] := by
  refine spec_of Tryz.func24 rfl Tryz.ntmps24 Tryz.results24 ⟨by decide, by simp⟩ fun C hC => ?_
  (repeat' ((fail_if_success (refine stop_reg 2 ?_)); (first | refine sp_ ?_ | exact ex0 | (refine ret_s [] ?_; simp (decide := true) (disch := omega) only [go_sem, ↓reduceIte, ↓put_at]))))
  refine loop_s (α := {j : Nat // j ≤ xs.length}) (fun j => [(.s 0, .av (.own (0, 0) 0 67 3 (es ++ (eachP nackP (xs.take j.1)).map pcEl))), (.k (0, 0), .row 67 3 (es ++ (eachP nackP (xs.take j.1)).map pcEl).length), (.s 4, .av (.val (.sc (.slice none 0 0)))), (.s 8, .av (.val (.lst 3 (xs.map n10El)))), (.s 9, .av (.val (vi xs.length))), (.s 10, .av (.val (vi j.1)))]) (fun j => xs.length - j.1) ⟨0, Nat.zero_le _⟩ ?_ (fun j => ?_)
  · (try dsimp only)
    rw [show (eachP nackP (xs.take 0)).map pcEl = [] from rfl, List.append_nil]
    simp (decide := true) (disch := omega) only [go_sem, ↓reduceIte, ↓put_at]
  · obtain ⟨j, hj⟩ := j
    dsimp only at hj ⊢
    have hel := each_le nackP (xs.take j)
    rw [List.length_take, Nat.min_eq_left hj] at hel
    have hml : (es ++ (eachP nackP (xs.take j)).map pcEl).length ≤ es.length + j := by rw [List.length_append, List.length_map]; omega
    by_cases hlt : j < xs.length
    · have hge : (xs.map n10El).getD j [] = n10El xs[j] := by simp [hlt]
      have hnx : es ++ (eachP nackP (xs.take (j + 1))).map pcEl = (es ++ (eachP nackP (xs.take j)).map pcEl) ++ (if nackP xs[j] = noPc then [] else [pcEl (nackP xs[j])]) := by
        rw [List.take_succ_eq_append_getElem hlt, each_snoc, List.map_append, List.append_assoc]
        congr 2
        split
        · rfl
        · rfl
      have h := hok _ (List.getElem_mem hlt)
      generalize es ++ (eachP nackP (xs.take j)).map pcEl = M at *
      obtain ⟨M2, hM2⟩ : ∃ M2, M2 = es ++ (eachP nackP (xs.take (j + 1))).map pcEl := ⟨_, rfl⟩
      rw [← hM2] at hnx
      have hM2l : M2.length = es.length + (eachP nackP (xs.take (j + 1))).length := by rw [hM2, List.length_append, List.length_map]
      generalize hx : xs[j] = x at *
      have c1 := nack_piece x h.1 h.2
      generalize nackP x = p at *
      obtain ⟨pc, pk, pb⟩ := p
      have hcm := pp_ne pc 0 pk 0 pb []
      by_cases hp : (pc, pk, pb) = noPc
      · rw [if_pos hp, List.append_nil] at hnx
        unfold noPc at hp
        simp only [Prod.mk.injEq] at hp
        rw [decide_eq_true hp] at hcm
        (repeat' ((first | refine sp_ ?_ | exact ex0 | (refine ret_s [] ?_; simp (decide := true) (disch := omega) only [go_sem, ↓reduceIte, ↓put_at]))))
        simp only [hx]
        refine mkI_s (by kernel_rfl) ?_
        (repeat' ((first | refine sp_ ?_ | exact ex0 | (refine ret_s [] ?_; simp (decide := true) (disch := omega) only [go_sem, ↓reduceIte, ↓put_at]))))
        refine inv_u Tryz.call125 53 (.agg (n10El x)) ⟨_, Tryz.underlying53, fun e h => by cases h⟩ (by kernel_rfl) c1 [] (by simp (decide := true) (disch := omega) only [go_sem, ↓reduceIte, ↓put_at]) ?_
        (repeat' ((first | refine sp_ ?_ | exact ex0 | (refine ret_s [] ?_; simp (decide := true) (disch := omega) only [go_sem, ↓reduceIte, ↓put_at]))))
        refine cmpA_s _ _ _ (.inr rfl) (by simp (decide := true) (disch := omega) only [go_sem, ↓reduceIte, ↓put_at]) (by simp (decide := true) (disch := omega) only [go_sem, ↓reduceIte, ↓put_at]) (by kernel_rfl) hcm ?_
        (repeat' ((first | refine sp_ ?_ | exact ex0 | (refine ret_s [] ?_; simp (decide := true) (disch := omega) only [go_sem, ↓reduceIte, ↓put_at]))))
        refine next_s (α := {j : Nat // j ≤ xs.length}) ⟨j + 1, hlt⟩ ⟨?_, by (try dsimp only); omega⟩
        (try dsimp only)
        rw [← hM2, hnx]
        simp (decide := true) (disch := omega) only [go_sem, ↓reduceIte, ↓put_at]
        rw [← hM2l, hnx]
      · rw [if_neg hp] at hnx
        unfold noPc at hp
        simp only [Prod.mk.injEq] at hp
        rw [decide_eq_false hp] at hcm
        (repeat' ((first | refine sp_ ?_ | exact ex0 | (refine ret_s [] ?_; simp (decide := true) (disch := omega) only [go_sem, ↓reduceIte, ↓put_at]))))
        simp only [hx]
        refine mkI_s (by kernel_rfl) ?_
        (repeat' ((first | refine sp_ ?_ | exact ex0 | (refine ret_s [] ?_; simp (decide := true) (disch := omega) only [go_sem, ↓reduceIte, ↓put_at]))))
        refine inv_u Tryz.call125 53 (.agg (n10El x)) ⟨_, Tryz.underlying53, fun e h => by cases h⟩ (by kernel_rfl) c1 [] (by simp (decide := true) (disch := omega) only [go_sem, ↓reduceIte, ↓put_at]) ?_
        (repeat' ((first | refine sp_ ?_ | exact ex0 | (refine ret_s [] ?_; simp (decide := true) (disch := omega) only [go_sem, ↓reduceIte, ↓put_at]))))
        refine cmpA_s _ _ _ (.inr rfl) (by simp (decide := true) (disch := omega) only [go_sem, ↓reduceIte, ↓put_at]) (by simp (decide := true) (disch := omega) only [go_sem, ↓reduceIte, ↓put_at]) (by kernel_rfl) hcm ?_
        (repeat' ((first | refine sp_ ?_ | exact ex0 | (refine ret_s [] ?_; simp (decide := true) (disch := omega) only [go_sem, ↓reduceIte, ↓put_at]))))
        refine next_s (α := {j : Nat // j ≤ xs.length}) ⟨j + 1, hlt⟩ ⟨?_, by (try dsimp only); omega⟩
        (try dsimp only)
        rw [← hM2, hnx]
        simp (decide := true) (disch := omega) only [go_sem, ↓reduceIte, ↓put_at]
        rw [← hM2l, hnx, List.length_append]
        rfl
    · obtain rfl : j = xs.length := by omega
      simp only [List.take_length]
      (repeat' ((first | refine sp_ ?_ | exact ex0 | (refine ret_s [] ?_; simp (decide := true) (disch := omega) only [go_sem, ↓reduceIte, ↓put_at]))))
set_option maxRecDepth 100000 in
set_option maxHeartbeats 16000000 in
theorem each_R11 (es : List (List V)) (xs : List R11) (hok : ∀ x ∈ xs, okR11 x) (hl : es.length + xs.length ≤ 1000000) : Spec Tryz.prog 23 [.ca (.own 67 3 es), .ca (.val (.lst 2 (xs.map r11El)))] [] (.ca (.own 67 3 (es ++ (eachP linesP xs).map pcEl))) [] := by
  refine spec_of Tryz.func23 rfl Tryz.ntmps23 Tryz.results23 ⟨by decide, by simp⟩ fun C hC => ?_
  (repeat' ((fail_if_success (refine stop_reg 2 ?_)); (first | refine sp_ ?_ | exact ex0 | (refine ret_s [] ?_; simp (decide := true) (disch := omega) only [go_sem, ↓reduceIte, ↓put_at]))))
  refine loop_s (α := {j : Nat // j ≤ xs.length}) (fun j => [(.s 0, .av (.own (0, 0) 0 67 3 (es ++ (eachP linesP (xs.take j.1)).map pcEl))), (.k (0, 0), .row 67 3 (es ++ (eachP linesP (xs.take j.1)).map pcEl).length), (.s 4, .av (.val (.sc (.slice none 0 0)))), (.s 8, .av (.val (.lst 2 (xs.map r11El)))), (.s 9, .av (.val (vi xs.length))), (.s 10, .av (.val (vi j.1)))]) (fun j => xs.length - j.1) ⟨0, Nat.zero_le _⟩ ?_ (fun j => ?_)
  · (try dsimp only)
    rw [show (eachP linesP (xs.take 0)).map pcEl = [] from rfl, List.append_nil]
    simp (decide := true) (disch := omega) only [go_sem, ↓reduceIte, ↓put_at]
  · obtain ⟨j, hj⟩ := j
    dsimp only at hj ⊢
    have hel := each_le linesP (xs.take j)
    rw [List.length_take, Nat.min_eq_left hj] at hel
    have hml : (es ++ (eachP linesP (xs.take j)).map pcEl).length ≤ es.length + j := by rw [List.length_append, List.length_map]; omega
    by_cases hlt : j < xs.length
    · have hge : (xs.map r11El).getD j [] = r11El xs[j] := by simp [hlt]
      have hnx : es ++ (eachP linesP (xs.take (j + 1))).map pcEl = (es ++ (eachP linesP (xs.take j)).map pcEl) ++ (if linesP xs[j] = noPc then [] else [pcEl (linesP xs[j])]) := by
        rw [List.take_succ_eq_append_getElem hlt, each_snoc, List.map_append, List.append_assoc]
        congr 2
        split
        · rfl
        · rfl
      have h := hok _ (List.getElem_mem hlt)
      generalize es ++ (eachP linesP (xs.take j)).map pcEl = M at *
      obtain ⟨M2, hM2⟩ : ∃ M2, M2 = es ++ (eachP linesP (xs.take (j + 1))).map pcEl := ⟨_, rfl⟩
      rw [← hM2] at hnx
      have hM2l : M2.length = es.length + (eachP linesP (xs.take (j + 1))).length := by rw [hM2, List.length_append, List.length_map]
      generalize hx : xs[j] = x at *
      have c1 := sub_lines x h.1 h.2.1 h.2.2
      generalize linesP x = p at *
      obtain ⟨pc, pk, pb⟩ := p
      have hcm := pp_ne pc 0 pk 0 pb []
      by_cases hp : (pc, pk, pb) = noPc
      · rw [if_pos hp, List.append_nil] at hnx
        unfold noPc at hp
        simp only [Prod.mk.injEq] at hp
        rw [decide_eq_true hp] at hcm
        (repeat' ((first | refine sp_ ?_ | exact ex0 | (refine ret_s [] ?_; simp (decide := true) (disch := omega) only [go_sem, ↓reduceIte, ↓put_at]))))
        simp only [hx]
        refine mkI_s (by kernel_rfl) ?_
        (repeat' ((first | refine sp_ ?_ | exact ex0 | (refine ret_s [] ?_; simp (decide := true) (disch := omega) only [go_sem, ↓reduceIte, ↓put_at]))))
        refine inv_u Tryz.call81 32 (.agg (r11El x)) ⟨_, Tryz.underlying32, fun e h => by cases h⟩ (by kernel_rfl) c1 [] (by simp (decide := true) (disch := omega) only [go_sem, ↓reduceIte, ↓put_at]) ?_
        (repeat' ((first | refine sp_ ?_ | exact ex0 | (refine ret_s [] ?_; simp (decide := true) (disch := omega) only [go_sem, ↓reduceIte, ↓put_at]))))
        refine cmpA_s _ _ _ (.inr rfl) (by simp (decide := true) (disch := omega) only [go_sem, ↓reduceIte, ↓put_at]) (by simp (decide := true) (disch := omega) only [go_sem, ↓reduceIte, ↓put_at]) (by kernel_rfl) hcm ?_
        (repeat' ((first | refine sp_ ?_ | exact ex0 | (refine ret_s [] ?_; simp (decide := true) (disch := omega) only [go_sem, ↓reduceIte, ↓put_at]))))
        refine next_s (α := {j : Nat // j ≤ xs.length}) ⟨j + 1, hlt⟩ ⟨?_, by (try dsimp only); omega⟩
        (try dsimp only)
        rw [← hM2, hnx]
        simp (decide := true) (disch := omega) only [go_sem, ↓reduceIte, ↓put_at]
        rw [← hM2l, hnx]
      · rw [if_neg hp] at hnx
        unfold noPc at hp
        simp only [Prod.mk.injEq] at hp
        rw [decide_eq_false hp] at hcm
        (repeat' ((first | refine sp_ ?_ | exact ex0 | (refine ret_s [] ?_; simp (decide := true) (disch := omega) only [go_sem, ↓reduceIte, ↓put_at]))))
        simp only [hx]
        refine mkI_s (by kernel_rfl) ?_
        (repeat' ((first | refine sp_ ?_ | exact ex0 | (refine ret_s [] ?_; simp (decide := true) (disch := omega) only [go_sem, ↓reduceIte, ↓put_at]))))
        refine inv_u Tryz.call81 32 (.agg (r11El x)) ⟨_, Tryz.underlying32, fun e h => by cases h⟩ (by kernel_rfl) c1 [] (by simp (decide := true) (disch := omega) only [go_sem, ↓reduceIte, ↓put_at]) ?_
        (repeat' ((first | refine sp_ ?_ | exact ex0 | (refine ret_s [] ?_; simp (decide := true) (disch := omega) only [go_sem, ↓reduceIte, ↓put_at]))))
        refine cmpA_s _ _ _ (.inr rfl) (by simp (decide := true) (disch := omega) only [go_sem, ↓reduceIte, ↓put_at]) (by simp (decide := true) (disch := omega) only [go_sem, ↓reduceIte, ↓put_at]) (by kernel_rfl) hcm ?_
        (repeat' ((first | refine sp_ ?_ | exact ex0 | (refine ret_s [] ?_; simp (decide := true) (disch := omega) only [go_sem, ↓reduceIte, ↓put_at]))))
        refine next_s (α := {j : Nat // j ≤ xs.length}) ⟨j + 1, hlt⟩ ⟨?_, by (try dsimp only); omega⟩
        (try dsimp only)
        rw [← hM2, hnx]
        simp (decide := true) (disch := omega) only [go_sem, ↓reduceIte, ↓put_at]
        rw [← hM2l, hnx, List.length_append]
        rfl
    · obtain rfl : j = xs.length := by omega
      simp only [List.take_length]
      (repeat' ((first | refine sp_ ?_ | exact ex0 | (refine ret_s [] ?_; simp (decide := true) (disch := omega) only [go_sem, ↓reduceIte, ↓put_at]))))
set_option maxRecDepth 100000 in
set_option maxHeartbeats 16000000 in
theorem each_S11 (es : List (List V)) (xs : List S11) (hok : ∀ x ∈ xs, okS11 x) (hl : es.length + xs.length ≤ 1000000) : Spec Tryz.prog 22 [.ca (.own 67 3 es), .ca (.val (.lst 2 (xs.map s11El)))] [] (.ca (.own 67 3 (es ++ (eachP adsP xs).map pcEl))) [] := by
  refine spec_of Tryz.func22 rfl Tryz.ntmps22 Tryz.results22 ⟨by decide, by simp⟩ fun C hC => ?_
  (repeat' ((fail_if_success (refine stop_reg 2 ?_)); (first | refine sp_ ?_ | exact ex0 | (refine ret_s [] ?_; simp (decide := true) (disch := omega) only [go_sem, ↓reduceIte, ↓put_at]))))
  refine loop_s (α := {j : Nat // j ≤ xs.length}) (fun j => [(.s 0, .av (.own (0, 0) 0 67 3 (es ++ (eachP adsP (xs.take j.1)).map pcEl))), (.k (0, 0), .row 67 3 (es ++ (eachP adsP (xs.take j.1)).map pcEl).length), (.s 4, .av (.val (.sc (.slice none 0 0)))), (.s 8, .av (.val (.lst 2 (xs.map s11El)))), (.s 9, .av (.val (vi xs.length))), (.s 10, .av (.val (vi j.1)))]) (fun j => xs.length - j.1) ⟨0, Nat.zero_le _⟩ ?_ (fun j => ?_)
  · (try dsimp only)
    rw [show (eachP adsP (xs.take 0)).map pcEl = [] from rfl, List.append_nil]
    simp (decide := true) (disch := omega) only [go_sem, ↓reduceIte, ↓put_at]
  · obtain ⟨j, hj⟩ := j
    dsimp only at hj ⊢
    have hel := each_le adsP (xs.take j)
    rw [List.length_take, Nat.min_eq_left hj] at hel
    have hml : (es ++ (eachP adsP (xs.take j)).map pcEl).length ≤ es.length + j := by rw [List.length_append, List.length_map]; omega
    by_cases hlt : j < xs.length
    · have hge : (xs.map s11El).getD j [] = s11El xs[j] := by simp [hlt]
      have hnx : es ++ (eachP adsP (xs.take (j + 1))).map pcEl = (es ++ (eachP adsP (xs.take j)).map pcEl) ++ (if adsP xs[j] = noPc then [] else [pcEl (adsP xs[j])]) := by
        rw [List.take_succ_eq_append_getElem hlt, each_snoc, List.map_append, List.append_assoc]
        congr 2
        split
        · rfl
        · rfl
      have h := hok _ (List.getElem_mem hlt)
      generalize es ++ (eachP adsP (xs.take j)).map pcEl = M at *
      obtain ⟨M2, hM2⟩ : ∃ M2, M2 = es ++ (eachP adsP (xs.take (j + 1))).map pcEl := ⟨_, rfl⟩
      rw [← hM2] at hnx
      have hM2l : M2.length = es.length + (eachP adsP (xs.take (j + 1))).length := by rw [hM2, List.length_append, List.length_map]
      generalize hx : xs[j] = x at *
      have c1 := sub_ads x h.1 h.2
      generalize adsP x = p at *
      obtain ⟨pc, pk, pb⟩ := p
      have hcm := pp_ne pc 0 pk 0 pb []
      by_cases hp : (pc, pk, pb) = noPc
      · rw [if_pos hp, List.append_nil] at hnx
        unfold noPc at hp
        simp only [Prod.mk.injEq] at hp
        rw [decide_eq_true hp] at hcm
        (repeat' ((first | refine sp_ ?_ | exact ex0 | (refine ret_s [] ?_; simp (decide := true) (disch := omega) only [go_sem, ↓reduceIte, ↓put_at]))))
        simp only [hx]
        refine mkI_s (by kernel_rfl) ?_
        (repeat' ((first | refine sp_ ?_ | exact ex0 | (refine ret_s [] ?_; simp (decide := true) (disch := omega) only [go_sem, ↓reduceIte, ↓put_at]))))
        refine inv_u Tryz.call82 56 (.agg (s11El x)) ⟨_, Tryz.underlying56, fun e h => by cases h⟩ (by kernel_rfl) c1 [] (by simp (decide := true) (disch := omega) only [go_sem, ↓reduceIte, ↓put_at]) ?_
        (repeat' ((first | refine sp_ ?_ | exact ex0 | (refine ret_s [] ?_; simp (decide := true) (disch := omega) only [go_sem, ↓reduceIte, ↓put_at]))))
        refine cmpA_s _ _ _ (.inr rfl) (by simp (decide := true) (disch := omega) only [go_sem, ↓reduceIte, ↓put_at]) (by simp (decide := true) (disch := omega) only [go_sem, ↓reduceIte, ↓put_at]) (by kernel_rfl) hcm ?_
        (repeat' ((first | refine sp_ ?_ | exact ex0 | (refine ret_s [] ?_; simp (decide := true) (disch := omega) only [go_sem, ↓reduceIte, ↓put_at]))))
        refine next_s (α := {j : Nat // j ≤ xs.length}) ⟨j + 1, hlt⟩ ⟨?_, by (try dsimp only); omega⟩
        (try dsimp only)
        rw [← hM2, hnx]
        simp (decide := true) (disch := omega) only [go_sem, ↓reduceIte, ↓put_at]
        rw [← hM2l, hnx]
      · rw [if_neg hp] at hnx
        unfold noPc at hp
        simp only [Prod.mk.injEq] at hp
        rw [decide_eq_false hp] at hcm
        (repeat' ((first | refine sp_ ?_ | exact ex0 | (refine ret_s [] ?_; simp (decide := true) (disch := omega) only [go_sem, ↓reduceIte, ↓put_at]))))
        simp only [hx]
        refine mkI_s (by kernel_rfl) ?_
        (repeat' ((first | refine sp_ ?_ | exact ex0 | (refine ret_s [] ?_; simp (decide := true) (disch := omega) only [go_sem, ↓reduceIte, ↓put_at]))))
        refine inv_u Tryz.call82 56 (.agg (s11El x)) ⟨_, Tryz.underlying56, fun e h => by cases h⟩ (by kernel_rfl) c1 [] (by simp (decide := true) (disch := omega) only [go_sem, ↓reduceIte, ↓put_at]) ?_
        (repeat' ((first | refine sp_ ?_ | exact ex0 | (refine ret_s [] ?_; simp (decide := true) (disch := omega) only [go_sem, ↓reduceIte, ↓put_at]))))
        refine cmpA_s _ _ _ (.inr rfl) (by simp (decide := true) (disch := omega) only [go_sem, ↓reduceIte, ↓put_at]) (by simp (decide := true) (disch := omega) only [go_sem, ↓reduceIte, ↓put_at]) (by kernel_rfl) hcm ?_
        (repeat' ((first | refine sp_ ?_ | exact ex0 | (refine ret_s [] ?_; simp (decide := true) (disch := omega) only [go_sem, ↓reduceIte, ↓put_at]))))
        refine next_s (α := {j : Nat // j ≤ xs.length}) ⟨j + 1, hlt⟩ ⟨?_, by (try dsimp only); omega⟩
        (try dsimp only)
        rw [← hM2, hnx]
        simp (decide := true) (disch := omega) only [go_sem, ↓reduceIte, ↓put_at]
        rw [← hM2l, hnx, List.length_append]
        rfl
    · obtain rfl : j = xs.length := by omega
      simp only [List.take_length]
      (repeat' ((first | refine sp_ ?_ | exact ex0 | (refine ret_s [] ?_; simp (decide := true) (disch := omega) only [go_sem, ↓reduceIte, ↓put_at]))))
end Go.Proofs.YtbnnfmleoebelaaGreat

