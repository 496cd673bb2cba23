
/- Package net: one that is under way; one isn't any more; walked. -/
import Derived.Test.YtdkgnlmojmafbaaNet1
namespace Go.Proofs.Ytdkgnlmojmafbaa
open Go.RowKit
set_option linter.unusedVariables false
set_option linter.unusedSimpArgs false

theorem delB_set (l : Ln) (b : List (List UInt8)) : ∀ m : Bags, delB (setB m l b) l = delB m l
  | [] => by simp [setB, delB]
  | q :: m => by
    unfold setB
    by_cases h : q.1 = l
    · rw [if_pos h]; simp [delB, h]
    · rw [if_neg h]; simp [delB, h, delB_set l b m]
set_option maxRecDepth 100000 in
set_option maxHeartbeats 8000000 in
theorem net_at (N : N28) (l : Ln) (i : Int) {K : Int} (h : N.Ok K) : Spec Try.prog 33 [.ptr 0 0, .ca (.val (lnE l)), .ca (.val (vi i))] [netO N] (.ca (.val (.tup [vs (atB N l i), vb (isB N l i)]))) [netO N] := by
  obtain ⟨B1, B2⟩ := bagB_small h l
  have hm := h.most
  have hnd := h.nd
  clear h
  cases hg : getB N.m l with
  | none =>
    have hbag : bagB N.m l = [] := by unfold bagB; rw [hg]; rfl
    have hi : isB N l i = false := by unfold isB; rw [hbag, decide_eq_false_iff_not]; intro ⟨q1, q2⟩; simp at q2; omega
    rw [atB, hi, if_neg (by decide)]
    refine spec_of Try.func33 rfl Try.ntmps33 Try.results33 ⟨by decide, by simp⟩ fun C hC => ?_
    (repeat' ((fail_if_success (refine stop_reg 2 ?_)); (first | refine sp_ ?_ | exact ex0 | (refine ret_s [] ?_; simp (decide := true) (disch := omega) only [go_sem, ↓reduceIte, ↓put_at]))))
    refine lkS_s (1000, 3) (kvB 9 N.m) (lnV l) (.slice none 0 0) (lnE l) (.sc (.slice none 0 0)) _ _ ln_map (by simp (decide := true) (disch := omega) only [go_sem, ↓reduceIte, ↓put_at]) (ln_val l) (ln_keys l _) ln_zero (by rw [kv_get, hg]; rfl) ?_
    by_cases k : i < 0
    · (repeat' ((first | refine sp_ ?_ | exact ex0 | (refine ret_s [] ?_; simp (decide := true) (disch := omega) only [go_sem, ↓reduceIte, ↓put_at]))))
    · (repeat' ((first | refine sp_ ?_ | exact ex0 | (refine ret_s [] ?_; simp (decide := true) (disch := omega) only [go_sem, ↓reduceIte, ↓put_at]))))
  | some b =>
    obtain ⟨j, hj⟩ := getB_at 9 l b N.m hg
    have hbag : bagB N.m l = b := by unfold bagB; rw [hg]; rfl
    obtain ⟨o1, o2, o3, o4, o5⟩ := kv_over (kvB_nodup 9 hnd) (a := .av .any) hj
    rw [hbag] at B1 B2
    unfold isB atB isB
    rw [hbag]
    refine spec_of Try.func33 rfl Try.ntmps33 Try.results33 ⟨by decide, by simp⟩ fun C hC => ?_
    (repeat' ((fail_if_success (refine stop_reg 2 ?_)); (first | refine sp_ ?_ | exact ex0 | (refine ret_s [] ?_; simp (decide := true) (disch := omega) only [go_sem, ↓reduceIte, ↓put_at]))))
    refine lkR_s (1000, 3) (kvB 9 N.m) j (lnV l) (lnE l) 9 1 (b.map fun s => [vs s]) _ _ ln_map (by simp (decide := true) (disch := omega) only [go_sem, ↓reduceIte, ↓put_at]) (ln_val l) (ln_keys l _) hj (by decide) ?_
    generalize (kvB 9 N.m).set j (lnV l, .av .any) = M1 at *
    by_cases k1 : i < 0
    · rw [decide_eq_false (by omega), if_neg (by decide)]
      (repeat' ((fail_if_success (refine stop_ret ?_)); (first | refine sp_ ?_ | exact ex0 | (refine ret_s [] ?_; simp (decide := true) (disch := omega) only [go_sem, ↓reduceIte, ↓put_at]))))
      refine bck_s (1000, 3) (14, 1) M1 (kvB 9 N.m) j (lnV l) .any 9 1 (b.map fun s => [vs s]) o4 o3 ⟨by simp (decide := true) (disch := omega) only [go_sem, ↓reduceIte, ↓put_at], ?_⟩
      (repeat' ((first | refine sp_ ?_ | exact ex0 | (refine ret_s [] ?_; simp (decide := true) (disch := omega) only [go_sem, ↓reduceIte, ↓put_at]))))
    · by_cases k2 : i < (b.length : Int)
      · rw [decide_eq_true (by omega), if_pos rfl]
        have hlt : i.toNat < b.length := by omega
        have hge : (b.map fun s => [vs s]).getD i.toNat [] = [vs (b.getD i.toNat [])] := by simp [hlt]
        (repeat' ((fail_if_success (refine stop_ret ?_)); (first | refine sp_ ?_ | exact ex0 | (refine ret_s [] ?_; simp (decide := true) (disch := omega) only [go_sem, ↓reduceIte, ↓put_at]))))
        (try simp only [hge])
        (repeat' ((fail_if_success (refine stop_ret ?_)); (first | refine sp_ ?_ | exact ex0 | (refine ret_s [] ?_; simp (decide := true) (disch := omega) only [go_sem, ↓reduceIte, ↓put_at]))))
        refine bck_s (1000, 3) (14, 1) M1 (kvB 9 N.m) j (lnV l) .any 9 1 (b.map fun s => [vs s]) o4 o3 ⟨by simp (decide := true) (disch := omega) only [go_sem, ↓reduceIte, ↓put_at], ?_⟩
        (repeat' ((first | refine sp_ ?_ | exact ex0 | (refine ret_s [] ?_; simp (decide := true) (disch := omega) only [go_sem, ↓reduceIte, ↓put_at]))))
        (try simp [hlt])
      · rw [decide_eq_false (by omega), if_neg (by decide)]
        (repeat' ((fail_if_success (refine stop_ret ?_)); (first | refine sp_ ?_ | exact ex0 | (refine ret_s [] ?_; simp (decide := true) (disch := omega) only [go_sem, ↓reduceIte, ↓put_at]))))
        refine bck_s (1000, 3) (14, 1) M1 (kvB 9 N.m) j (lnV l) .any 9 1 (b.map fun s => [vs s]) o4 o3 ⟨by simp (decide := true) (disch := omega) only [go_sem, ↓reduceIte, ↓put_at], ?_⟩
        (repeat' ((first | refine sp_ ?_ | exact ex0 | (refine ret_s [] ?_; simp (decide := true) (disch := omega) only [go_sem, ↓reduceIte, ↓put_at]))))
set_option maxRecDepth 100000 in
set_option maxHeartbeats 8000000 in
theorem net_cut (N : N28) (l : Ln) (i : Int) {K : Int} (h : N.Ok K) : Spec Try.prog 34 [.ptr 0 0, .ca (.val (lnE l)), .ca (.val (vi i))] [netO N] (.ca (.val (.tup [vs (atB N l i), vb (isB N l i)]))) [netO (cutB N l i)] := by
  have c1 := net_at N l i h
  obtain ⟨B1, B2⟩ := bagB_small h l
  have hm := h.most
  have hnd := h.nd
  clear h
  by_cases hi : isB N l i = true
  · have hi0 := hi
    unfold isB at hi0
    rw [decide_eq_true_eq] at hi0
    cases hg : getB N.m l with
    | none =>
      have hbag : bagB N.m l = [] := by unfold bagB; rw [hg]; rfl
      rw [hbag] at hi0
      simp at hi0
      omega
    | some b =>
      obtain ⟨j, hj⟩ := getB_at 9 l b N.m hg
      have hbag : bagB N.m l = b := by unfold bagB; rw [hg]; rfl
      obtain ⟨o1, o2, o3, o4, o5⟩ := kv_over (kvB_nodup 9 hnd) (a := .av .any) hj
      have hko := ln_keys l N.m
      rw [← o5] at hko
      rw [cutB, if_pos hi, hbag]
      rw [hbag] at B1 B2 hi0
      rw [hi] at c1 ⊢
      obtain ⟨k, rfl⟩ : ∃ k : Nat, i = k := ⟨i.toNat, by omega⟩
      rw [Int.toNat_natCast]
      have hk : k < b.length := by omega
      have cd := sl_del_str (b.map fun s => [vs s]) k (k + 1) (by omega) (by rw [List.length_map]; omega) (by rw [List.length_map]; omega) (fun r hr => by obtain ⟨x, _, rfl⟩ := List.mem_map.1 hr; rfl) (fun r hr y hy => by
        obtain ⟨x, _, rfl⟩ := List.mem_map.1 hr
        simp at hy
        subst hy
        rfl)
      have he : (b.map fun s => [vs s]).take k ++ (b.map fun s => [vs s]).drop (k + 1) = (b.eraseIdx k).map fun s => [vs s] := by rw [List.eraseIdx_eq_take_drop_succ, List.map_append, List.map_take, List.map_drop]
      rw [he, show ((k + 1 : Nat) : Int) = (k : Int) + 1 from rfl] at cd
      generalize hb' : b.eraseIdx k = b' at *
      have hbl : b'.length + 1 = b.length := by rw [← hb', List.length_eraseIdx_of_lt hk]; omega
      generalize atB N l k = s at *
      have hset : kvSet ((kvB 9 N.m).set j (lnV l, .av .any)) (lnV l) (rowB 9 b') = kvB 9 (setB N.m l b') := by rw [o1, kv_set]
      have hg2 : getB (setB N.m l b') l = some b' := by rw [getB_set, if_pos rfl]
      obtain ⟨j2, hj2⟩ := getB_at 9 l b' _ hg2
      obtain ⟨p1, p2, p3, p4, p5⟩ := kv_over (kvB_nodup 9 (setB_nodup (l := l) (b := b') hnd)) (a := .av .any) hj2
      refine spec_of Try.func34 rfl Try.ntmps34 Try.results34 ⟨by decide, by simp⟩ fun C hC => ?_
      (repeat' ((first | refine sp_ ?_ | exact ex0 | refine call_u Try.call33 (c1) [(1000, 0)] ex1 ?_ | (refine ret_s [] ?_; simp (decide := true) (disch := omega) only [go_sem, ↓reduceIte, ↓put_at]))))
      refine lkR_s (1000, 3) (kvB 9 N.m) j (lnV l) (lnE l) 9 1 (b.map fun s => [vs s]) _ _ ln_map (by simp (decide := true) (disch := omega) only [go_sem, ↓reduceIte, ↓put_at]) (ln_val l) (ln_keys l _) hj (by decide) ?_
      generalize (kvB 9 N.m).set j (lnV l, .av .any) = M1 at *
      (repeat' ((first | refine sp_ ?_ | exact ex0 | refine call_u Try.call43 (cd) [] ex1 ?_ | (refine ret_s [] ?_; simp (decide := true) (disch := omega) only [go_sem, ↓reduceIte, ↓put_at]))))
      refine upR_s (.inr rfl) (1000, 3) (33, 1) M1 (kvB 9 (setB N.m l b')) (lnV l) (lnE l) 9 1 (b'.map fun s => [vs s]) _ _ ln_map (by simp (decide := true) (disch := omega) only [go_sem, ↓reduceIte, ↓put_at]) (ln_val l) hko (fun y hy => ⟨.any, by rw [o2] at hy; exact (Option.some.inj hy).symm⟩) (by decide) hset ?_
      (repeat' ((first | refine sp_ ?_ | exact ex0 | (refine ret_s [] ?_; simp (decide := true) (disch := omega) only [go_sem, ↓reduceIte, ↓put_at]))))
      refine lkR_s (1000, 3) (kvB 9 (setB N.m l b')) j2 (lnV l) (lnE l) 9 1 (b'.map fun s => [vs s]) _ _ ln_map (by simp (decide := true) (disch := omega) only [go_sem, ↓reduceIte, ↓put_at]) (ln_val l) (ln_keys l _) hj2 (by decide) ?_
      generalize (kvB 9 (setB N.m l b')).set j2 (lnV l, .av .any) = M2 at *
      by_cases hz : b' = []
      · have hz2 : b'.length = 0 := by rw [hz]; rfl
        rw [show lessB N.m l b' = delB N.m l by unfold lessB; rw [if_pos hz]]
        (repeat' ((fail_if_success (first | refine stop_at 6 ?_ | refine stop_l 6 ?_)); (first | refine sp_ ?_ | exact ex0 | (refine ret_s [] ?_; simp (decide := true) (disch := omega) only [go_sem, ↓reduceIte, ↓put_at]))))
        refine bck_s (1000, 3) (39, 1) M2 (kvB 9 (setB N.m l b')) j2 (lnV l) .any 9 1 (b'.map fun s => [vs s]) p4 p3 ⟨by simp (decide := true) (disch := omega) only [go_sem, ↓reduceIte, ↓put_at], ?_⟩
        (repeat' ((first | refine sp_ ?_ | exact ex0 | (refine ret_s [] ?_; simp (decide := true) (disch := omega) only [go_sem, ↓reduceIte, ↓put_at]))))
        refine del_s (1000, 3) (kvB 9 (setB N.m l b')) (kvB 9 (delB N.m l)) (lnV l) (lnE l) _ _ ln_map (by simp (decide := true) (disch := omega) only [go_sem, ↓reduceIte, ↓put_at]) (ln_val l) (ln_keys l _) (by rw [kv_del, delB_set]) ?_
        (repeat' ((first | refine sp_ ?_ | exact ex0 | (refine ret_s [] ?_; simp (decide := true) (disch := omega) only [go_sem, ↓reduceIte, ↓put_at]))))
      · have hz2 : b'.length ≠ 0 := fun e => hz (List.length_eq_zero_iff.1 e)
        rw [show lessB N.m l b' = setB N.m l b' by unfold lessB; rw [if_neg hz]]
        (repeat' ((fail_if_success (first | refine stop_at 7 ?_ | refine stop_l 7 ?_)); (first | refine sp_ ?_ | exact ex0 | (refine ret_s [] ?_; simp (decide := true) (disch := omega) only [go_sem, ↓reduceIte, ↓put_at]))))
        refine bck_s (1000, 3) (39, 1) M2 (kvB 9 (setB N.m l b')) j2 (lnV l) .any 9 1 (b'.map fun s => [vs s]) p4 p3 ⟨by simp (decide := true) (disch := omega) only [go_sem, ↓reduceIte, ↓put_at], ?_⟩
        (repeat' ((first | refine sp_ ?_ | exact ex0 | (refine ret_s [] ?_; simp (decide := true) (disch := omega) only [go_sem, ↓reduceIte, ↓put_at]))))
  · rw [Bool.not_eq_true] at hi
    have ha : atB N l i = [] := by rw [atB, hi, if_neg (by decide)]
    rw [cutB, hi, if_neg (by decide), ha]
    rw [hi, ha] at c1
    refine spec_of Try.func34 rfl Try.ntmps34 Try.results34 ⟨by decide, by simp⟩ fun C hC => ?_
    (repeat' ((first | refine sp_ ?_ | exact ex0 | refine call_u Try.call33 (c1) [(1000, 0)] ex1 ?_ | (refine ret_s [] ?_; simp (decide := true) (disch := omega) only [go_sem, ↓reduceIte, ↓put_at]))))
end Go.Proofs.Ytdkgnlmojmafbaa
