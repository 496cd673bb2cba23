
/- Package net: keys, what may be, one more; walked. -/
import Derived.Test.YtdkgnlmojmafbaaNetM
import Derived.Test.YtdkgnlmojmafbaaTi
import Derived.Test.YtdkgnlmojmafbaaRH
import Derived.Test.YtdkgnlmojmafbaaRP
import Derived.Test.YtdkgnlmojmafbaaSl4
namespace Go.Proofs.Ytdkgnlmojmafbaa
open Go.RowKit
set_option linter.unusedVariables false
set_option linter.unusedSimpArgs false

abbrev lnE (l : Ln) : V := .agg [vi l.1, vi l.2]
abbrev netO (N : N28) : List CA := [.val (vi N.most), .val (vi N.bytes), .hd (.mp (kvB 9 N.m)), .val (vi N.sent), .val (vi N.lost), .val (vi N.taken), .val (vi N.twins), .val (vi N.turned), .val (vi N.forged)]
theorem ln_eq (l l' : Ln) (w : World) : (Op.equal 69 (lnV l) (lnV l')).run Try.prog w = .ok (decide (l = l')) w := by
  unfold lnV
  by_cases h1 : l.1 = l'.1
  · by_cases h2 : l.2 = l'.2
    · have h : l = l' := Prod.ext h1 h2
      simp [go_sem, Op.equal, Op.maxDepth, h]
    · have h : l ≠ l' := fun e => h2 (by rw [e])
      simp [go_sem, Op.equal, Op.maxDepth, h1, h2, h]
  · have h : l ≠ l' := fun e => h1 (by rw [e])
    simp [go_sem, Op.equal, Op.maxDepth, h1, h]
theorem ln_find (l : Ln) (w : World) : ∀ (es : List MapEntry) (ks : List Ln) (i : Nat), es.map (·.key) = ks.map lnV →
    ((Instr.findAsking 69 (lnV l) es i).run Try.prog w = .ok none w ∧ l ∉ ks) ∨ ∃ j e, (Instr.findAsking 69 (lnV l) es i).run Try.prog w = .ok (some (i + j, e.val)) w ∧ es[j]? = some e ∧ e.key = lnV l
  | [], ks, i, h => .inl ⟨by simp [Instr.findAsking], by cases ks; simp; simp at h⟩
  | e :: es, [], i, h => by simp at h
  | e :: es, k :: ks, i, h => by
    simp only [List.map_cons, List.cons.injEq] at h
    obtain ⟨h1, h2⟩ := h
    by_cases hk : l = k
    · subst hk
      refine .inr ⟨0, e, ?_, rfl, h1⟩
      simp [Instr.findAsking, h1, ln_eq]
    · rcases ln_find l w es ks (i + 1) h2 with ⟨r1, r2⟩ | ⟨j, e', r1, r2, r3⟩
      · exact .inl ⟨by simp [Instr.findAsking, h1, ln_eq, hk, r1], by simp [hk, r2]⟩
      · refine .inr ⟨j + 1, e', ?_, r2, r3⟩
        simp [Instr.findAsking, h1, ln_eq, hk, r1]
        omega
theorem key_ln (l : Ln) (ks : List Ln) : KeyOk Try.prog 69 (lnV l) (ks.map lnV) := by
  refine ⟨fun b w => by kernel_rfl, fun w => ?_, fun w es hes => ?_⟩
  · simp [Instr.keyThatStays, Instr.sameBits, lnV]
  · cases es with
    | nil =>
      have hk : ks = [] := by cases ks; rfl; simp at hes
      subst hk
      exact .inl ⟨by simp [Instr.findKey, Instr.findNow, run_underlying Try.underlying69], by simp⟩
    | cons e es =>
      have hf : (Instr.findKey 69 (lnV l) (e :: es)).run Try.prog w = (Instr.findAsking 69 (lnV l) (e :: es)).run Try.prog w := by
        unfold lnV
        simp [Instr.findKey, Instr.findNow, Instr.sameNow, run_underlying Try.underlying69]
      rw [hf]
      rcases ln_find l w (e :: es) ks 0 hes with ⟨r1, r2⟩ | ⟨j, e', r1, r2, r3⟩
      · refine .inl ⟨r1, fun hm => r2 ?_⟩
        obtain ⟨k, hk, he⟩ := List.mem_map.1 hm
        rw [lnV_inj.1 he] at hk
        exact hk
      · exact .inr ⟨j, e', by rw [r1, Nat.zero_add], r2, r3⟩
/-- What a map's steps ask. -/
theorem ln_map : mapOf Try.prog 50 = some (69, 63) := by kernel_rfl
theorem ln_zero : zeroOf Try.prog 63 = some (.slice none 0 0) := by kernel_rfl
theorem ln_keys (l : Ln) (m : Bags) : KeyOk Try.prog 69 (lnV l) ((kvB 9 m).map (·.1)) := by
  rw [kvB_keys]
  exact key_ln l _
theorem ln_val (l : Ln) : keyV (lnV l) (lnE l) := keyV_agg2 _ _

set_option maxRecDepth 100000 in
set_option maxHeartbeats 8000000 in
theorem net_is (l : Ln) : Spec Try.prog 42 [.ca (.val (lnE l))] [] (.ca (.val (vb (lnOk l)))) [] := by
  obtain ⟨a, b⟩ := l
  unfold lnOk lnE
  dsimp only
  by_cases h1 : a = 0
  · subst h1
    by_cases h2 : 1 ≤ b
    · by_cases h3 : b ≤ 15
      · rw [decide_eq_true (by omega)]
        refine spec_of Try.func42 rfl Try.ntmps42 Try.results42 ⟨by decide, by simp⟩ fun C hC => ?_
        (repeat' ((first | refine sp_ ?_ | exact ex0 | (refine ret_s [] ?_; simp (decide := true) (disch := omega) only [go_sem, ↓reduceIte, ↓put_at]))))
      · rw [decide_eq_false (by omega)]
        refine spec_of Try.func42 rfl Try.ntmps42 Try.results42 ⟨by decide, by simp⟩ fun C hC => ?_
        (repeat' ((first | refine sp_ ?_ | exact ex0 | (refine ret_s [] ?_; simp (decide := true) (disch := omega) only [go_sem, ↓reduceIte, ↓put_at]))))
    · rw [decide_eq_false (by omega)]
      refine spec_of Try.func42 rfl Try.ntmps42 Try.results42 ⟨by decide, by simp⟩ fun C hC => ?_
      (repeat' ((first | refine sp_ ?_ | exact ex0 | (refine ret_s [] ?_; simp (decide := true) (disch := omega) only [go_sem, ↓reduceIte, ↓put_at]))))
  · by_cases h1' : a = 1
    · subst h1'
      by_cases h2 : 1 ≤ b
      · by_cases h3 : b ≤ 15
        · rw [decide_eq_true (by omega)]
          refine spec_of Try.func42 rfl Try.ntmps42 Try.results42 ⟨by decide, by simp⟩ fun C hC => ?_
          (repeat' ((first | refine sp_ ?_ | exact ex0 | (refine ret_s [] ?_; simp (decide := true) (disch := omega) only [go_sem, ↓reduceIte, ↓put_at]))))
        · rw [decide_eq_false (by omega)]
          refine spec_of Try.func42 rfl Try.ntmps42 Try.results42 ⟨by decide, by simp⟩ fun C hC => ?_
          (repeat' ((first | refine sp_ ?_ | exact ex0 | (refine ret_s [] ?_; simp (decide := true) (disch := omega) only [go_sem, ↓reduceIte, ↓put_at]))))
      · rw [decide_eq_false (by omega)]
        refine spec_of Try.func42 rfl Try.ntmps42 Try.results42 ⟨by decide, by simp⟩ fun C hC => ?_
        (repeat' ((first | refine sp_ ?_ | exact ex0 | (refine ret_s [] ?_; simp (decide := true) (disch := omega) only [go_sem, ↓reduceIte, ↓put_at]))))
    · rw [decide_eq_false (by omega)]
      refine spec_of Try.func42 rfl Try.ntmps42 Try.results42 ⟨by decide, by simp⟩ fun C hC => ?_
      (repeat' ((first | refine sp_ ?_ | exact ex0 | (refine ret_s [] ?_; simp (decide := true) (disch := omega) only [go_sem, ↓reduceIte, ↓put_at]))))
set_option maxRecDepth 100000 in
set_option maxHeartbeats 8000000 in
theorem net_clip (a b : Int) : Spec Try.prog 10 [.ca (.val (.agg [vi a, vi b]))] [] (.ca (.val (.agg [vi (max 1 (min a 1024)), vi (max 1 (min b 16777216))]))) [] := by
  refine spec_of Try.func10 rfl Try.ntmps10 Try.results10 ⟨by decide, by simp⟩ fun C hC => ?_
  (repeat' ((first | refine sp_ ?_ | exact ex0 | (refine ret_s [] ?_; simp (decide := true) (disch := omega) only [go_sem, ↓reduceIte, ↓put_at]))))
def newB (a b : Int) : N28 := ⟨max 1 (min a 1024), max 1 (min b 16777216), [], 0, 0, 0, 0, 0, 0⟩
theorem newB_ok (a b : Int) : (newB a b).Ok 0 := ⟨by unfold newB; dsimp only; omega, by unfold newB; dsimp only; omega, by simp [newB], fun p hp => by simp [newB] at hp, by simp [newB], by simp [newB], by simp [newB], by simp [newB], by simp [newB], by simp [newB]⟩
set_option maxRecDepth 100000 in
set_option maxHeartbeats 8000000 in
theorem net_new (a b : Int) : Spec Try.prog 5 [.ca (.val (.agg [vi a, vi b]))] [] (.ptr 0 0) [netO (newB a b)] := by
  have c := net_clip a b
  unfold netO newB
  dsimp only
  rw [show kvB 9 [] = [] from rfl]
  refine spec_of Try.func5 rfl Try.ntmps5 Try.results5 ⟨by decide, by simp⟩ fun C hC => ?_
  (repeat' ((first | refine sp_ ?_ | exact ex0 | refine call_u Try.call10 (c) [] ex1 ?_ | (refine ret_s [] ?_; simp (decide := true) (disch := omega) only [go_sem, ↓reduceIte, ↓put_at]))))
  refine bldA_s (by simp (decide := true) (disch := omega) only [go_sem, ↓reduceIte, ↓put_at]; exact ⟨rfl, rfl, rfl⟩) (by simp (decide := true) (disch := omega) only [go_sem, ↓reduceIte, ↓put_at]) ?_
  refine boxA_s (by simp (decide := true) (disch := omega) only [go_sem, ↓reduceIte, ↓put_at]; exact ⟨rfl, rfl, rfl⟩) (by simp (decide := true) (disch := omega) only [go_sem, ↓reduceIte, ↓put_at]) ?_
  (repeat' ((first | refine sp_ ?_ | exact ex0 | (refine ret_s [(7, 0)] ?_; simp (decide := true) (disch := omega) only [go_sem, ↓reduceIte, ↓put_at]))))
set_option maxRecDepth 100000 in
set_option maxHeartbeats 8000000 in
theorem net_count1 (b : Bool) (N : N28) {K : Int} (h : N.Ok K) (hK : K ≤ 1099511627776) : Spec Try.prog 31 [.ca (.val (vb b)), .ptr 0 3, .ptr 0 4] [netO N] (.ca (.val (vb b))) [netO (if b = true then { N with sent := N.sent + 1 } else { N with lost := N.lost + 1 })] := by
  have h1 := h.c1
  have h2 := h.c2
  obtain ⟨a1, a2, a3, a4, a5, a6, a7, a8, a9⟩ := N
  dsimp only at h1 h2
  cases b with
  | true =>
    rw [if_pos rfl]
    dsimp only
    refine spec_of Try.func31 rfl Try.ntmps31 Try.results31 ⟨by decide, by simp⟩ fun C hC => ?_
    (repeat' ((first | refine sp_ ?_ | exact ex0 | (refine ret_s [] ?_; simp (decide := true) (disch := omega) only [go_sem, ↓reduceIte, ↓put_at]))))
  | false =>
    rw [if_neg (by decide)]
    dsimp only
    refine spec_of Try.func31 rfl Try.ntmps31 Try.results31 ⟨by decide, by simp⟩ fun C hC => ?_
    (repeat' ((first | refine sp_ ?_ | exact ex0 | (refine ret_s [] ?_; simp (decide := true) (disch := omega) only [go_sem, ↓reduceIte, ↓put_at]))))
set_option maxRecDepth 100000 in
set_option maxHeartbeats 8000000 in
theorem net_put (N : N28) (l : Ln) (s : List UInt8) {K : Int} (h : N.Ok K) (hs : s.length ≤ 1099511627776) : Spec Try.prog 32 [.ptr 0 0, .ca (.val (lnE l)), .ca (.val (vs s))] [netO N] (.ca (.val (vb (canB N l s)))) [netO (putB N l s)] := by
  have c1 := net_is l
  obtain ⟨B1, B2⟩ := bagB_small h l
  have hm := h.most
  have hb := h.bytes
  have hnd := h.nd
  clear h
  cases hg : getB N.m l with
  | none =>
    have hbag : bagB N.m l = [] := by unfold bagB; rw [hg]; rfl
    refine spec_of Try.func32 rfl Try.ntmps32 Try.results32 ⟨by decide, by simp⟩ fun C hC => ?_
    (repeat' ((fail_if_success (refine stop_reg 4 ?_)); (first | refine sp_ ?_ | exact ex0 | (refine ret_s [] ?_; simp (decide := true) (disch := omega) only [go_sem, ↓reduceIte, ↓put_at]))))
    refine lkS_s (1000, 3) (kvB 9 N.m) (lnV l) (.slice none 0 0) (lnE l) (.sc (.slice none 0 0)) _ _ ln_map (by simp (decide := true) (disch := omega) only [go_sem, ↓reduceIte, ↓put_at]) (ln_val l) (ln_keys l _) ln_zero (by rw [kv_get, hg]; rfl) ?_
    (repeat' ((fail_if_success (refine stop_reg 4 ?_)); (first | refine sp_ ?_ | exact ex0 | (refine ret_s [] ?_; simp (decide := true) (disch := omega) only [go_sem, ↓reduceIte, ↓put_at]))))
    refine loop_s (α := Unit) (fun _ => [(.o (1000, 0), .num 9), (.c (1000, 0) 0, .av (.val (vi N.most))), (.c (1000, 0) 1, .av (.val (vi N.bytes))), (.c (1000, 0) 2, .av (.ref (1000, 3) 0)), (.r (1000, 3), .tree (.mp (kvB 9 N.m))), (.c (1000, 0) 3, .av (.val (vi N.sent))), (.c (1000, 0) 4, .av (.val (vi N.lost))), (.c (1000, 0) 5, .av (.val (vi N.taken))), (.c (1000, 0) 6, .av (.val (vi N.twins))), (.c (1000, 0) 7, .av (.val (vi N.turned))), (.c (1000, 0) 8, .av (.val (vi N.forged))), (.s 0, .av (.ptr (1000, 0) 0 0)), (.s 2, .av (.val (vs s))), (.o (4, 0), .num 2), (.c (4, 0) 0, .av (.val (vi l.1))), (.c (4, 0) 1, .av (.val (vi l.2))), (.s 4, .av (.ptr (4, 0) 0 0)), (.s 6, .av (.val (vb false))), (.s 7, .av (.val (.sc (.slice none 0 0)))), (.s 8, .av (.val (vi s.length))), (.s 19, .av (.val (.sc (.slice none 0 0)))), (.s 20, .av (.val (vi 0))), (.s 21, .av (.val (vi 0)))]) (fun _ => 0) () ?_ (fun _ => ?_)
    · simp (decide := true) (disch := omega) only [go_sem, ↓reduceIte, ↓put_at]
    · (repeat' ((fail_if_success (first | refine stop_at 8 ?_ | refine stop_l 8 ?_)); (first | refine sp_ ?_ | exact ex0 | (refine ret_s [] ?_; simp (decide := true) (disch := omega) only [go_sem, ↓reduceIte, ↓put_at]))))
      by_cases k1 : lnOk l = true
      · rw [k1] at c1
        by_cases k2 : s = []
        · have hc : canB N l s = false := by unfold canB; rw [decide_eq_false_iff_not]; exact fun q => q.2.1 k2
          subst k2
          rw [hc, putB, if_neg (by rw [hc]; decide)]
          (repeat' ((fail_if_success (first | refine stop_at 9 ?_ | refine stop_l 9 ?_)); (first | refine sp_ ?_ | exact ex0 | refine call_u Try.call42 (c1) [] ex1 ?_ | (refine ret_s [] ?_; simp (decide := true) (disch := omega) only [go_sem, ↓reduceIte, ↓put_at]))))
          (repeat' ((first | refine sp_ ?_ | exact ex0 | (refine ret_s [] ?_; simp (decide := true) (disch := omega) only [go_sem, ↓reduceIte, ↓put_at]))))
        · have hbe : (s == []) = false := by simpa using k2
          by_cases k3 : s.length ≤ 1500
          · by_cases k4 : ((bagB N.m l).length : Int) < N.most
            · by_cases k5 : ((sumB (bagB N.m l) + s.length : Nat) : Int) ≤ N.bytes
              · have hc : canB N l s = true := by unfold canB; rw [decide_eq_true_eq]; exact ⟨k1, k2, k3, k4, k5⟩
                rw [hc, putB, if_pos hc]
                rw [hbag] at k4 k5 ⊢
                try simp only [sumB, List.length_nil, List.nil_append] at k4 k5 ⊢
                (repeat' ((fail_if_success (first | refine stop_at 9 ?_ | refine stop_l 9 ?_)); (first | refine sp_ ?_ | exact ex0 | refine call_u Try.call42 (c1) [] ex1 ?_ | (refine ret_s [] ?_; simp (decide := true) (disch := omega) only [go_sem, ↓reduceIte, ↓put_at]))))
                (try simp only [hbe])
                (repeat' ((fail_if_success (first | refine stop_at 10 ?_ | refine stop_l 10 ?_)); (first | refine sp_ ?_ | exact ex0 | (refine ret_s [] ?_; simp (decide := true) (disch := omega) only [go_sem, ↓reduceIte, ↓put_at]))))
                refine tre_s 7 (7, 9) 9 1 (by decide) ?_
                simp (decide := true) (disch := omega) only [go_sem, ↓reduceIte, ↓put_at]
                (repeat' ((first | refine sp_ ?_ | exact ex0 | (refine ret_s [] ?_; simp (decide := true) (disch := omega) only [go_sem, ↓reduceIte, ↓put_at]))))
                refine upR_s (.inr rfl) (1000, 3) (7, 9) (kvB 9 N.m) (kvB 9 (setB N.m l [s])) (lnV l) (lnE l) 9 1 [[vs s]] _ _ ln_map (by simp (decide := true) (disch := omega) only [go_sem, ↓reduceIte, ↓put_at]) (ln_val l) (ln_keys l _) (fun y hy => by rw [kv_get, hg] at hy; cases hy) (by decide) (kv_set 9 l [s] N.m) ?_
                (repeat' ((first | refine sp_ ?_ | exact ex0 | (refine ret_s [] ?_; simp (decide := true) (disch := omega) only [go_sem, ↓reduceIte, ↓put_at]))))
              · have hc : canB N l s = false := by unfold canB; rw [decide_eq_false_iff_not]; exact fun q => k5 q.2.2.2.2
                rw [hc, putB, if_neg (by rw [hc]; decide)]
                rw [hbag] at k4 k5
                try simp only [sumB, List.length_nil] at k4 k5
                (repeat' ((fail_if_success (first | refine stop_at 9 ?_ | refine stop_l 9 ?_)); (first | refine sp_ ?_ | exact ex0 | refine call_u Try.call42 (c1) [] ex1 ?_ | (refine ret_s [] ?_; simp (decide := true) (disch := omega) only [go_sem, ↓reduceIte, ↓put_at]))))
                (try simp only [hbe])
                (repeat' ((fail_if_success (first | refine stop_at 9 ?_ | refine stop_l 9 ?_)); (first | refine sp_ ?_ | exact ex0 | refine call_u Try.call42 (c1) [] ex1 ?_ | (refine ret_s [] ?_; simp (decide := true) (disch := omega) only [go_sem, ↓reduceIte, ↓put_at]))))
                (repeat' ((first | refine sp_ ?_ | exact ex0 | (refine ret_s [] ?_; simp (decide := true) (disch := omega) only [go_sem, ↓reduceIte, ↓put_at]))))
            · have hc : canB N l s = false := by unfold canB; rw [decide_eq_false_iff_not]; exact fun q => k4 q.2.2.2.1
              rw [hc, putB, if_neg (by rw [hc]; decide)]
              rw [hbag] at k4
              exact absurd hm.1 (by simp at k4; omega)
          · have hc : canB N l s = false := by unfold canB; rw [decide_eq_false_iff_not]; exact fun q => k3 q.2.2.1
            rw [hc, putB, if_neg (by rw [hc]; decide)]
            (repeat' ((fail_if_success (first | refine stop_at 9 ?_ | refine stop_l 9 ?_)); (first | refine sp_ ?_ | exact ex0 | refine call_u Try.call42 (c1) [] ex1 ?_ | (refine ret_s [] ?_; simp (decide := true) (disch := omega) only [go_sem, ↓reduceIte, ↓put_at]))))
            (try simp only [hbe])
            (repeat' ((fail_if_success (first | refine stop_at 9 ?_ | refine stop_l 9 ?_)); (first | refine sp_ ?_ | exact ex0 | refine call_u Try.call42 (c1) [] ex1 ?_ | (refine ret_s [] ?_; simp (decide := true) (disch := omega) only [go_sem, ↓reduceIte, ↓put_at]))))
            (repeat' ((first | refine sp_ ?_ | exact ex0 | (refine ret_s [] ?_; simp (decide := true) (disch := omega) only [go_sem, ↓reduceIte, ↓put_at]))))
      · have hc : canB N l s = false := by unfold canB; rw [decide_eq_false_iff_not]; exact fun q => k1 q.1
        rw [hc, putB, if_neg (by rw [hc]; decide)]
        rw [Bool.not_eq_true] at k1
        rw [k1] at c1
        (repeat' ((fail_if_success (first | refine stop_at 9 ?_ | refine stop_l 9 ?_)); (first | refine sp_ ?_ | exact ex0 | refine call_u Try.call42 (c1) [] ex1 ?_ | (refine ret_s [] ?_; simp (decide := true) (disch := omega) only [go_sem, ↓reduceIte, ↓put_at]))))
        (repeat' ((first | refine sp_ ?_ | exact ex0 | (refine ret_s [] ?_; simp (decide := true) (disch := omega) only [go_sem, ↓reduceIte, ↓put_at]))))
  | some b =>
    obtain ⟨j, hj⟩ := getB_at 9 l b N.m hg
    have hbag : bagB N.m l = b := by unfold bagB; rw [hg]; rfl
    obtain ⟨o1, o2, o3, o4, o5⟩ := kv_over (kvB_nodup 9 hnd) (a := .av .any) hj
    have hko := ln_keys l N.m
    rw [← o5] at hko
    have hset : kvSet ((kvB 9 N.m).set j (lnV l, .av .any)) (lnV l) (rowB 9 (b ++ [s])) = kvB 9 (setB N.m l (b ++ [s])) := by rw [o1, kv_set]
    refine spec_of Try.func32 rfl Try.ntmps32 Try.results32 ⟨by decide, by simp⟩ fun C hC => ?_
    (repeat' ((fail_if_success (refine stop_reg 4 ?_)); (first | refine sp_ ?_ | exact ex0 | (refine ret_s [] ?_; simp (decide := true) (disch := omega) only [go_sem, ↓reduceIte, ↓put_at]))))
    refine lkR_s (1000, 3) (kvB 9 N.m) j (lnV l) (lnE l) 9 1 (b.map fun s => [vs s]) _ _ ln_map (by simp (decide := true) (disch := omega) only [go_sem, ↓reduceIte, ↓put_at]) (ln_val l) (ln_keys l _) hj (by decide) ?_
    rw [hbag] at B1 B2
    generalize (kvB 9 N.m).set j (lnV l, .av .any) = M1 at *
    (repeat' ((fail_if_success (refine stop_reg 4 ?_)); (first | refine sp_ ?_ | exact ex0 | (refine ret_s [] ?_; simp (decide := true) (disch := omega) only [go_sem, ↓reduceIte, ↓put_at]))))
    refine loop_s (α := {i : Nat // i ≤ b.length}) (fun i => [(.o (1000, 0), .num 9), (.c (1000, 0) 0, .av (.val (vi N.most))), (.c (1000, 0) 1, .av (.val (vi N.bytes))), (.c (1000, 0) 2, .av (.ref (1000, 3) 0)), (.r (1000, 3), .tree (.mp M1)), (.c (1000, 0) 3, .av (.val (vi N.sent))), (.c (1000, 0) 4, .av (.val (vi N.lost))), (.c (1000, 0) 5, .av (.val (vi N.taken))), (.c (1000, 0) 6, .av (.val (vi N.twins))), (.c (1000, 0) 7, .av (.val (vi N.turned))), (.c (1000, 0) 8, .av (.val (vi N.forged))), (.s 0, .av (.ptr (1000, 0) 0 0)), (.r (16, 1), .tree (.rw 9 1 (b.map fun s => [vs s]))), (.l (1000, 3), .lent j (.ref (16, 1) 0)), (.s 2, .av (.val (vs s))), (.o (4, 0), .num 2), (.c (4, 0) 0, .av (.val (vi l.1))), (.c (4, 0) 1, .av (.val (vi l.2))), (.s 4, .av (.ptr (4, 0) 0 0)), (.s 6, .av (.val (vb false))), (.s 7, .av (.ref (16, 1) 0)), (.s 8, .av (.val (vi ((s.length + sumB (b.take i.1) : Nat) : Int)))), (.s 19, .av (.ref (16, 1) 0)), (.s 20, .av (.val (vi b.length))), (.s 21, .av (.val (vi i.1)))]) (fun i => b.length - i.1) ⟨0, Nat.zero_le _⟩ ?_ (fun i => ?_)
    · simp (decide := true) (disch := omega) only [go_sem, ↓reduceIte, ↓put_at]
      simp [sumB]
    · obtain ⟨i, hi⟩ := i
      dsimp only at hi ⊢
      by_cases hlt : i < b.length
      · have hge : (b.map fun s => [vs s]).getD i [] = [vs b[i]] := by simp [hlt]
        have hsm : sumB (b.take (i + 1)) = sumB (b.take i) + b[i].length := by rw [← List.take_append_getElem hlt, sumB_app]; simp [sumB]
        have hle := sumB_take b (i + 1)
        (repeat' ((first | refine sp_ ?_ | exact ex0 | (refine ret_s [] ?_; simp (decide := true) (disch := omega) only [go_sem, ↓reduceIte, ↓put_at]))))
        (try simp only [hge])
        (repeat' ((first | refine sp_ ?_ | exact ex0 | (refine ret_s [] ?_; simp (decide := true) (disch := omega) only [go_sem, ↓reduceIte, ↓put_at]))))
        refine next_s (α := {i : Nat // i ≤ b.length}) ⟨i + 1, hlt⟩ ⟨?_, by (try dsimp only); omega⟩
        (try dsimp only)
        simp (decide := true) (disch := omega) only [go_sem, ↓reduceIte, ↓put_at]
        rw [hsm]
        omega
      · obtain rfl : i = b.length := by omega
        rw [List.take_length]
        (repeat' ((fail_if_success (first | refine stop_at 8 ?_ | refine stop_l 8 ?_)); (first | refine sp_ ?_ | exact ex0 | (refine ret_s [] ?_; simp (decide := true) (disch := omega) only [go_sem, ↓reduceIte, ↓put_at]))))
        by_cases k1 : lnOk l = true
        · rw [k1] at c1
          by_cases k2 : s = []
          · have hc : canB N l s = false := by unfold canB; rw [decide_eq_false_iff_not]; exact fun q => q.2.1 k2
            subst k2
            rw [hc, putB, if_neg (by rw [hc]; decide)]
            (repeat' ((fail_if_success (first | refine stop_at 9 ?_ | refine stop_l 9 ?_)); (first | refine sp_ ?_ | exact ex0 | refine call_u Try.call42 (c1) [] ex1 ?_ | (refine ret_s [] ?_; simp (decide := true) (disch := omega) only [go_sem, ↓reduceIte, ↓put_at]))))
            refine bck_s (1000, 3) (16, 1) M1 (kvB 9 N.m) j (lnV l) .any 9 1 (b.map fun s => [vs s]) o4 o3 ⟨by simp (decide := true) (disch := omega) only [go_sem, ↓reduceIte, ↓put_at], ?_⟩
            (repeat' ((first | refine sp_ ?_ | exact ex0 | (refine ret_s [] ?_; simp (decide := true) (disch := omega) only [go_sem, ↓reduceIte, ↓put_at]))))
          · have hbe : (s == []) = false := by simpa using k2
            by_cases k3 : s.length ≤ 1500
            · by_cases k4 : ((bagB N.m l).length : Int) < N.most
              · by_cases k5 : ((sumB (bagB N.m l) + s.length : Nat) : Int) ≤ N.bytes
                · have hc : canB N l s = true := by unfold canB; rw [decide_eq_true_eq]; exact ⟨k1, k2, k3, k4, k5⟩
                  rw [hc, putB, if_pos hc]
                  rw [hbag] at k4 k5 ⊢
                  try simp only [sumB, List.length_nil, List.nil_append] at k4 k5 ⊢
                  (repeat' ((fail_if_success (first | refine stop_at 9 ?_ | refine stop_l 9 ?_)); (first | refine sp_ ?_ | exact ex0 | refine call_u Try.call42 (c1) [] ex1 ?_ | (refine ret_s [] ?_; simp (decide := true) (disch := omega) only [go_sem, ↓reduceIte, ↓put_at]))))
                  (try simp only [hbe])
                  (repeat' ((fail_if_success (first | refine stop_at 10 ?_ | refine stop_l 10 ?_)); (first | refine sp_ ?_ | exact ex0 | (refine ret_s [] ?_; simp (decide := true) (disch := omega) only [go_sem, ↓reduceIte, ↓put_at]))))
                  (repeat' ((first | refine sp_ ?_ | exact ex0 | (refine ret_s [] ?_; simp (decide := true) (disch := omega) only [go_sem, ↓reduceIte, ↓put_at]))))
                  refine upR_s (.inr rfl) (1000, 3) (16, 1) M1 (kvB 9 (setB N.m l (b ++ [s]))) (lnV l) (lnE l) 9 1 (b.map (fun s => [vs s]) ++ [[vs s]]) _ _ ln_map (by simp (decide := true) (disch := omega) only [go_sem, ↓reduceIte, ↓put_at]) (ln_val l) hko (fun y hy => ⟨.any, by rw [o2] at hy; exact (Option.some.inj hy).symm⟩) (by decide) (by rw [← hset]; unfold rowB; rw [List.map_append]; rfl) ?_
                  (repeat' ((first | refine sp_ ?_ | exact ex0 | (refine ret_s [] ?_; simp (decide := true) (disch := omega) only [go_sem, ↓reduceIte, ↓put_at]))))
                · have hc : canB N l s = false := by unfold canB; rw [decide_eq_false_iff_not]; exact fun q => k5 q.2.2.2.2
                  rw [hc, putB, if_neg (by rw [hc]; decide)]
                  rw [hbag] at k4 k5
                  try simp only [sumB, List.length_nil] at k4 k5
                  (repeat' ((fail_if_success (first | refine stop_at 9 ?_ | refine stop_l 9 ?_)); (first | refine sp_ ?_ | exact ex0 | refine call_u Try.call42 (c1) [] ex1 ?_ | (refine ret_s [] ?_; simp (decide := true) (disch := omega) only [go_sem, ↓reduceIte, ↓put_at]))))
                  (try simp only [hbe])
                  (repeat' ((fail_if_success (first | refine stop_at 9 ?_ | refine stop_l 9 ?_)); (first | refine sp_ ?_ | exact ex0 | refine call_u Try.call42 (c1) [] ex1 ?_ | (refine ret_s [] ?_; simp (decide := true) (disch := omega) only [go_sem, ↓reduceIte, ↓put_at]))))
                  refine bck_s (1000, 3) (16, 1) M1 (kvB 9 N.m) j (lnV l) .any 9 1 (b.map fun s => [vs s]) o4 o3 ⟨by simp (decide := true) (disch := omega) only [go_sem, ↓reduceIte, ↓put_at], ?_⟩
                  (repeat' ((first | refine sp_ ?_ | exact ex0 | (refine ret_s [] ?_; simp (decide := true) (disch := omega) only [go_sem, ↓reduceIte, ↓put_at]))))
              · have hc : canB N l s = false := by unfold canB; rw [decide_eq_false_iff_not]; exact fun q => k4 q.2.2.2.1
                rw [hc, putB, if_neg (by rw [hc]; decide)]
                rw [hbag] at k4
                (repeat' ((fail_if_success (first | refine stop_at 9 ?_ | refine stop_l 9 ?_)); (first | refine sp_ ?_ | exact ex0 | refine call_u Try.call42 (c1) [] ex1 ?_ | (refine ret_s [] ?_; simp (decide := true) (disch := omega) only [go_sem, ↓reduceIte, ↓put_at]))))
                (try simp only [hbe])
                (repeat' ((fail_if_success (first | refine stop_at 9 ?_ | refine stop_l 9 ?_)); (first | refine sp_ ?_ | exact ex0 | refine call_u Try.call42 (c1) [] ex1 ?_ | (refine ret_s [] ?_; simp (decide := true) (disch := omega) only [go_sem, ↓reduceIte, ↓put_at]))))
                refine bck_s (1000, 3) (16, 1) M1 (kvB 9 N.m) j (lnV l) .any 9 1 (b.map fun s => [vs s]) o4 o3 ⟨by simp (decide := true) (disch := omega) only [go_sem, ↓reduceIte, ↓put_at], ?_⟩
                (repeat' ((first | refine sp_ ?_ | exact ex0 | (refine ret_s [] ?_; simp (decide := true) (disch := omega) only [go_sem, ↓reduceIte, ↓put_at]))))
            · have hc : canB N l s = false := by unfold canB; rw [decide_eq_false_iff_not]; exact fun q => k3 q.2.2.1
              rw [hc, putB, if_neg (by rw [hc]; decide)]
              (repeat' ((fail_if_success (first | refine stop_at 9 ?_ | refine stop_l 9 ?_)); (first | refine sp_ ?_ | exact ex0 | refine call_u Try.call42 (c1) [] ex1 ?_ | (refine ret_s [] ?_; simp (decide := true) (disch := omega) only [go_sem, ↓reduceIte, ↓put_at]))))
              (try simp only [hbe])
              (repeat' ((fail_if_success (first | refine stop_at 9 ?_ | refine stop_l 9 ?_)); (first | refine sp_ ?_ | exact ex0 | refine call_u Try.call42 (c1) [] ex1 ?_ | (refine ret_s [] ?_; simp (decide := true) (disch := omega) only [go_sem, ↓reduceIte, ↓put_at]))))
              refine bck_s (1000, 3) (16, 1) M1 (kvB 9 N.m) j (lnV l) .any 9 1 (b.map fun s => [vs s]) o4 o3 ⟨by simp (decide := true) (disch := omega) only [go_sem, ↓reduceIte, ↓put_at], ?_⟩
              (repeat' ((first | refine sp_ ?_ | exact ex0 | (refine ret_s [] ?_; simp (decide := true) (disch := omega) only [go_sem, ↓reduceIte, ↓put_at]))))
        · have hc : canB N l s = false := by unfold canB; rw [decide_eq_false_iff_not]; exact fun q => k1 q.1
          rw [hc, putB, if_neg (by rw [hc]; decide)]
          rw [Bool.not_eq_true] at k1
          rw [k1] at c1
          (repeat' ((fail_if_success (first | refine stop_at 9 ?_ | refine stop_l 9 ?_)); (first | refine sp_ ?_ | exact ex0 | refine call_u Try.call42 (c1) [] ex1 ?_ | (refine ret_s [] ?_; simp (decide := true) (disch := omega) only [go_sem, ↓reduceIte, ↓put_at]))))
          refine bck_s (1000, 3) (16, 1) M1 (kvB 9 N.m) j (lnV l) .any 9 1 (b.map fun s => [vs s]) o4 o3 ⟨by simp (decide := true) (disch := omega) only [go_sem, ↓reduceIte, ↓put_at], ?_⟩
          (repeat' ((first | refine sp_ ?_ | exact ex0 | (refine ret_s [] ?_; simp (decide := true) (disch := omega) only [go_sem, ↓reduceIte, ↓put_at]))))
end Go.Proofs.Ytdkgnlmojmafbaa
