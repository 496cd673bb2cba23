/- Package slices at frames' pointers: looked for, put in, taken out. -/
import Derived.Test.YtkclmofjlmeolaaGreatDoorRWz
namespace Go.Proofs.YtkclmofjlmeolaaGreatDoor
open Go.RowKit
set_option linter.unusedVariables false
set_option linter.unusedSimpArgs false

def cmpZ (a b : Int) : Int := if a < b then -1 else if b < a then 1 else 0
set_option maxRecDepth 100000 in
set_option maxHeartbeats 8000000 in
theorem cmp_nan_u (a : Int) : Spec Tryz.prog 84 [.ca (.val (vu a))] [] (.ca (.val (vb false))) [] := by
  refine spec_of Tryz.func84 rfl Tryz.ntmps84 Tryz.results84 ⟨by decide, by simp⟩ fun C hC => ?_
  (repeat' ((first | refine sp_ ?_ | exact ex0 | refine condK_eq (fun h => ?_) (fun h => ?_) | refine condK_dec (fun h => ?_) (fun h => ?_) | refine condK_if (fun h => ?_) (fun h => ?_) | (refine ret_s [] ?_; simp (decide := true) (disch := omega) only [go_sem, ↓reduceIte, ↓put_at]))))
set_option maxRecDepth 100000 in
set_option maxHeartbeats 8000000 in
theorem cmp_u32 (a b : Int) : Spec Tryz.prog 59 [.ca (.val (vu a)), .ca (.val (vu b))] [] (.ca (.val (vi (cmpZ a b)))) [] := by
  have c1 := cmp_nan_u a
  have c2 := cmp_nan_u b
  unfold cmpZ
  by_cases h1 : a < b
  · rw [if_pos h1]
    refine spec_of Tryz.func59 rfl Tryz.ntmps59 Tryz.results59 ⟨by decide, by simp⟩ fun C hC => ?_
    (repeat' ((first | refine sp_ ?_ | exact ex0 | refine call_u Tryz.call84 (c1) [] ex1 ?_ | refine call_u Tryz.call84 (c2) [] ex1 ?_ | refine condK_eq (fun h => ?_) (fun h => ?_) | refine condK_dec (fun h => ?_) (fun h => ?_) | refine condK_if (fun h => ?_) (fun h => ?_) | (refine ret_s [] ?_; simp (decide := true) (disch := omega) only [go_sem, ↓reduceIte, ↓put_at]))))
  · rw [if_neg h1]
    by_cases h2 : b < a
    · rw [if_pos h2]
      refine spec_of Tryz.func59 rfl Tryz.ntmps59 Tryz.results59 ⟨by decide, by simp⟩ fun C hC => ?_
      (repeat' ((first | refine sp_ ?_ | exact ex0 | refine call_u Tryz.call84 (c1) [] ex1 ?_ | refine call_u Tryz.call84 (c2) [] ex1 ?_ | refine condK_eq (fun h => ?_) (fun h => ?_) | refine condK_dec (fun h => ?_) (fun h => ?_) | refine condK_if (fun h => ?_) (fun h => ?_) | (refine ret_s [] ?_; simp (decide := true) (disch := omega) only [go_sem, ↓reduceIte, ↓put_at]))))
    · rw [if_neg h2]
      refine spec_of Tryz.func59 rfl Tryz.ntmps59 Tryz.results59 ⟨by decide, by simp⟩ fun C hC => ?_
      (repeat' ((first | refine sp_ ?_ | exact ex0 | refine call_u Tryz.call84 (c1) [] ex1 ?_ | refine call_u Tryz.call84 (c2) [] ex1 ?_ | refine condK_eq (fun h => ?_) (fun h => ?_) | refine condK_dec (fun h => ?_) (fun h => ?_) | refine condK_if (fun h => ?_) (fun h => ?_) | (refine ret_s [] ?_; simp (decide := true) (disch := omega) only [go_sem, ↓reduceIte, ↓put_at]))))
/-- How many come first. -/
def firstN (c : Nat → Int) : Nat → Nat
  | 0 => 0
  | n + 1 => if firstN c n = n ∧ c n < 0 then n + 1 else firstN c n
theorem firstN_is (c : Nat → Int) (n : Nat) : ∀ i, i ≤ n → (∀ k, k < i → c k < 0) → (∀ k, i ≤ k → k < n → 0 ≤ c k) → firstN c n = i := by
  induction n with
  | zero => intro i hi _ _; simp [firstN]; omega
  | succ n ih =>
    intro i hi h1 h2
    unfold firstN
    by_cases e : i = n + 1
    · subst e
      have := ih n (Nat.le_refl _) (fun k hk => h1 k (by omega)) (fun k a b => by omega)
      rw [if_pos ⟨this, h1 n (by omega)⟩]
    · have := ih i (by omega) h1 (fun k a b => h2 k a (by omega))
      have h3 := h2 n (by omega) (by omega)
      rw [if_neg (fun h => by omega)]
      exact this
set_option maxRecDepth 100000 in
set_option maxHeartbeats 4000000 in
theorem sl_bs_fr (es : List V) (t : Int) (K : FuncId) (hK : ∀ args w, (callFunc K args).run Tryz.prog w = .ok (.enter K args) w) (c : Nat → Int) (hl : es.length ≤ 1000000)
    (hc : ∀ i (h : i < es.length), Spec Tryz.prog K [.ca (.val (es[i])), .ca (.val (vu t))] [] (.ca (.val (vi (c i)))) []) (hm : ∀ i j, i ≤ j → j < es.length → 0 ≤ c i → 0 ≤ c j) :
    Spec Tryz.prog 57 [.ca (.val (.lst 1 (es.map fun x => [x]))), .ca (.val (vu t)), .fn K []] [] (.ca (.val (.tup [vi (firstN c es.length), vb (decide (firstN c es.length < es.length) && decide (c (firstN c es.length) = 0))]))) [] := by
  refine spec_of Tryz.func57 rfl Tryz.ntmps57 Tryz.results57 ⟨by decide, by simp⟩ fun C hC => ?_
  (repeat' ((fail_if_success (refine stop_reg 3 ?_)); (first | refine sp_ ?_ | exact ex0 | (refine ret_s [] ?_; simp (decide := true) (disch := omega) only [go_sem, ↓reduceIte, ↓put_at]))))
  refine loop_s (α := {x : Nat × Nat // x.1 ≤ x.2 ∧ x.2 ≤ es.length ∧ (∀ k, k < x.1 → c k < 0) ∧ (∀ k, x.2 ≤ k → k < es.length → 0 ≤ c k)}) (fun x => [(.s 0, .av (.val (.lst 1 (es.map fun x => [x])))), (.s 1, .av (.val (vu t))), (.s 2, .av (.fn K [])), (.s 8, .av (.val (vi es.length))), (.s 9, .av (.val (vi x.1.1))), (.s 10, .av (.val (vi x.1.2)))]) (fun x => x.1.2 - x.1.1) ⟨(0, es.length), Nat.zero_le _, Nat.le_refl _, fun k h => by omega, fun k a b => by omega⟩ ?_ (fun x => ?_)
  · simp (decide := true) (disch := omega) only [go_sem, ↓reduceIte, ↓put_at]
  · obtain ⟨⟨i, j⟩, h1, h2, h3, h4⟩ := x
    dsimp only at h1 h2 h3 h4 ⊢
    by_cases hij : i < j
    · have hh : (i + j) / 2 < es.length := by omega
      obtain ⟨h, hh0⟩ : ∃ h, h = (i + j) / 2 := ⟨_, rfl⟩
      rw [← hh0] at hh
      have hch := hc h hh
      have hi1 : (((i : Int) + (j : Int)) / 2).toNat = h := by omega
      have hi2 : ((i : Int) + (j : Int)) / 2 = (h : Int) := by omega
      have hge : (es.map fun x => [x]).getD h [] = [es[h]] := by simp [hh]
      (repeat' ((first | refine sp_ ?_ | exact ex0 | (refine ret_s [] ?_; simp (decide := true) (disch := omega) only [go_sem, ↓reduceIte, ↓put_at]))))
      simp only [hi1, hge]
      refine pfcall_u hK [] hch (by simp (decide := true) (disch := omega) only [go_sem, ↓reduceIte, ↓put_at]) ?_
      by_cases hneg : c h < 0
      · (repeat' ((first | refine sp_ ?_ | exact ex0 | (refine ret_s [] ?_; simp (decide := true) (disch := omega) only [go_sem, ↓reduceIte, ↓put_at]))))
        refine next_s (α := {x : Nat × Nat // x.1 ≤ x.2 ∧ x.2 ≤ es.length ∧ (∀ k, k < x.1 → c k < 0) ∧ (∀ k, x.2 ≤ k → k < es.length → 0 ≤ c k)}) ⟨(h + 1, j), by dsimp only; omega, h2, fun k hk => ?_, h4⟩ ⟨?_, by dsimp only; omega⟩
        · dsimp only at hk
          by_cases hki : k < i
          · exact h3 k hki
          · exact Int.not_le.1 fun h0 => absurd (hm k h (by omega) hh h0) (by omega)
        · simp (decide := true) (disch := omega) only [go_sem, ↓reduceIte, ↓put_at]
          omega
      · (repeat' ((first | refine sp_ ?_ | exact ex0 | (refine ret_s [] ?_; simp (decide := true) (disch := omega) only [go_sem, ↓reduceIte, ↓put_at]))))
        refine next_s (α := {x : Nat × Nat // x.1 ≤ x.2 ∧ x.2 ≤ es.length ∧ (∀ k, k < x.1 → c k < 0) ∧ (∀ k, x.2 ≤ k → k < es.length → 0 ≤ c k)}) ⟨(i, h), by dsimp only; omega, by dsimp only; omega, h3, fun k hk hk2 => hm h k hk hk2 (by omega)⟩ ⟨?_, by dsimp only; omega⟩
        simp (decide := true) (disch := omega) only [go_sem, ↓reduceIte, ↓put_at]
        omega
    · obtain rfl : j = i := by omega
      have hf := firstN_is c es.length j h2 h3 h4
      rw [hf]
      by_cases hn : j < es.length
      · have hcj := hc j hn
        have hge : (es.map fun x => [x]).getD j [] = [es[j]] := by simp [hn]
        rw [decide_eq_true hn, Bool.true_and]
        (repeat' ((first | refine sp_ ?_ | exact ex0 | (refine ret_s [] ?_; simp (decide := true) (disch := omega) only [go_sem, ↓reduceIte, ↓put_at]))))
        (try simp only [hge])
        refine pfcall_u hK [] hcj (by simp (decide := true) (disch := omega) only [go_sem, ↓reduceIte, ↓put_at]) ?_
        by_cases h0 : c j = 0
        · rw [decide_eq_true h0]
          (repeat' ((first | refine sp_ ?_ | exact ex0 | (refine ret_s [] ?_; simp (decide := true) (disch := omega) only [go_sem, ↓reduceIte, ↓put_at]))))
        · rw [decide_eq_false h0]
          (repeat' ((first | refine sp_ ?_ | exact ex0 | (refine ret_s [] ?_; simp (decide := true) (disch := omega) only [go_sem, ↓reduceIte, ↓put_at]))))
      · rw [decide_eq_false hn, Bool.false_and]
        (repeat' ((first | refine sp_ ?_ | exact ex0 | (refine ret_s [] ?_; simp (decide := true) (disch := omega) only [go_sem, ↓reduceIte, ↓put_at]))))
theorem ins_a (es Z : List (List V)) (v : List V) (i : Nat) (hi : i ≤ es.length) : List.take (0 + i) (es.take i ++ Z) ++ [v] ++ List.drop (0 + i + 1) (es.take i ++ Z) = es.take i ++ v :: Z.drop 1 := by
  have h : (es.take i).length = i := by rw [List.length_take]; omega
  rw [Nat.zero_add, List.take_append_of_le_length (by omega), List.take_of_length_le (by omega), List.drop_append, List.drop_of_length_le (by omega), h, show i + 1 - i = 1 by omega]
  simp
theorem ovl_fr : ∀ u v w w', (Extern.SlicesOverlaps.overlaps #[56, 56] #[4] #[u, v]).run Tryz.prog w = .ok (.bool false) w' → (callFunc 85 #[u, v]).run Tryz.prog w = .ok (.value (.bool false)) w' := by
  intro u v w w' h
  rw [run_callFunc_extern (fn := Tryz.f85) (by kernel_rfl) (by kernel_rfl) (by kernel_rfl) (by kernel_rfl) (e := Extern.SlicesOverlaps.overlaps #[56, 56] #[4]) (by kernel_rfl), h]
  rfl
set_option maxRecDepth 100000 in
set_option maxHeartbeats 4000000 in
theorem sl_ins_fr (es : List (List V)) (v : List V) (i : Nat) (hi : i ≤ es.length) (hl : es.length < 1000000) (hsz : ∀ r ∈ es, r.length = 1) (hone : ∀ r ∈ es, ∀ y ∈ r, oneV y = true) (hv : v.length = 1) (hvo : ∀ y ∈ v, oneV y = true) :
    Spec Tryz.prog 61 [.ca (.hd (.rw 83 1 es)), .ca (.val (vi i)), .ca (.own 83 1 [v])] [] (.ca (.hd (.rw 83 1 (es.take i ++ v :: es.drop i)))) [] := by
  refine spec_of Tryz.func61 rfl Tryz.ntmps61 Tryz.results61 ⟨by decide, by simp⟩ fun C hC => ?_
  refine cap_s (0, 1) [30, 40, 60, 77] 83 1 es ⟨⟨by kernel_rfl, by rw [hC]; decide⟩, fun n h1 h2 => ?_⟩
  (repeat' ((first | refine sp_ ?_ | exact ex0 | refine condK_eq (fun h => ?_) (fun h => ?_) | refine condK_dec (fun h => ?_) (fun h => ?_) | refine condK_if (fun h => ?_) (fun h => ?_) | (refine ret_s [] ?_; simp (decide := true) (disch := omega) only [go_sem, ↓reduceIte, ↓put_at]))))
  · refine ⟨⟨by omega, by omega, hv, hvo⟩, ?_⟩
    (repeat' ((first | refine sp_ ?_ | exact ex0 | refine condK_eq (fun h => ?_) (fun h => ?_) | refine condK_dec (fun h => ?_) (fun h => ?_) | refine condK_if (fun h => ?_) (fun h => ?_) | (refine ret_s [] ?_; simp (decide := true) (disch := omega) only [go_sem, ↓reduceIte, ↓put_at]))))
    have hin : i = es.length := by omega
    rw [List.take_of_length_le (by omega), List.drop_of_length_le (by omega)]
  · generalize hZ : List.replicate ((es.length : Int) + 1 - i).toNat _ = Z
    have hZl : Z.length = es.length + 1 - i := by rw [← hZ, List.length_replicate]; omega
    rw [ins_a es Z v i hi]
    generalize hW : es.take i ++ v :: Z.drop 1 = W
    have hWl : W.length = es.length + 1 := by rw [← hW]; simp [hZl]; omega
    simp only [List.length_take, hZl]
    refine ⟨by omega, ?_⟩
    (repeat' ((first | refine sp_ ?_ | exact ex0 | refine condK_eq (fun h => ?_) (fun h => ?_) | refine condK_dec (fun h => ?_) (fun h => ?_) | refine condK_if (fun h => ?_) (fun h => ?_) | (refine ret_s [] ?_; simp (decide := true) (disch := omega) only [go_sem, ↓reduceIte, ↓put_at]))))
    refine ⟨⟨by omega, by omega, hv, hvo⟩, ?_⟩
    (repeat' ((first | refine sp_ ?_ | exact ex0 | refine condK_eq (fun h => ?_) (fun h => ?_) | refine condK_dec (fun h => ?_) (fun h => ?_) | refine condK_if (fun h => ?_) (fun h => ?_) | (refine ret_s [] ?_; simp (decide := true) (disch := omega) only [go_sem, ↓reduceIte, ↓put_at]))))
    have hD : List.take (es.length - i) (List.drop (0 + i) es) = es.drop i := by rw [Nat.zero_add, List.take_of_length_le (by rw [List.length_drop]; omega)]
    have hi1 : ((i : Int) + 1).toNat = i + 1 := by omega
    have hR : List.take (0 + (i + 1)) W ++ es.drop i ++ List.drop (0 + (i + 1) + (es.length - i)) W = es.take i ++ v :: es.drop i := by
      have e1 : List.drop (0 + (i + 1) + (es.length - i)) W = [] := List.drop_of_length_le (by omega)
      have e2 : List.take (0 + (i + 1)) W = es.take i ++ [v] := by
        have e3 : (es.take i ++ [v]).length = i + 1 := by rw [List.length_append, List.length_take]; simp; omega
        rw [← hW, Nat.zero_add, show es.take i ++ v :: Z.drop 1 = (es.take i ++ [v]) ++ Z.drop 1 by simp, List.take_append_of_le_length (by omega), List.take_of_length_le (by omega)]
      rw [e1, e2]; simp
    rw [hD, hi1]
    simp only [List.length_drop, hR]
    refine ⟨⟨by omega, by omega, fun r h => hsz r (List.mem_of_mem_drop h), fun r h => hone r (List.mem_of_mem_drop h), by omega⟩, ?_⟩
    (repeat' ((first | refine sp_ ?_ | exact ex0 | refine condK_eq (fun h => ?_) (fun h => ?_) | refine condK_dec (fun h => ?_) (fun h => ?_) | refine condK_if (fun h => ?_) (fun h => ?_) | (refine ret_s [] ?_; simp (decide := true) (disch := omega) only [go_sem, ↓reduceIte, ↓put_at]))))
  · have hLl : (longer es 1 ((es.length : Int) + 1).toNat).length = es.length + 1 := by rw [longer_len (by omega)]; omega
    have hLt : ∀ k, k ≤ es.length → (longer es 1 ((es.length : Int) + 1).toNat).take k = es.take k := fun k hk => by unfold longer; rw [List.take_append_of_le_length hk]
    generalize longer es 1 ((es.length : Int) + 1).toNat = Z at *
    simp only [hLl]
    refine ⟨by omega, ?_⟩
    refine ovl_s (e := 83) (sz := 1) (off := i + 1) (len := es.length - i) (es := Z) (vs := [v]) (ex := 83) (e' := 83) (2, 0) (0, 1) ovl_fr (by kernel_rfl) (by kernel_rfl) (by decide) (by simp (decide := true) (disch := omega) only [go_sem, ↓reduceIte, ↓put_at]) (by simp (decide := true) (disch := omega) only [go_sem, ↓reduceIte, ↓put_at]) (by simp) (by simp (decide := true) (disch := omega) only [go_sem, ↓reduceIte, ↓put_at]; exact ⟨by omega, by omega⟩) (by simp (decide := true) (disch := omega) only [go_sem, ↓reduceIte, ↓put_at]) (by omega) ?_
    (repeat' ((first | refine sp_ ?_ | exact ex0 | refine condK_eq (fun h => ?_) (fun h => ?_) | refine condK_dec (fun h => ?_) (fun h => ?_) | refine condK_if (fun h => ?_) (fun h => ?_) | (refine ret_s [] ?_; simp (decide := true) (disch := omega) only [go_sem, ↓reduceIte, ↓put_at]))))
    have hi1 : ((i : Int) + 1).toNat = i + 1 := by omega
    have hD : List.take (Z.length - (i + 1)) (List.drop (0 + i) Z) = es.drop i := by
      have := hLt es.length (Nat.le_refl _)
      rw [List.take_length] at this
      rw [hLl, Nat.zero_add, ← this, List.drop_take, List.length_take]
      congr 1; omega
    have hE : List.drop (0 + (i + 1) + (Z.length - (i + 1))) Z = [] := List.drop_of_length_le (by omega)
    rw [hi1, hD, hE]
    have hWl : (List.take (0 + (i + 1)) Z ++ es.drop i ++ []).length = es.length + 1 := by simp; omega
    have hR : List.take (0 + i) (List.take (0 + (i + 1)) Z ++ es.drop i ++ []) ++ [v] ++ List.drop (0 + i + 1) (List.take (0 + (i + 1)) Z ++ es.drop i ++ []) = es.take i ++ v :: es.drop i := by
      have h1 : (List.take (0 + (i + 1)) Z).length = i + 1 := by rw [List.length_take]; omega
      rw [List.append_nil, List.take_append_of_le_length (by omega), List.take_take, List.drop_append, List.drop_of_length_le (by omega), h1, show min (0 + i) (0 + (i + 1)) = i by omega, hLt i hi, show 0 + i + 1 - (i + 1) = 0 by omega]
      simp
    generalize List.take (0 + (i + 1)) Z ++ es.drop i ++ [] = W at *
    refine ⟨⟨by omega, by omega, by omega, fun r h => hone r (List.mem_of_mem_drop h)⟩, ?_⟩
    (repeat' ((first | refine sp_ ?_ | exact ex0 | refine condK_eq (fun h => ?_) (fun h => ?_) | refine condK_dec (fun h => ?_) (fun h => ?_) | refine condK_if (fun h => ?_) (fun h => ?_) | (refine ret_s [] ?_; simp (decide := true) (disch := omega) only [go_sem, ↓reduceIte, ↓put_at]))))
    rw [hR]
    refine ⟨⟨by omega, by omega, hv, hvo⟩, ?_⟩
    (repeat' ((first | refine sp_ ?_ | exact ex0 | refine condK_eq (fun h => ?_) (fun h => ?_) | refine condK_dec (fun h => ?_) (fun h => ?_) | refine condK_if (fun h => ?_) (fun h => ?_) | (refine ret_s [] ?_; simp (decide := true) (disch := omega) only [go_sem, ↓reduceIte, ↓put_at]))))
set_option maxRecDepth 100000 in
set_option maxHeartbeats 4000000 in
theorem sl_del_fr (es : List (List V)) (i j : Nat) (hi : i < j) (hj : j ≤ es.length) (hl : es.length < 1000000) (hsz : ∀ r ∈ es, r.length = 1) (hone : ∀ r ∈ es, ∀ y ∈ r, oneV y = true) :
    Spec Tryz.prog 65 [.ca (.hd (.rw 83 1 es)), .ca (.val (vi i)), .ca (.val (vi j))] [] (.ca (.hd (.rw 83 1 (es.take i ++ es.drop j)))) [] := by
  refine spec_of Tryz.func65 rfl Tryz.ntmps65 Tryz.results65 ⟨by decide, by simp⟩ fun C hC => ?_
  refine cap_s (0, 1) [26] 83 1 es ⟨⟨by kernel_rfl, by rw [hC]; decide⟩, fun n h1 h2 => ?_⟩
  (repeat' ((fail_if_success (first | refine stop_at 7 ?_ | refine stop_l 7 ?_)); (first | refine sp_ ?_ | exact ex0 | (refine ret_s [] ?_; simp (decide := true) (disch := omega) only [go_sem, ↓reduceIte, ↓put_at]))))
  have hD : List.take (es.length - j) (List.drop (0 + j) es) = es.drop j := by rw [Nat.zero_add, List.take_of_length_le (by rw [List.length_drop]; omega)]
  rw [hD]
  simp only [List.length_drop]
  have hT : (es.take i ++ es.drop j ++ List.drop (i + (es.length - j)) es).take (i + (es.length - j)) = es.take i ++ es.drop j := by
    have h1 : (es.take i ++ es.drop j).length = i + (es.length - j) := by rw [List.length_append, List.length_take, List.length_drop]; omega
    rw [List.take_append_of_le_length (by omega), List.take_of_length_le (by omega)]
  have hWl : (es.take i ++ es.drop j ++ List.drop (i + (es.length - j)) es).length = es.length := by simp; omega
  generalize es.take i ++ es.drop j ++ List.drop (i + (es.length - j)) es = W at *
  refine ⟨⟨by omega, fun r h => hsz r (List.mem_of_mem_drop h), fun r h => hone r (List.mem_of_mem_drop h), by omega⟩, ?_⟩
  (repeat' ((fail_if_success (first | refine stop_at 7 ?_ | refine stop_l 7 ?_)); (first | refine sp_ ?_ | exact ex0 | (refine ret_s [] ?_; simp (decide := true) (disch := omega) only [go_sem, ↓reduceIte, ↓put_at]))))
  refine shr_s 0 (0, 1) (i + (es.length - j)) 83 1 (List.take (0 + (i + (es.length - j))) W ++ List.replicate (es.length - (i + (es.length - j))) [V.sc (.pointer none)] ++ List.drop (0 + (i + (es.length - j)) + (es.length - (i + (es.length - j)))) W) ⟨⟨by kernel_rfl, by kernel_rfl, by simp; omega, by rw [hC]; decide⟩, ?_⟩
  have hT2 : (List.take (0 + (i + (es.length - j))) W ++ List.replicate (es.length - (i + (es.length - j))) [V.sc (.pointer none)] ++ List.drop (0 + (i + (es.length - j)) + (es.length - (i + (es.length - j)))) W).take (i + (es.length - j)) = es.take i ++ es.drop j := by
    have h1 : (List.take (i + (es.length - j)) W).length = i + (es.length - j) := by rw [List.length_take]; omega
    rw [Nat.zero_add, List.append_assoc, List.take_append_of_le_length (by omega), List.take_of_length_le (by omega), hT]
  rw [hT2]
  (repeat' ((first | refine sp_ ?_ | exact ex0 | refine condK_eq (fun h => ?_) (fun h => ?_) | refine condK_dec (fun h => ?_) (fun h => ?_) | refine condK_if (fun h => ?_) (fun h => ?_) | (refine ret_s [] ?_; simp (decide := true) (disch := omega) only [go_sem, ↓reduceIte, ↓put_at]))))
end Go.Proofs.YtkclmofjlmeolaaGreatDoor

