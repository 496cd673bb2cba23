
/- Package slices: rows put into, taken out of, at the entries of package table. -/
import Derived.Test.YtdgkehoodlncmaaRN
namespace Go.Proofs.Ytdgkehoodlncmaa
open Go.RowKit
set_option linter.unusedVariables false
set_option linter.unusedSimpArgs false

theorem ovl_ten : ∀ u v w w', (Extern.SlicesOverlaps.overlaps #[33, 33] #[4] #[u, v]).run Try.prog w = .ok (.bool false) w' → (callFunc 115 #[u, v]).run Try.prog w = .ok (.value (.bool false)) w' := by
  intro u v w w' h
  rw [run_callFunc_extern (fn := Try.f115) (by kernel_rfl) (by kernel_rfl) (by kernel_rfl) (by kernel_rfl) (e := Extern.SlicesOverlaps.overlaps #[33, 33] #[4]) (by kernel_rfl), h]
  rfl
theorem ins_a (es Z : List (List V)) (v : List V) (i : Nat) (hi : i ≤ es.length) : List.take (0 + i) (es.take i ++ Z) ++ [v] ++ List.drop (0 + i + 1) (es.take i ++ Z) = es.take i ++ v :: Z.drop 1 := by
  have h : (es.take i).length = i := by rw [List.length_take]; omega
  rw [Nat.zero_add, List.take_append_of_le_length (by omega), List.take_of_length_le (by omega), List.drop_append, List.drop_of_length_le (by omega), h, show i + 1 - i = 1 by omega]
  simp
set_option maxRecDepth 100000 in
set_option maxHeartbeats 4000000 in
theorem sl_ins_ten (es : List (List V)) (v : List V) (i : Nat) (hi : i ≤ es.length) (hl : es.length < 1000000) (hsz : ∀ r ∈ es, r.length = 3) (hone : ∀ r ∈ es, ∀ y ∈ r, oneV y = true) (hv : v.length = 3) (hvo : ∀ y ∈ v, oneV y = true) :
    Spec Try.prog 63 [.ca (.hd (.rw 32 3 es)), .ca (.val (vi i)), .ca (.own 32 3 [v])] [] (.ca (.hd (.rw 32 3 (es.take i ++ v :: es.drop i)))) [] := by
  refine spec_of Try.func63 rfl Try.ntmps63 Try.results63 ⟨by decide, by simp⟩ fun C hC => ?_
  refine cap_s (0, 1) [30, 40, 60, 77] 32 3 es ⟨⟨by kernel_rfl, by rw [hC]; decide⟩, fun n h1 h2 => ?_⟩
  (repeat' ((first | refine aw_seq ?_ | refine aw_block ?_ | refine aw_reg hC (by kernel_rfl) ?_ | refine aw_regd hC Try.checked.mixed (by kernel_rfl) ?_ | refine chk_and (by kernel_rfl) ?_ | refine aw_skip ?_ | refine aw_if ?_ | refine And.intro (by first | omega | with_reducible assumption) ?_ | refine aw_exit ?_ | refine aw_ret ?_ | (simp (decide := true) (disch := omega) only [go_sem, ↓reduceIte, ↓put_at]) | refine condK_eq (fun h => ?_) (fun h => ?_) | refine condK_dec (fun h => ?_) (fun h => ?_) | refine condK_if (fun h => ?_) (fun h => ?_) | (refine ret_s [] ?_; simp (decide := true) (disch := omega) only [go_sem, ↓reduceIte, ↓put_at]))))
  · refine ⟨⟨by omega, by omega, hv, hvo⟩, ?_⟩
    (repeat' ((first | refine aw_seq ?_ | refine aw_block ?_ | refine aw_reg hC (by kernel_rfl) ?_ | refine aw_regd hC Try.checked.mixed (by kernel_rfl) ?_ | refine chk_and (by kernel_rfl) ?_ | refine aw_skip ?_ | refine aw_if ?_ | refine And.intro (by first | omega | with_reducible assumption) ?_ | refine aw_exit ?_ | refine aw_ret ?_ | (simp (decide := true) (disch := omega) only [go_sem, ↓reduceIte, ↓put_at]) | refine condK_eq (fun h => ?_) (fun h => ?_) | refine condK_dec (fun h => ?_) (fun h => ?_) | refine condK_if (fun h => ?_) (fun h => ?_) | (refine ret_s [] ?_; simp (decide := true) (disch := omega) only [go_sem, ↓reduceIte, ↓put_at]))))
    have hin : i = es.length := by omega
    rw [List.take_of_length_le (by omega), List.drop_of_length_le (by omega)]
  · generalize hZ : List.replicate ((es.length : Int) + 1 - i).toNat _ = Z
    have hZl : Z.length = es.length + 1 - i := by rw [← hZ, List.length_replicate]; omega
    rw [ins_a es Z v i hi]
    generalize hW : es.take i ++ v :: Z.drop 1 = W
    have hWl : W.length = es.length + 1 := by rw [← hW]; simp [hZl]; omega
    simp only [List.length_take, hZl]
    refine ⟨by omega, ?_⟩
    (repeat' ((first | refine aw_seq ?_ | refine aw_block ?_ | refine aw_reg hC (by kernel_rfl) ?_ | refine aw_regd hC Try.checked.mixed (by kernel_rfl) ?_ | refine chk_and (by kernel_rfl) ?_ | refine aw_skip ?_ | refine aw_if ?_ | refine And.intro (by first | omega | with_reducible assumption) ?_ | refine aw_exit ?_ | refine aw_ret ?_ | (simp (decide := true) (disch := omega) only [go_sem, ↓reduceIte, ↓put_at]) | refine condK_eq (fun h => ?_) (fun h => ?_) | refine condK_dec (fun h => ?_) (fun h => ?_) | refine condK_if (fun h => ?_) (fun h => ?_) | (refine ret_s [] ?_; simp (decide := true) (disch := omega) only [go_sem, ↓reduceIte, ↓put_at]))))
    refine ⟨⟨by omega, by omega, hv, hvo⟩, ?_⟩
    (repeat' ((first | refine aw_seq ?_ | refine aw_block ?_ | refine aw_reg hC (by kernel_rfl) ?_ | refine aw_regd hC Try.checked.mixed (by kernel_rfl) ?_ | refine chk_and (by kernel_rfl) ?_ | refine aw_skip ?_ | refine aw_if ?_ | refine And.intro (by first | omega | with_reducible assumption) ?_ | refine aw_exit ?_ | refine aw_ret ?_ | (simp (decide := true) (disch := omega) only [go_sem, ↓reduceIte, ↓put_at]) | refine condK_eq (fun h => ?_) (fun h => ?_) | refine condK_dec (fun h => ?_) (fun h => ?_) | refine condK_if (fun h => ?_) (fun h => ?_) | (refine ret_s [] ?_; simp (decide := true) (disch := omega) only [go_sem, ↓reduceIte, ↓put_at]))))
    have hD : List.take (es.length - i) (List.drop (0 + i) es) = es.drop i := by rw [Nat.zero_add, List.take_of_length_le (by rw [List.length_drop]; omega)]
    have hi1 : ((i : Int) + 1).toNat = i + 1 := by omega
    have hR : List.take (0 + (i + 1)) W ++ es.drop i ++ List.drop (0 + (i + 1) + (es.length - i)) W = es.take i ++ v :: es.drop i := by
      have e1 : List.drop (0 + (i + 1) + (es.length - i)) W = [] := List.drop_of_length_le (by omega)
      have e2 : List.take (0 + (i + 1)) W = es.take i ++ [v] := by
        have e3 : (es.take i ++ [v]).length = i + 1 := by rw [List.length_append, List.length_take]; simp; omega
        rw [← hW, Nat.zero_add, show es.take i ++ v :: Z.drop 1 = (es.take i ++ [v]) ++ Z.drop 1 by simp, List.take_append_of_le_length (by omega), List.take_of_length_le (by omega)]
      rw [e1, e2]; simp
    rw [hD, hi1]
    simp only [List.length_drop, hR]
    refine ⟨⟨by omega, by omega, fun r h => hsz r (List.mem_of_mem_drop h), fun r h => hone r (List.mem_of_mem_drop h), by omega⟩, ?_⟩
    (repeat' ((first | refine aw_seq ?_ | refine aw_block ?_ | refine aw_reg hC (by kernel_rfl) ?_ | refine aw_regd hC Try.checked.mixed (by kernel_rfl) ?_ | refine chk_and (by kernel_rfl) ?_ | refine aw_skip ?_ | refine aw_if ?_ | refine And.intro (by first | omega | with_reducible assumption) ?_ | refine aw_exit ?_ | refine aw_ret ?_ | (simp (decide := true) (disch := omega) only [go_sem, ↓reduceIte, ↓put_at]) | refine condK_eq (fun h => ?_) (fun h => ?_) | refine condK_dec (fun h => ?_) (fun h => ?_) | refine condK_if (fun h => ?_) (fun h => ?_) | (refine ret_s [] ?_; simp (decide := true) (disch := omega) only [go_sem, ↓reduceIte, ↓put_at]))))
  · have hLl : (longer es 3 ((es.length : Int) + 1).toNat).length = es.length + 1 := by rw [longer_len (by omega)]; omega
    have hLt : ∀ k, k ≤ es.length → (longer es 3 ((es.length : Int) + 1).toNat).take k = es.take k := fun k hk => by unfold longer; rw [List.take_append_of_le_length hk]
    generalize longer es 3 ((es.length : Int) + 1).toNat = Z at *
    simp only [hLl]
    refine ⟨by omega, ?_⟩
    refine ovl_s (e := 32) (sz := 3) (off := i + 1) (len := es.length - i) (es := Z) (vs := [v]) (ex := 32) (e' := 32) (2, 0) (0, 1) ovl_ten (by kernel_rfl) (by kernel_rfl) (by decide) (by simp (decide := true) (disch := omega) only [go_sem, ↓reduceIte, ↓put_at]) (by simp (decide := true) (disch := omega) only [go_sem, ↓reduceIte, ↓put_at]) (by simp) (by simp (decide := true) (disch := omega) only [go_sem, ↓reduceIte, ↓put_at]; exact ⟨by omega, by omega⟩) (by simp (decide := true) (disch := omega) only [go_sem, ↓reduceIte, ↓put_at]) (by omega) ?_
    (repeat' ((first | refine aw_seq ?_ | refine aw_block ?_ | refine aw_reg hC (by kernel_rfl) ?_ | refine aw_regd hC Try.checked.mixed (by kernel_rfl) ?_ | refine chk_and (by kernel_rfl) ?_ | refine aw_skip ?_ | refine aw_if ?_ | refine And.intro (by first | omega | with_reducible assumption) ?_ | refine aw_exit ?_ | refine aw_ret ?_ | (simp (decide := true) (disch := omega) only [go_sem, ↓reduceIte, ↓put_at]) | refine condK_eq (fun h => ?_) (fun h => ?_) | refine condK_dec (fun h => ?_) (fun h => ?_) | refine condK_if (fun h => ?_) (fun h => ?_) | (refine ret_s [] ?_; simp (decide := true) (disch := omega) only [go_sem, ↓reduceIte, ↓put_at]))))
    have hi1 : ((i : Int) + 1).toNat = i + 1 := by omega
    have hD : List.take (Z.length - (i + 1)) (List.drop (0 + i) Z) = es.drop i := by
      have := hLt es.length (Nat.le_refl _)
      rw [List.take_length] at this
      rw [hLl, Nat.zero_add, ← this, List.drop_take, List.length_take]
      congr 1; omega
    have hE : List.drop (0 + (i + 1) + (Z.length - (i + 1))) Z = [] := List.drop_of_length_le (by omega)
    rw [hi1, hD, hE]
    have hWl : (List.take (0 + (i + 1)) Z ++ es.drop i ++ []).length = es.length + 1 := by simp; omega
    have hR : List.take (0 + i) (List.take (0 + (i + 1)) Z ++ es.drop i ++ []) ++ [v] ++ List.drop (0 + i + 1) (List.take (0 + (i + 1)) Z ++ es.drop i ++ []) = es.take i ++ v :: es.drop i := by
      have h1 : (List.take (0 + (i + 1)) Z).length = i + 1 := by rw [List.length_take]; omega
      rw [List.append_nil, List.take_append_of_le_length (by omega), List.take_take, List.drop_append, List.drop_of_length_le (by omega), h1, show min (0 + i) (0 + (i + 1)) = i by omega, hLt i hi, show 0 + i + 1 - (i + 1) = 0 by omega]
      simp
    generalize List.take (0 + (i + 1)) Z ++ es.drop i ++ [] = W at *
    refine ⟨⟨by omega, by omega, by omega, fun r h => hone r (List.mem_of_mem_drop h)⟩, ?_⟩
    (repeat' ((first | refine aw_seq ?_ | refine aw_block ?_ | refine aw_reg hC (by kernel_rfl) ?_ | refine aw_regd hC Try.checked.mixed (by kernel_rfl) ?_ | refine chk_and (by kernel_rfl) ?_ | refine aw_skip ?_ | refine aw_if ?_ | refine And.intro (by first | omega | with_reducible assumption) ?_ | refine aw_exit ?_ | refine aw_ret ?_ | (simp (decide := true) (disch := omega) only [go_sem, ↓reduceIte, ↓put_at]) | refine condK_eq (fun h => ?_) (fun h => ?_) | refine condK_dec (fun h => ?_) (fun h => ?_) | refine condK_if (fun h => ?_) (fun h => ?_) | (refine ret_s [] ?_; simp (decide := true) (disch := omega) only [go_sem, ↓reduceIte, ↓put_at]))))
    rw [hR]
    refine ⟨⟨by omega, by omega, hv, hvo⟩, ?_⟩
    (repeat' ((first | refine aw_seq ?_ | refine aw_block ?_ | refine aw_reg hC (by kernel_rfl) ?_ | refine aw_regd hC Try.checked.mixed (by kernel_rfl) ?_ | refine chk_and (by kernel_rfl) ?_ | refine aw_skip ?_ | refine aw_if ?_ | refine And.intro (by first | omega | with_reducible assumption) ?_ | refine aw_exit ?_ | refine aw_ret ?_ | (simp (decide := true) (disch := omega) only [go_sem, ↓reduceIte, ↓put_at]) | refine condK_eq (fun h => ?_) (fun h => ?_) | refine condK_dec (fun h => ?_) (fun h => ?_) | refine condK_if (fun h => ?_) (fun h => ?_) | (refine ret_s [] ?_; simp (decide := true) (disch := omega) only [go_sem, ↓reduceIte, ↓put_at]))))
set_option maxRecDepth 100000 in
set_option maxHeartbeats 4000000 in
theorem sl_del_ten (es : List (List V)) (i j : Nat) (hi : i < j) (hj : j ≤ es.length) (hl : es.length < 1000000) (hsz : ∀ r ∈ es, r.length = 3) (hone : ∀ r ∈ es, ∀ y ∈ r, oneV y = true) :
    Spec Try.prog 125 [.ca (.hd (.rw 32 3 es)), .ca (.val (vi i)), .ca (.val (vi j))] [] (.ca (.hd (.rw 32 3 (es.take i ++ es.drop j)))) [] := by
  refine spec_of Try.func125 rfl Try.ntmps125 Try.results125 ⟨by decide, by simp⟩ fun C hC => ?_
  refine cap_s (0, 1) [26] 32 3 es ⟨⟨by kernel_rfl, by rw [hC]; decide⟩, fun n h1 h2 => ?_⟩
  (repeat' ((fail_if_success (first | refine stop_at 7 ?_ | refine stop_l 7 ?_)); (first | refine aw_seq ?_ | refine aw_block ?_ | refine aw_reg hC (by kernel_rfl) ?_ | refine aw_regd hC Try.checked.mixed (by kernel_rfl) ?_ | refine chk_and (by kernel_rfl) ?_ | refine aw_skip ?_ | refine aw_if ?_ | refine And.intro (by first | omega | with_reducible assumption) ?_ | refine aw_exit ?_ | refine aw_ret ?_ | (simp (decide := true) (disch := omega) only [go_sem, ↓reduceIte, ↓put_at]) | (refine ret_s [] ?_; simp (decide := true) (disch := omega) only [go_sem, ↓reduceIte, ↓put_at]))))
  have hD : List.take (es.length - j) (List.drop (0 + j) es) = es.drop j := by rw [Nat.zero_add, List.take_of_length_le (by rw [List.length_drop]; omega)]
  rw [hD]
  simp only [List.length_drop]
  have hT : (es.take i ++ es.drop j ++ List.drop (i + (es.length - j)) es).take (i + (es.length - j)) = es.take i ++ es.drop j := by
    have h1 : (es.take i ++ es.drop j).length = i + (es.length - j) := by rw [List.length_append, List.length_take, List.length_drop]; omega
    rw [List.take_append_of_le_length (by omega), List.take_of_length_le (by omega)]
  have hWl : (es.take i ++ es.drop j ++ List.drop (i + (es.length - j)) es).length = es.length := by simp; omega
  generalize es.take i ++ es.drop j ++ List.drop (i + (es.length - j)) es = W at *
  refine ⟨⟨by omega, fun r h => hsz r (List.mem_of_mem_drop h), fun r h => hone r (List.mem_of_mem_drop h), by omega⟩, ?_⟩
  (repeat' ((fail_if_success (first | refine stop_at 7 ?_ | refine stop_l 7 ?_)); (first | refine aw_seq ?_ | refine aw_block ?_ | refine aw_reg hC (by kernel_rfl) ?_ | refine aw_regd hC Try.checked.mixed (by kernel_rfl) ?_ | refine chk_and (by kernel_rfl) ?_ | refine aw_skip ?_ | refine aw_if ?_ | refine And.intro (by first | omega | with_reducible assumption) ?_ | refine aw_exit ?_ | refine aw_ret ?_ | (simp (decide := true) (disch := omega) only [go_sem, ↓reduceIte, ↓put_at]) | (refine ret_s [] ?_; simp (decide := true) (disch := omega) only [go_sem, ↓reduceIte, ↓put_at]))))
  refine shr_s 0 (0, 1) (i + (es.length - j)) 32 3 (List.take (0 + (i + (es.length - j))) W ++ List.replicate (es.length - (i + (es.length - j))) [vi 0, vb false, vi 0] ++ List.drop (0 + (i + (es.length - j)) + (es.length - (i + (es.length - j)))) W) ⟨⟨by kernel_rfl, by kernel_rfl, by simp; omega, by rw [hC]; decide⟩, ?_⟩
  have hT2 : (List.take (0 + (i + (es.length - j))) W ++ List.replicate (es.length - (i + (es.length - j))) [vi 0, vb false, vi 0] ++ List.drop (0 + (i + (es.length - j)) + (es.length - (i + (es.length - j)))) W).take (i + (es.length - j)) = es.take i ++ es.drop j := by
    have h1 : (List.take (i + (es.length - j)) W).length = i + (es.length - j) := by rw [List.length_take]; omega
    rw [Nat.zero_add, List.append_assoc, List.take_append_of_le_length (by omega), List.take_of_length_le (by omega), hT]
  rw [hT2]
  (repeat' ((first | refine aw_seq ?_ | refine aw_block ?_ | refine aw_reg hC (by kernel_rfl) ?_ | refine aw_regd hC Try.checked.mixed (by kernel_rfl) ?_ | refine chk_and (by kernel_rfl) ?_ | refine aw_skip ?_ | refine aw_if ?_ | refine And.intro (by first | omega | with_reducible assumption) ?_ | refine aw_exit ?_ | refine aw_ret ?_ | (simp (decide := true) (disch := omega) only [go_sem, ↓reduceIte, ↓put_at]) | refine condK_eq (fun h => ?_) (fun h => ?_) | refine condK_dec (fun h => ?_) (fun h => ?_) | refine condK_if (fun h => ?_) (fun h => ?_) | (refine ret_s [] ?_; simp (decide := true) (disch := omega) only [go_sem, ↓reduceIte, ↓put_at]))))
set_option maxRecDepth 100000 in
set_option maxHeartbeats 4000000 in
theorem sl_clone_ten (es : List (List V)) (hl : es.length < 1000000) (hsz : ∀ r ∈ es, r.length = 3) (hone : ∀ r ∈ es, ∀ y ∈ r, oneV y = true) :
    Spec Try.prog 64 [.ca (.val (.lst 3 es))] [] (.ca (.hd (.rw 32 3 es))) [] := by
  refine spec_of Try.func64 rfl Try.ntmps64 Try.results64 ⟨by decide, by simp⟩ fun C hC => ?_
  refine mark_s (5, 1) [5] ⟨by rw [hC]; decide, fun n => ?_⟩
  (repeat' ((first | refine aw_seq ?_ | refine aw_block ?_ | refine aw_reg hC (by kernel_rfl) ?_ | refine aw_regd hC Try.checked.mixed (by kernel_rfl) ?_ | refine chk_and (by kernel_rfl) ?_ | refine aw_skip ?_ | refine aw_if ?_ | refine And.intro (by first | omega | with_reducible assumption) ?_ | refine aw_exit ?_ | refine aw_ret ?_ | (simp (decide := true) (disch := omega) only [go_sem, ↓reduceIte, ↓put_at]) | refine condK_eq (fun h => ?_) (fun h => ?_) | refine condK_dec (fun h => ?_) (fun h => ?_) | refine condK_if (fun h => ?_) (fun h => ?_) | (refine ret_s [] ?_; simp (decide := true) (disch := omega) only [go_sem, ↓reduceIte, ↓put_at]))))
  refine nil_s 3 es (by simp (decide := true) (disch := omega) only [go_sem, ↓reduceIte, ↓put_at]) (by simp (decide := true) (disch := omega) only [go_sem, ↓reduceIte, ↓put_at]) (fun b hb => ?_)
  cases b with
  | true =>
    obtain rfl := hb rfl
    (repeat' ((first | refine aw_seq ?_ | refine aw_block ?_ | refine aw_reg hC (by kernel_rfl) ?_ | refine aw_regd hC Try.checked.mixed (by kernel_rfl) ?_ | refine chk_and (by kernel_rfl) ?_ | refine aw_skip ?_ | refine aw_if ?_ | refine And.intro (by first | omega | with_reducible assumption) ?_ | refine aw_exit ?_ | refine aw_ret ?_ | (simp (decide := true) (disch := omega) only [go_sem, ↓reduceIte, ↓put_at]) | refine condK_eq (fun h => ?_) (fun h => ?_) | refine condK_dec (fun h => ?_) (fun h => ?_) | refine condK_if (fun h => ?_) (fun h => ?_) | (refine ret_s [] ?_; simp (decide := true) (disch := omega) only [go_sem, ↓reduceIte, ↓put_at]))))
  | false =>
    (repeat' ((first | refine aw_seq ?_ | refine aw_block ?_ | refine aw_reg hC (by kernel_rfl) ?_ | refine aw_regd hC Try.checked.mixed (by kernel_rfl) ?_ | refine chk_and (by kernel_rfl) ?_ | refine aw_skip ?_ | refine aw_if ?_ | refine And.intro (by first | omega | with_reducible assumption) ?_ | refine aw_exit ?_ | refine aw_ret ?_ | (simp (decide := true) (disch := omega) only [go_sem, ↓reduceIte, ↓put_at]) | refine condK_eq (fun h => ?_) (fun h => ?_) | refine condK_dec (fun h => ?_) (fun h => ?_) | refine condK_if (fun h => ?_) (fun h => ?_) | (refine ret_s [] ?_; simp (decide := true) (disch := omega) only [go_sem, ↓reduceIte, ↓put_at]))))
    refine ⟨⟨by omega, by omega, hsz, hone⟩, ?_⟩
    (repeat' ((first | refine aw_seq ?_ | refine aw_block ?_ | refine aw_reg hC (by kernel_rfl) ?_ | refine aw_regd hC Try.checked.mixed (by kernel_rfl) ?_ | refine chk_and (by kernel_rfl) ?_ | refine aw_skip ?_ | refine aw_if ?_ | refine And.intro (by first | omega | with_reducible assumption) ?_ | refine aw_exit ?_ | refine aw_ret ?_ | (simp (decide := true) (disch := omega) only [go_sem, ↓reduceIte, ↓put_at]) | refine condK_eq (fun h => ?_) (fun h => ?_) | refine condK_dec (fun h => ?_) (fun h => ?_) | refine condK_if (fun h => ?_) (fun h => ?_) | (refine ret_s [] ?_; simp (decide := true) (disch := omega) only [go_sem, ↓reduceIte, ↓put_at]))))
end Go.Proofs.Ytdgkehoodlncmaa
