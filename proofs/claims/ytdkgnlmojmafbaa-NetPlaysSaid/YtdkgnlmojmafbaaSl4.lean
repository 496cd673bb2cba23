
/- Package slices: rows taken out of, copied, at texts. -/
import Derived.Test.YtdkgnlmojmafbaaRN
namespace Go.Proofs.Ytdkgnlmojmafbaa
open Go.RowKit
set_option linter.unusedVariables false
set_option linter.unusedSimpArgs false

set_option maxRecDepth 100000 in
set_option maxHeartbeats 4000000 in
theorem sl_del_str (es : List (List V)) (i j : Nat) (hi : i < j) (hj : j ≤ es.length) (hl : es.length < 1000000) (hsz : ∀ r ∈ es, r.length = 1) (hone : ∀ r ∈ es, ∀ y ∈ r, oneV y = true) :
    Spec Try.prog 43 [.ca (.hd (.rw 9 1 es)), .ca (.val (vi i)), .ca (.val (vi j))] [] (.ca (.hd (.rw 9 1 (es.take i ++ es.drop j)))) [] := by
  refine spec_of Try.func43 rfl Try.ntmps43 Try.results43 ⟨by decide, by simp⟩ fun C hC => ?_
  refine cap_s (0, 1) [26] 9 1 es ⟨⟨by kernel_rfl, by rw [hC]; decide⟩, fun n h1 h2 => ?_⟩
  (repeat' ((fail_if_success (first | refine stop_at 7 ?_ | refine stop_l 7 ?_)); (first | refine sp_ ?_ | exact ex0 | (refine ret_s [] ?_; simp (decide := true) (disch := omega) only [go_sem, ↓reduceIte, ↓put_at]))))
  have hD : List.take (es.length - j) (List.drop (0 + j) es) = es.drop j := by rw [Nat.zero_add, List.take_of_length_le (by rw [List.length_drop]; omega)]
  rw [hD]
  simp only [List.length_drop]
  have hT : (es.take i ++ es.drop j ++ List.drop (i + (es.length - j)) es).take (i + (es.length - j)) = es.take i ++ es.drop j := by
    have h1 : (es.take i ++ es.drop j).length = i + (es.length - j) := by rw [List.length_append, List.length_take, List.length_drop]; omega
    rw [List.take_append_of_le_length (by omega), List.take_of_length_le (by omega)]
  have hWl : (es.take i ++ es.drop j ++ List.drop (i + (es.length - j)) es).length = es.length := by simp; omega
  generalize es.take i ++ es.drop j ++ List.drop (i + (es.length - j)) es = W at *
  refine ⟨⟨by omega, fun r h => hsz r (List.mem_of_mem_drop h), fun r h => hone r (List.mem_of_mem_drop h), by omega⟩, ?_⟩
  (repeat' ((fail_if_success (first | refine stop_at 7 ?_ | refine stop_l 7 ?_)); (first | refine sp_ ?_ | exact ex0 | (refine ret_s [] ?_; simp (decide := true) (disch := omega) only [go_sem, ↓reduceIte, ↓put_at]))))
  refine shr_s 0 (0, 1) (i + (es.length - j)) 9 1 (List.take (0 + (i + (es.length - j))) W ++ List.replicate (es.length - (i + (es.length - j))) [vs []] ++ List.drop (0 + (i + (es.length - j)) + (es.length - (i + (es.length - j)))) W) ⟨⟨by kernel_rfl, by kernel_rfl, by simp; omega, by rw [hC]; decide⟩, ?_⟩
  have hT2 : (List.take (0 + (i + (es.length - j))) W ++ List.replicate (es.length - (i + (es.length - j))) [vs []] ++ List.drop (0 + (i + (es.length - j)) + (es.length - (i + (es.length - j)))) W).take (i + (es.length - j)) = es.take i ++ es.drop j := by
    have h1 : (List.take (i + (es.length - j)) W).length = i + (es.length - j) := by rw [List.length_take]; omega
    rw [Nat.zero_add, List.append_assoc, List.take_append_of_le_length (by omega), List.take_of_length_le (by omega), hT]
  rw [hT2]
  (repeat' ((first | refine sp_ ?_ | exact ex0 | refine condK_eq (fun h => ?_) (fun h => ?_) | refine condK_dec (fun h => ?_) (fun h => ?_) | refine condK_if (fun h => ?_) (fun h => ?_) | (refine ret_s [] ?_; simp (decide := true) (disch := omega) only [go_sem, ↓reduceIte, ↓put_at]))))
set_option maxRecDepth 100000 in
set_option maxHeartbeats 4000000 in
theorem sl_clone_str (es : List (List V)) (hl : es.length < 1000000) (hsz : ∀ r ∈ es, r.length = 1) (hone : ∀ r ∈ es, ∀ y ∈ r, oneV y = true) :
    Spec Try.prog 30 [.ca (.val (.lst 1 es))] [] (.ca (.hd (.rw 9 1 es))) [] := by
  refine spec_of Try.func30 rfl Try.ntmps30 Try.results30 ⟨by decide, by simp⟩ fun C hC => ?_
  refine mark_s (5, 1) [5] ⟨by rw [hC]; decide, fun n => ?_⟩
  (repeat' ((first | refine sp_ ?_ | exact ex0 | refine condK_eq (fun h => ?_) (fun h => ?_) | refine condK_dec (fun h => ?_) (fun h => ?_) | refine condK_if (fun h => ?_) (fun h => ?_) | (refine ret_s [] ?_; simp (decide := true) (disch := omega) only [go_sem, ↓reduceIte, ↓put_at]))))
  refine nil_s 1 es (by simp (decide := true) (disch := omega) only [go_sem, ↓reduceIte, ↓put_at]) (by simp (decide := true) (disch := omega) only [go_sem, ↓reduceIte, ↓put_at]) (fun b hb => ?_)
  cases b with
  | true =>
    obtain rfl := hb rfl
    (repeat' ((first | refine sp_ ?_ | exact ex0 | refine condK_eq (fun h => ?_) (fun h => ?_) | refine condK_dec (fun h => ?_) (fun h => ?_) | refine condK_if (fun h => ?_) (fun h => ?_) | (refine ret_s [] ?_; simp (decide := true) (disch := omega) only [go_sem, ↓reduceIte, ↓put_at]))))
  | false =>
    (repeat' ((first | refine sp_ ?_ | exact ex0 | refine condK_eq (fun h => ?_) (fun h => ?_) | refine condK_dec (fun h => ?_) (fun h => ?_) | refine condK_if (fun h => ?_) (fun h => ?_) | (refine ret_s [] ?_; simp (decide := true) (disch := omega) only [go_sem, ↓reduceIte, ↓put_at]))))
    refine ⟨⟨by omega, by omega, hsz, hone⟩, ?_⟩
    (repeat' ((first | refine sp_ ?_ | exact ex0 | refine condK_eq (fun h => ?_) (fun h => ?_) | refine condK_dec (fun h => ?_) (fun h => ?_) | refine condK_if (fun h => ?_) (fun h => ?_) | (refine ret_s [] ?_; simp (decide := true) (disch := omega) only [go_sem, ↓reduceIte, ↓put_at]))))
end Go.Proofs.Ytdkgnlmojmafbaa
