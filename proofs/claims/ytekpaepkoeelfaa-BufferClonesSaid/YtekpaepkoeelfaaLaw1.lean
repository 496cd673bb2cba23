
/- The statements of layer 24: what is compared; walked. -/
import Derived.Test.YtekpaepkoeelfaaDoc3
import Derived.Test.YtekpaepkoeelfaaBuf6
import Derived.Test.YtekpaepkoeelfaaBuf7
import Derived.Test.YtekpaepkoeelfaaBuf8
namespace Go.Proofs.Ytekpaepkoeelfaa
open Go.RowKit
set_option linter.unusedVariables false
set_option linter.unusedSimpArgs false

set_option maxRecDepth 100000 in
set_option maxHeartbeats 8000000 in
theorem cut24 (s : List UInt8) (n : Nat) (hn : n ≤ 1048576) (hs : s.length ≤ maxLen) : Spec Try.prog 12 [.ca (.val (vs s)), .ca (.val (vi n))] [] (.ca (.val (vs (s.take n)))) [] := by
  by_cases h : n < s.length
  · refine spec_of Try.func12 rfl Try.ntmps12 Try.results12 ⟨by decide, by simp⟩ fun C hC => ?_
    (repeat' ((first | refine sp_ ?_ | exact ex0 | (refine ret_s [] ?_; simp (decide := true) (disch := omega) only [go_sem, ↓reduceIte, ↓put_at]))))
  · rw [List.take_of_length_le (by omega)]
    refine spec_of Try.func12 rfl Try.ntmps12 Try.results12 ⟨by decide, by simp⟩ fun C hC => ?_
    (repeat' ((first | refine sp_ ?_ | exact ex0 | (refine ret_s [] ?_; simp (decide := true) (disch := omega) only [go_sem, ↓reduceIte, ↓put_at]))))
set_option maxRecDepth 100000 in
set_option maxHeartbeats 8000000 in
theorem times_yes0 (l : List Nat) (hl : l.length ≤ 2000) (hb : ∀ n ∈ l, n < 4294967296) : Spec Try.prog 34 [.ca (.val (.lst 1 (l.map fun t : Nat => [vu t]))), .ca (.val (.lst 1 (l.map fun n : Nat => [vi n])))] [] (.ca (.val (vb true))) [] := by
  refine spec_of Try.func34 rfl Try.ntmps34 Try.results34 ⟨by decide, by simp⟩ fun C hC => ?_
  (repeat' ((fail_if_success (refine stop_reg 4 ?_)); (first | refine sp_ ?_ | exact ex0 | (refine ret_s [] ?_; simp (decide := true) (disch := omega) only [go_sem, ↓reduceIte, ↓put_at]))))
  refine loop_s (α := {i : Nat // i ≤ l.length}) (fun i => [(.s 0, .av (.val (.lst 1 (l.map fun t : Nat => [vu t])))), (.s 1, .av (.val (.lst 1 (l.map fun n : Nat => [vi n])))), (.s 12, .av (.val (vi l.length))), (.s 13, .av (.val (vi i.1)))]) (fun i => l.length - i.1) ⟨0, Nat.zero_le _⟩ ?_ (fun i => ?_)
  · simp (decide := true) (disch := omega) only [go_sem, ↓reduceIte, ↓put_at]
  obtain ⟨i, hi⟩ := i
  dsimp only at hi ⊢
  by_cases hlt : i < l.length
  · have hltz : (i : Int) < l.length := by omega
    have hbb := hb _ (List.getElem_mem hlt)
    (repeat' ((first | refine sp_ ?_ | exact ex0 | (refine ret_s [] ?_; simp (decide := true) (disch := omega) only [go_sem, ↓reduceIte, ↓put_at]))))
    refine next_s (α := {i : Nat // i ≤ l.length}) ⟨i + 1, hlt⟩ ⟨?_, by (try dsimp only); omega⟩
    (try dsimp only)
    simp (decide := true) (disch := omega) only [go_sem, ↓reduceIte, ↓put_at]
  · obtain rfl : i = l.length := by omega
    (repeat' ((first | refine sp_ ?_ | exact ex0 | (refine ret_s [] ?_; simp (decide := true) (disch := omega) only [go_sem, ↓reduceIte, ↓put_at]))))
set_option maxRecDepth 100000 in
set_option maxHeartbeats 8000000 in
theorem frames_yes0 (l : List (Nat × List UInt8)) (hl : l.length ≤ 2000) (hb : ∀ p ∈ l, p.1 < 4294967296) : Spec Try.prog 33 [.ca (.val (.lst 2 (l.map plE))), .ca (.val (.lst 2 (l.map fun p : Nat × List UInt8 => [vi p.1, vs p.2])))] [] (.ca (.val (vb true))) [] := by
  refine spec_of Try.func33 rfl Try.ntmps33 Try.results33 ⟨by decide, by simp⟩ fun C hC => ?_
  (repeat' ((fail_if_success (refine stop_reg 4 ?_)); (first | refine sp_ ?_ | exact ex0 | (refine ret_s [] ?_; simp (decide := true) (disch := omega) only [go_sem, ↓reduceIte, ↓put_at]))))
  refine loop_s (α := {i : Nat // i ≤ l.length}) (fun i => [(.s 0, .av (.val (.lst 2 (l.map plE)))), (.s 1, .av (.val (.lst 2 (l.map fun p : Nat × List UInt8 => [vi p.1, vs p.2])))), (.s 12, .av (.val (vi l.length))), (.s 13, .av (.val (vi i.1)))]) (fun i => l.length - i.1) ⟨0, Nat.zero_le _⟩ ?_ (fun i => ?_)
  · simp (decide := true) (disch := omega) only [go_sem, ↓reduceIte, ↓put_at]
  obtain ⟨i, hi⟩ := i
  dsimp only at hi ⊢
  by_cases hlt : i < l.length
  · have hltz : (i : Int) < l.length := by omega
    have hbb := hb _ (List.getElem_mem hlt)
    (repeat' ((first | refine sp_ ?_ | exact ex0 | (refine ret_s [] ?_; simp (decide := true) (disch := omega) only [go_sem, ↓reduceIte, ↓put_at]))))
    refine next_s (α := {i : Nat // i ≤ l.length}) ⟨i + 1, hlt⟩ ⟨?_, by (try dsimp only); omega⟩
    (try dsimp only)
    simp (decide := true) (disch := omega) only [go_sem, ↓reduceIte, ↓put_at]
  · obtain rfl : i = l.length := by omega
    (repeat' ((first | refine sp_ ?_ | exact ex0 | (refine ret_s [] ?_; simp (decide := true) (disch := omega) only [go_sem, ↓reduceIte, ↓put_at]))))
theorem times_yes (l : List Nat) (x : List Int) (hx : x = l.map fun n : Nat => (n : Int)) (hl : l.length ≤ 2000) (hb : ∀ n ∈ l, n < 4294967296) : Spec Try.prog 34 [.ca (.val (.lst 1 (l.map fun t : Nat => [vu t]))), .ca (.val (.lst 1 (x.map fun t : Int => [vi t])))] [] (.ca (.val (vb true))) [] := by
  rw [hx, List.map_map]
  exact times_yes0 l hl hb
theorem frames_yes (l : List (Nat × List UInt8)) (x : List (Int × List UInt8)) (hx : x = l.map fun p : Nat × List UInt8 => ((p.1 : Int), p.2)) (hl : l.length ≤ 2000) (hb : ∀ p ∈ l, p.1 < 4294967296) : Spec Try.prog 33 [.ca (.val (.lst 2 (l.map plE))), .ca (.val (.lst 2 (x.map prE)))] [] (.ca (.val (vb true))) [] := by
  rw [hx, List.map_map]
  exact frames_yes0 l hl hb
end Go.Proofs.Ytekpaepkoeelfaa
