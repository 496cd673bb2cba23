
/- The document's layer 23, walked. -/
import Derived.Test.YtekpaepkoeelfaaDocM
namespace Go.Proofs.Ytekpaepkoeelfaa
open Go.RowKit
set_option linter.unusedVariables false
set_option linter.unusedSimpArgs false

theorem bool_len (l : List Bool) : ∀ r ∈ l.map (fun b => [vb b]), r.length = 1 := fun r h => by obtain ⟨e, _, rfl⟩ := List.mem_map.1 h; rfl
theorem bool_one (l : List Bool) : ∀ r ∈ l.map (fun b => [vb b]), ∀ y ∈ r, oneV y = true := fun r h y hy => by obtain ⟨e, _, rfl⟩ := List.mem_map.1 h; simp at hy; subst hy; rfl
theorem text_len (l : List (List UInt8)) : ∀ r ∈ l.map (fun s => [vs s]), r.length = 1 := fun r h => by obtain ⟨e, _, rfl⟩ := List.mem_map.1 h; rfl
theorem text_one (l : List (List UInt8)) : ∀ r ∈ l.map (fun s => [vs s]), ∀ y ∈ r, oneV y = true := fun r h y hy => by obtain ⟨e, _, rfl⟩ := List.mem_map.1 h; simp at hy; subst hy; rfl
set_option maxRecDepth 100000 in
set_option maxHeartbeats 8000000 in
theorem doc_new (t c now : Int) : Spec Try.prog 53 [.ca (.val (vi t)), .ca (.val (vi c)), .ca (.val (vi now))] [] (.ca (.val (.agg (rfEl (newR t c now))))) [] := by
  obtain ⟨n, hn⟩ : ∃ n : Nat, (max 1 (min c 255)).toNat = n := ⟨_, rfl⟩
  have hn2 : max 1 (min c 255) = (n : Int) := by omega
  unfold newR
  rw [hn]
  refine spec_of Try.func53 rfl Try.ntmps53 Try.results53 ⟨by decide, by simp⟩ fun C hC => ?_
  (repeat' ((first | refine sp_ ?_ | exact ex0 | (refine ret_s [] ?_; simp (decide := true) (disch := omega) only [go_sem, ↓reduceIte, ↓put_at]))))
  rw [hn2]
  refine mkS_s n (.bool false) (by simp (decide := true) (disch := omega) only [go_sem, ↓reduceIte, ↓put_at]) (by simp (decide := true) (disch := omega) only [go_sem, ↓reduceIte, ↓put_at]) (by omega) Try.underlying83 (by kernel_rfl) (by kernel_rfl) rfl ?_
  (repeat' ((first | refine sp_ ?_ | exact ex0 | (refine ret_s [] ?_; simp (decide := true) (disch := omega) only [go_sem, ↓reduceIte, ↓put_at]))))
  refine mkS16_s n (str []) (by simp (decide := true) (disch := omega) only [go_sem, ↓reduceIte, ↓put_at]) (by simp (decide := true) (disch := omega) only [go_sem, ↓reduceIte, ↓put_at]) (by omega) Try.underlying84 (by kernel_rfl) (by kernel_rfl) rfl ?_
  (repeat' ((first | refine sp_ ?_ | exact ex0 | (refine ret_s [] ?_; simp (decide := true) (disch := omega) only [go_sem, ↓reduceIte, ↓put_at]))))
  exact ⟨List.map_replicate, List.map_replicate⟩
set_option maxRecDepth 100000 in
set_option maxHeartbeats 8000000 in
theorem doc_lacks (r : RF) (h : r.has.length ≤ 255) : Spec Try.prog 50 [.ca (.val (.agg (rfEl r)))] [] (.ca (.val (.lst 1 ((lackR 0 r.has).map fun n : Nat => [vi n])))) [] := by
  refine spec_of Try.func50 rfl Try.ntmps50 Try.results50 ⟨by decide, by simp⟩ fun C hC => ?_
  (repeat' ((fail_if_success (refine stop_reg 3 ?_)); (first | refine sp_ ?_ | exact ex0 | (refine ret_s [] ?_; simp (decide := true) (disch := omega) only [go_sem, ↓reduceIte, ↓put_at]))))
  refine loop_s (α := {i : Nat // i ≤ r.has.length}) (fun i => [(.k (6, 0), .row 3 1 (lackR 0 (r.has.take i.1)).length), (.s 3, .av (.own (6, 0) 0 3 1 ((lackR 0 (r.has.take i.1)).map fun n : Nat => [vi n]))), (.s 8, .av (.val (.lst 1 (r.has.map fun b => [vb b])))), (.s 9, .av (.val (vi r.has.length))), (.s 10, .av (.val (vi i.1)))]) (fun i => r.has.length - i.1) ⟨0, Nat.zero_le _⟩ ?_ (fun i => ?_)
  · rw [List.take_zero]
    simp (decide := true) (disch := omega) only [go_sem, ↓reduceIte, ↓put_at]
    first | exact rfl | (show _ = _; kernel_rfl)
  obtain ⟨i, hi⟩ := i
  dsimp only at hi ⊢
  by_cases hlt : i < r.has.length
  · have hge : (r.has.map fun b => [vb b]).getD i [] = [vb r.has[i]] := by simp [hlt]
    have htk : r.has.take (i + 1) = r.has.take i ++ [r.has[i]] := List.take_succ_eq_append_getElem hlt
    have htl : (r.has.take i).length = i := by rw [List.length_take]; omega
    have hll := lackR_len (r.has.take i) 0
    have hla := lackR_app (r.has.take i) [r.has[i]] 0
    rw [htl, Nat.zero_add] at hla
    have hltz : (i : Int) < r.has.length := by omega
    cases hb : r.has[i] with
    | true =>
      rw [hb] at hge hla htk
      have hst : lackR 0 (r.has.take (i + 1)) = lackR 0 (r.has.take i) := by rw [htk, hla]; simp [lackR]
      (repeat' ((first | refine sp_ ?_ | exact ex0 | (refine ret_s [] ?_; simp (decide := true) (disch := omega) only [go_sem, ↓reduceIte, ↓put_at]))))
      simp only [hb]
      (repeat' ((first | refine sp_ ?_ | exact ex0 | (refine ret_s [] ?_; simp (decide := true) (disch := omega) only [go_sem, ↓reduceIte, ↓put_at]))))
      refine next_s (α := {i : Nat // i ≤ r.has.length}) ⟨i + 1, hlt⟩ ⟨?_, by (try dsimp only); omega⟩
      (try dsimp only)
      rw [hst]
      simp (decide := true) (disch := omega) only [go_sem, ↓reduceIte, ↓put_at]
    | false =>
      rw [hb] at hge hla htk
      have hst : lackR 0 (r.has.take (i + 1)) = lackR 0 (r.has.take i) ++ [i] := by rw [htk, hla]; simp [lackR]
      (repeat' ((first | refine sp_ ?_ | exact ex0 | (refine ret_s [] ?_; simp (decide := true) (disch := omega) only [go_sem, ↓reduceIte, ↓put_at]))))
      simp only [hb]
      (repeat' ((first | refine sp_ ?_ | exact ex0 | (refine ret_s [] ?_; simp (decide := true) (disch := omega) only [go_sem, ↓reduceIte, ↓put_at]))))
      refine next_s (α := {i : Nat // i ≤ r.has.length}) ⟨i + 1, hlt⟩ ⟨?_, by (try dsimp only); omega⟩
      (try dsimp only)
      rw [hst]
      simp (decide := true) (disch := omega) only [go_sem, ↓reduceIte, ↓put_at]
      rw [List.map_append]
      first | rfl | exact ⟨rfl, rfl⟩
  · obtain rfl : i = r.has.length := by omega
    rw [List.take_length]
    (repeat' ((first | refine sp_ ?_ | exact ex0 | (refine ret_s [] ?_; simp (decide := true) (disch := omega) only [go_sem, ↓reduceIte, ↓put_at]))))
set_option maxRecDepth 100000 in
set_option maxHeartbeats 8000000 in
theorem doc_data (r : RF) (h : r.Ok) : Spec Try.prog 51 [.ca (.val (.agg (rfEl r)))] [] (.ca (.val (.tup [vs (dataR r).1, vi (dataR r).2]))) [] := by
  have cl := doc_lacks r h.l1
  have hcl := catR_len h.sz
  have hln := h.ln
  have hl1 := h.l1
  have hll := lackR_len r.has 0
  unfold dataR
  refine spec_of Try.func51 rfl Try.ntmps51 Try.results51 ⟨by decide, by simp⟩ fun C hC => ?_
  (repeat' ((fail_if_success (refine stop_reg 3 ?_)); (first | refine sp_ ?_ | exact ex0 | (refine ret_s [] ?_; simp (decide := true) (disch := omega) only [go_sem, ↓reduceIte, ↓put_at]))))
  refine loop_s (α := {i : Nat // i ≤ r.parts.length}) (fun i => [(.o (1, 0), .num 4), (.c (1, 0) 0, .av (.val (vi r.tm))), (.c (1, 0) 1, .av (.val (vi r.t0))), (.c (1, 0) 2, .av (.val (.lst 1 (r.has.map fun b => [vb b])))), (.c (1, 0) 3, .av (.val (.lst 1 (r.parts.map fun s => [vs s])))), (.s 1, .av (.ptr (1, 0) 0 0)), (.s 4, .av (.val (vs (catR (r.parts.take i.1))))), (.s 8, .av (.val (.lst 1 (r.parts.map fun s => [vs s])))), (.s 9, .av (.val (vi r.parts.length))), (.s 10, .av (.val (vi i.1)))]) (fun i => r.parts.length - i.1) ⟨0, Nat.zero_le _⟩ ?_ (fun i => ?_)
  · rw [List.take_zero]
    simp (decide := true) (disch := omega) only [go_sem, ↓reduceIte, ↓put_at]
    first | exact rfl | skip
  obtain ⟨i, hi⟩ := i
  dsimp only at hi ⊢
  by_cases hlt : i < r.parts.length
  · have htk : r.parts.take (i + 1) = r.parts.take i ++ [r.parts[i]] := List.take_succ_eq_append_getElem hlt
    have hst : catR (r.parts.take (i + 1)) = catR (r.parts.take i) ++ r.parts[i] := by rw [htk, catR_app]; simp [catR]
    have hltz : (i : Int) < r.parts.length := by omega
    have htl : (r.parts.take i).length = i := by rw [List.length_take]; omega
    have hc1 := catR_len (l := r.parts.take i) fun s hs => h.sz s (List.mem_of_mem_take hs)
    have hc2 := h.sz _ (List.getElem_mem hlt)
    (repeat' ((first | refine sp_ ?_ | exact ex0 | (refine ret_s [] ?_; simp (decide := true) (disch := omega) only [go_sem, ↓reduceIte, ↓put_at]))))
    refine next_s (α := {i : Nat // i ≤ r.parts.length}) ⟨i + 1, hlt⟩ ⟨?_, by (try dsimp only); omega⟩
    (try dsimp only)
    rw [hst]
    simp (decide := true) (disch := omega) only [go_sem, ↓reduceIte, ↓put_at]
  · obtain rfl : i = r.parts.length := by omega
    rw [List.take_length]
    cases hL : lackR 0 r.has with
    | nil =>
      rw [hL] at cl
      rw [if_pos rfl]
      (repeat' ((first | refine sp_ ?_ | exact ex0 | refine call_u Try.call50 (cl) [] ex1 ?_ | (refine ret_s [] ?_; simp (decide := true) (disch := omega) only [go_sem, ↓reduceIte, ↓put_at]))))
    | cons x y =>
      rw [hL] at cl hll
      rw [if_neg (by simp)]
      simp only [List.length_cons] at hll
      (repeat' ((first | refine sp_ ?_ | exact ex0 | refine call_u Try.call50 (cl) [] ex1 ?_ | (refine ret_s [] ?_; simp (decide := true) (disch := omega) only [go_sem, ↓reduceIte, ↓put_at]))))
set_option maxRecDepth 100000 in
set_option maxHeartbeats 2000000 in
theorem doc_put (r : RF) (h : r.Ok) (i c : Int) (s : List UInt8) (hs : s.length ≤ 1048576) : Spec Try.prog 52 [.ca (.val (.agg (rfEl r))), .ca (.val (vi i)), .ca (.val (vi c)), .ca (.val (vs s))] [] (.ca (.val (.tup [.agg (rfEl (putR r i c s).1), vi (putR r i c s).2]))) [] := by
  have hln := h.ln
  have hl1 := h.l1
  by_cases hb : c ≠ r.has.length ∨ i < 0 ∨ c ≤ i
  · have hu : putR r i c s = (r, 4) := by unfold putR; rw [if_pos hb]
    rw [hu]
    by_cases h1 : c = r.has.length
    · subst h1
      by_cases h2 : i < 0
      · refine spec_of Try.func52 rfl Try.ntmps52 Try.results52 ⟨by decide, by simp⟩ fun C hC => ?_
        (repeat' ((first | refine sp_ ?_ | exact ex0 | (refine ret_s [] ?_; simp (decide := true) (disch := omega) only [go_sem, ↓reduceIte, ↓put_at]))))
      · have h3 : (r.has.length : Int) ≤ i := by omega
        refine spec_of Try.func52 rfl Try.ntmps52 Try.results52 ⟨by decide, by simp⟩ fun C hC => ?_
        (repeat' ((first | refine sp_ ?_ | exact ex0 | (refine ret_s [] ?_; simp (decide := true) (disch := omega) only [go_sem, ↓reduceIte, ↓put_at]))))
    · refine spec_of Try.func52 rfl Try.ntmps52 Try.results52 ⟨by decide, by simp⟩ fun C hC => ?_
      (repeat' ((first | refine sp_ ?_ | exact ex0 | (refine ret_s [] ?_; simp (decide := true) (disch := omega) only [go_sem, ↓reduceIte, ↓put_at]))))
  · obtain ⟨j, rfl⟩ : ∃ j : Nat, i = j := ⟨i.toNat, by omega⟩
    have hc : c = r.has.length := by omega
    subst hc
    have hj : j < r.has.length := by omega
    have hjz : (j : Int) < r.has.length := by omega
    have hjp : j < r.parts.length := by omega
    cases hg : r.has[j] with
    | true =>
      have hu : putR r j r.has.length s = (r, 3) := by
        unfold putR
        rw [if_neg hb, Int.toNat_natCast, if_pos (by rw [List.getD_eq_getElem?_getD, List.getElem?_eq_getElem hj, hg]; rfl)]
      rw [hu]
      refine spec_of Try.func52 rfl Try.ntmps52 Try.results52 ⟨by decide, by simp⟩ fun C hC => ?_
      (repeat' ((first | refine sp_ ?_ | exact ex0 | (refine ret_s [] ?_; simp (decide := true) (disch := omega) only [go_sem, ↓reduceIte, ↓put_at]))))
      simp only [hg]
      (repeat' ((first | refine sp_ ?_ | exact ex0 | (refine ret_s [] ?_; simp (decide := true) (disch := omega) only [go_sem, ↓reduceIte, ↓put_at]))))
    | false =>
      obtain ⟨g, hge⟩ : ∃ g : RF, g = { r with has := r.has.set j true, parts := r.parts.set j s } := ⟨_, rfl⟩
      have hu : putR r j r.has.length s = (g, if (lackR 0 g.has).length = 0 then 2 else 1) := by
        unfold putR
        rw [if_neg hb, Int.toNat_natCast, if_neg (by rw [List.getD_eq_getElem?_getD, List.getElem?_eq_getElem hj, hg]; decide), hge]
      rw [hu]
      have cl := doc_lacks g (by rw [hge]; simpa using hl1)
      have hll := lackR_len g.has 0
      have hgl : g.has.length = r.has.length := by rw [hge]; simp
      have hg1 : g.tm = r.tm ∧ g.t0 = r.t0 := by rw [hge]; exact ⟨rfl, rfl⟩
      have hgh : (r.has.map fun b => [vb b]).set j [vb true] = g.has.map fun b => [vb b] := by rw [hge, List.map_set]
      have hgp : (r.parts.map fun s => [vs s]).set j [vs s] = g.parts.map fun s => [vs s] := by rw [hge, List.map_set]
      clear hge hu
      refine spec_of Try.func52 rfl Try.ntmps52 Try.results52 ⟨by decide, by simp⟩ fun C hC => ?_
      refine mark_s (33, 1) [33, 37] ⟨by rw [hC]; decide, fun n => ?_⟩
      simp (decide := true) (disch := omega) only [go_sem, ↓reduceIte, ↓put_at]
      (repeat' ((first | refine sp_ ?_ | exact ex0 | (refine ret_s [] ?_; simp (decide := true) (disch := omega) only [go_sem, ↓reduceIte, ↓put_at]))))
      simp only [hg]
      (repeat' ((fail_if_success (first | refine stop_at 9 ?_ | refine stop_l 9 ?_)); (first | refine sp_ ?_ | exact ex0 | (refine ret_s [] ?_; simp (decide := true) (disch := omega) only [go_sem, ↓reduceIte, ↓put_at]))))
      refine ⟨⟨by omega, by omega, bool_len _, bool_one _⟩, ?_⟩
      (repeat' ((fail_if_success (first | refine stop_at 9 ?_ | refine stop_l 9 ?_)); (first | refine sp_ ?_ | exact ex0 | (refine ret_s [] ?_; simp (decide := true) (disch := omega) only [go_sem, ↓reduceIte, ↓put_at]))))
      refine ⟨⟨by omega, by omega, text_len _, text_one _⟩, ?_⟩
      (repeat' ((fail_if_success (first | refine stop_at 9 ?_ | refine stop_l 9 ?_)); (first | refine sp_ ?_ | exact ex0 | (refine ret_s [] ?_; simp (decide := true) (disch := omega) only [go_sem, ↓reduceIte, ↓put_at]))))
      simp only [hgh, hgp]
      refine frz_s 10 (33, 1) (33, 2) 4 1 (g.has.map fun b => [vb b]) ?_
      simp (decide := true) (disch := omega) only [go_sem, ↓reduceIte, ↓put_at]
      refine frz_s 11 (37, 1) (37, 2) 9 1 (g.parts.map fun s => [vs s]) ?_
      simp (decide := true) (disch := omega) only [go_sem, ↓reduceIte, ↓put_at]
      rw [← hg1.1, ← hg1.2]
      by_cases hz : (lackR 0 g.has).length = 0
      · rw [if_pos hz]
        (repeat' ((first | refine sp_ ?_ | exact ex0 | refine call_u Try.call50 (cl) [] ex1 ?_ | (refine ret_s [] ?_; simp (decide := true) (disch := omega) only [go_sem, ↓reduceIte, ↓put_at]))))
      · rw [if_neg hz]
        (repeat' ((first | refine sp_ ?_ | exact ex0 | refine call_u Try.call50 (cl) [] ex1 ?_ | (refine ret_s [] ?_; simp (decide := true) (disch := omega) only [go_sem, ↓reduceIte, ↓put_at]))))
end Go.Proofs.Ytekpaepkoeelfaa
