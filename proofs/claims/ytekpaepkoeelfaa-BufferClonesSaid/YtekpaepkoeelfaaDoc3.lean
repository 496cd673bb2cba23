
/- The document's layer 24, walked: a part. -/
import Derived.Test.YtekpaepkoeelfaaDoc2
namespace Go.Proofs.Ytekpaepkoeelfaa
open Go.RowKit
set_option linter.unusedVariables false
set_option linter.unusedSimpArgs false

set_option maxRecDepth 100000 in
set_option maxHeartbeats 8000000 in
theorem dob_late (b : RB) (t i c : Int) (s : List UInt8) (now : Int) (h : t ≤ b.hz) : Spec Try.prog 35 [.ca (.val (rbV b)), .ca (.val (vi t)), .ca (.val (vi i)), .ca (.val (vi c)), .ca (.val (vs s)), .ca (.val (vi now))] [] (.ca (.val (.tup [rbV b, vi 5, .lst 1 []]))) [] := by
  refine spec_of Try.func35 rfl Try.ntmps35 Try.results35 ⟨by decide, by simp⟩ fun C hC => ?_
  (repeat' ((first | refine sp_ ?_ | exact ex0 | (refine ret_s [] ?_; simp (decide := true) (disch := omega) only [go_sem, ↓reduceIte, ↓put_at]))))
set_option maxRecDepth 100000 in
set_option maxHeartbeats 8000000 in
theorem dob_bad (b : RB) (t i c : Int) (s : List UInt8) (now : Int) (h : b.hz < t) (hb : c < 1 ∨ 255 < c ∨ i < 0 ∨ c ≤ i) : Spec Try.prog 35 [.ca (.val (rbV b)), .ca (.val (vi t)), .ca (.val (vi i)), .ca (.val (vi c)), .ca (.val (vs s)), .ca (.val (vi now))] [] (.ca (.val (.tup [rbV b, vi 4, .lst 1 []]))) [] := by
  by_cases h1 : c < 1
  · refine spec_of Try.func35 rfl Try.ntmps35 Try.results35 ⟨by decide, by simp⟩ fun C hC => ?_
    (repeat' ((first | refine sp_ ?_ | exact ex0 | (refine ret_s [] ?_; simp (decide := true) (disch := omega) only [go_sem, ↓reduceIte, ↓put_at]))))
  · by_cases h2 : 255 < c
    · refine spec_of Try.func35 rfl Try.ntmps35 Try.results35 ⟨by decide, by simp⟩ fun C hC => ?_
      (repeat' ((first | refine sp_ ?_ | exact ex0 | (refine ret_s [] ?_; simp (decide := true) (disch := omega) only [go_sem, ↓reduceIte, ↓put_at]))))
    · by_cases h3 : i < 0
      · refine spec_of Try.func35 rfl Try.ntmps35 Try.results35 ⟨by decide, by simp⟩ fun C hC => ?_
        (repeat' ((first | refine sp_ ?_ | exact ex0 | (refine ret_s [] ?_; simp (decide := true) (disch := omega) only [go_sem, ↓reduceIte, ↓put_at]))))
      · have h4 : c ≤ i := by omega
        refine spec_of Try.func35 rfl Try.ntmps35 Try.results35 ⟨by decide, by simp⟩ fun C hC => ?_
        (repeat' ((first | refine sp_ ?_ | exact ex0 | (refine ret_s [] ?_; simp (decide := true) (disch := omega) only [go_sem, ↓reduceIte, ↓put_at]))))
/-- What the first rounds keep. -/
theorem foldR_ok {t i c now : Int} {s : List UInt8} (hs : s.length ≤ 1048576) : ∀ (l : List RF) (x : List RF × Int × Bool), (∀ f ∈ l, f.Ok) → (∀ f ∈ x.1, f.Ok) → (∀ f ∈ (l.foldl (stepR t i c now s) x).1, f.Ok) ∧ (l.foldl (stepR t i c now s) x).1.length + (if x.2.2 = true then 1 else 0) ≤ x.1.length + l.length + (if (l.foldl (stepR t i c now s) x).2.2 = true then 1 else 0)
  | [], x, _, hx => ⟨hx, by simp only [List.foldl_nil, List.length_nil, Nat.add_zero]; exact Nat.le_refl _⟩
  | f :: l, x, hl, hx => by
    have hf := hl f (List.mem_cons_self ..)
    have hn := putR_ok (newR_ok t c now) i c hs
    have hp := putR_ok hf i c hs
    have key : (∀ g ∈ (stepR t i c now s x f).1, g.Ok) ∧ (stepR t i c now s x f).1.length + (if x.2.2 = true then 1 else 0) ≤ x.1.length + 1 + (if (stepR t i c now s x f).2.2 = true then 1 else 0) := by
      unfold stepR
      by_cases h1 : x.2.2 = false ∧ t < f.tm
      · rw [if_pos h1, if_neg (by omega)]
        refine ⟨fun g hg => ?_, ?_⟩
        · simp only [List.mem_append, List.mem_cons, List.not_mem_nil, or_false] at hg
          rcases hg with (hg | rfl) | rfl
          · exact hx g hg
          · exact hn
          · exact hf
        · simp [h1.1]
      · rw [if_neg h1]
        by_cases h2 : f.tm = t
        · rw [if_pos h2]
          refine ⟨fun g hg => ?_, ?_⟩
          · simp only [List.mem_append, List.mem_cons, List.not_mem_nil, or_false] at hg
            rcases hg with hg | rfl
            · exact hx g hg
            · exact hp
          · simp
            split <;> omega
        · rw [if_neg h2]
          refine ⟨fun g hg => ?_, ?_⟩
          · simp only [List.mem_append, List.mem_cons, List.not_mem_nil, or_false] at hg
            rcases hg with hg | rfl
            · exact hx g hg
            · exact hf
          · simp
    obtain ⟨h1, h2⟩ := foldR_ok hs l (stepR t i c now s x f) (fun g hg => hl g (List.mem_cons_of_mem _ hg)) key.1
    rw [List.foldl_cons]
    refine ⟨h1, ?_⟩
    have := key.2
    simp only [List.length_cons]
    omega
theorem foldR_len {t i c now : Int} {s : List UInt8} (hs : s.length ≤ 1048576) (l : List RF) (hl : ∀ f ∈ l, f.Ok) : (∀ f ∈ (l.foldl (stepR t i c now s) ([], 0, false)).1, f.Ok) ∧ (l.foldl (stepR t i c now s) ([], 0, false)).1.length ≤ l.length + 1 := by
  obtain ⟨h1, h⟩ := foldR_ok (t := t) (i := i) (c := c) (now := now) hs l ([], 0, false) hl (fun f h => by cases h)
  generalize l.foldl (stepR t i c now s) ([], 0, false) = A at *
  have h : A.1.length + 0 ≤ 0 + l.length + (if A.2.2 = true then 1 else 0) := h
  have h2 : (if A.2.2 = true then 1 else 0) ≤ 1 := by split <;> omega
  exact ⟨h1, by omega⟩
theorem step_same {t i c now : Int} {s : List UInt8} {acc : List RF} {k : Int} {d : Bool} {f : RF} (h : f.tm = t) : stepR t i c now s (acc, k, d) f = (acc ++ [(putR f i c s).1], (putR f i c s).2, true) := by
  unfold stepR
  dsimp only
  rw [if_pos h, if_neg (show ¬ (d = false ∧ t < f.tm) from fun q => by omega)]
theorem step_old {t i c now : Int} {s : List UInt8} {acc : List RF} {k : Int} {d : Bool} {f : RF} (h : f.tm ≠ t) (h2 : ¬ (d = false ∧ t < f.tm)) : stepR t i c now s (acc, k, d) f = (acc ++ [f], k, d) := by
  unfold stepR
  dsimp only
  rw [if_neg h, if_neg h2]
theorem step_new {t i c now : Int} {s : List UInt8} {acc : List RF} {k : Int} {f : RF} (h : t < f.tm) : stepR t i c now s (acc, k, false) f = (acc ++ [(putR (newR t c now) i c s).1] ++ [f], (putR (newR t c now) i c s).2, true) := by
  unfold stepR
  dsimp only
  rw [if_neg (show ¬ f.tm = t by omega), if_pos (show false = false ∧ t < f.tm from ⟨rfl, h⟩)]
/-- What the later rounds keep. -/
structure EvR (x : RB × Int × List Int) : Prop where
  c0 : 1 ≤ x.1.cf
  c1 : 1 ≤ x.1.cp
  c2 : 1 ≤ x.1.cb
  fr : ∀ f ∈ x.1.l, f.Ok
  ln : x.1.l.length + x.2.2.length ≤ 1030
  e0 : 0 ≤ x.1.ev
  e1 : x.1.ev + x.1.l.length ≤ 2199023255552
theorem evictR_done {t : Int} {b : RB} (h : overR b = false) : ∀ {n : Nat} {k : Int} {e : List Int}, evictR t n b k e = (b, k, e)
  | 0, k, e => rfl
  | n + 1, k, e => by
    unfold evictR
    rw [if_neg (by rw [h]; decide)]
theorem evictR_step {t cf cp cb : Int} {f : RF} {l : List RF} {hz pl dr ev : Int} (h : overR ⟨cf, cp, cb, f :: l, hz, pl, dr, ev⟩ = true) {n : Nat} {k : Int} {e : List Int} :
    evictR t (n + 1) ⟨cf, cp, cb, f :: l, hz, pl, dr, ev⟩ k e = evictR t n ⟨cf, cp, cb, l, f.tm, pl, dr, ev + 1⟩ (if f.tm = t then 6 else k) (e ++ [f.tm]) := by
  rw [evictR, if_pos h]
set_option maxRecDepth 100000 in
set_option maxHeartbeats 8000000 in
theorem dob_put (b : RB) (t i c : Int) (s : List UInt8) (now : Int) (hh : b.hz < t) (hb : ¬ (c < 1 ∨ 255 < c ∨ i < 0 ∨ c ≤ i)) (hs : s.length ≤ 1048576) (hf : ∀ f ∈ b.l, f.Ok) (hl : b.l.length ≤ 1024) (hc : 1 ≤ b.cf ∧ 1 ≤ b.cp ∧ 1 ≤ b.cb) (he0 : 0 ≤ b.ev) (he1 : b.ev ≤ 1099511627776)
    (R : RB × Int × List Int) (hR : evictR t (roundR t i c now s b.l).1.length { b with l := (roundR t i c now s b.l).1 } (roundR t i c now s b.l).2 [] = R) :
    Spec Try.prog 35 [.ca (.val (rbV b)), .ca (.val (vi t)), .ca (.val (vi i)), .ca (.val (vi c)), .ca (.val (vs s)), .ca (.val (vi now))] [] (.ca (.val (.tup [rbV R.1, vi R.2.1, .lst 1 (R.2.2.map fun t : Int => [vi t])]))) [] := by
  have cn := doc_new t c now
  have hno := newR_ok t c now
  have cp := doc_put (newR t c now) hno i c s hs
  have hpo := putR_ok hno i c hs
  obtain ⟨N, hN⟩ : ∃ N, putR (newR t c now) i c s = N := ⟨_, rfl⟩
  rw [hN] at cp hpo
  refine spec_of Try.func35 rfl Try.ntmps35 Try.results35 ⟨by decide, by simp⟩ fun C hC => ?_
  (repeat' ((fail_if_success (refine stop_reg 9 ?_)); (first | refine sp_ ?_ | exact ex0 | (refine ret_s [] ?_; simp (decide := true) (disch := omega) only [go_sem, ↓reduceIte, ↓put_at]))))
  refine loop_s (α := {j : Nat // j ≤ b.l.length}) (fun j => [(.o (6, 0), .num 8), (.c (6, 0) 0, .av (.val (vi b.cf))), (.c (6, 0) 1, .av (.val (vi b.cp))), (.c (6, 0) 2, .av (.val (vi b.cb))), (.c (6, 0) 3, .av (.val (.lst 4 (b.l.map rfEl)))), (.c (6, 0) 4, .av (.val (vi b.hz))), (.c (6, 0) 5, .av (.val (vi b.pl))), (.c (6, 0) 6, .av (.val (vi b.dr))), (.c (6, 0) 7, .av (.val (vi b.ev))), (.s 6, .av (.ptr (6, 0) 0 0)), (.o (12, 0), .num 8), (.s 12, .av (.ptr (12, 0) 0 0)), (.s 1, .av (.val (vi t))), (.s 2, .av (.val (vi i))), (.s 3, .av (.val (vi c))), (.s 4, .av (.val (vs s))), (.s 5, .av (.val (vi now))), (.k (49, 0), .row 86 4 ((b.l.take j.1).foldl (stepR t i c now s) ([], 0, false)).1.length), (.s 15, .av (.own (49, 0) 0 86 4 (((b.l.take j.1).foldl (stepR t i c now s) ([], 0, false)).1.map rfEl))), (.s 16, .av (.val (vi ((b.l.take j.1).foldl (stepR t i c now s) ([], 0, false)).2.1))), (.s 17, .av (.val (vb ((b.l.take j.1).foldl (stepR t i c now s) ([], 0, false)).2.2))), (.s 51, .av (.val (.lst 4 (b.l.map rfEl)))), (.s 52, .av (.val (vi b.l.length))), (.s 53, .av (.val (vi j.1)))]) (fun j => b.l.length - j.1) ⟨0, Nat.zero_le _⟩ ?_ (fun j => ?_)
  · rw [List.take_zero, List.foldl_nil]
    simp (decide := true) (disch := omega) only [go_sem, ↓reduceIte, ↓put_at]
    first | exact rfl | (show _ = _; kernel_rfl)
  obtain ⟨j, hj⟩ := j
  dsimp only at hj ⊢
  by_cases hlt : j < b.l.length
  · have htk : b.l.take (j + 1) = b.l.take j ++ [b.l[j]] := List.take_succ_eq_append_getElem hlt
    have hltz : (j : Int) < b.l.length := by omega
    have hof := hf _ (List.getElem_mem hlt)
    have cpf := doc_put b.l[j] hof i c s hs
    have hfo := foldR_len (t := t) (i := i) (c := c) (now := now) hs (b.l.take j) (fun f h => hf f (List.mem_of_mem_take h))
    have hst : (b.l.take (j + 1)).foldl (stepR t i c now s) ([], 0, false) = stepR t i c now s ((b.l.take j).foldl (stepR t i c now s) ([], 0, false)) b.l[j] := by rw [htk, List.foldl_append]; rfl
    have htl : (b.l.take j).length = j := by rw [List.length_take]; omega
    generalize (b.l.take j).foldl (stepR t i c now s) ([], 0, false) = X at *
    obtain ⟨acc, k, d⟩ := X
    dsimp only at hfo ⊢
    have hal : acc.length ≤ j + 1 := by have := hfo.2; omega
    by_cases h2 : b.l[j].tm = t
    · rw [step_same h2] at hst
      have h3 : ¬ t < b.l[j].tm := by omega
      cases d with
      | true =>
        (repeat' ((first | refine sp_ ?_ | exact ex0 | refine call_u Try.call53 (cn) [] ex1 ?_ | refine call_u Try.call52 (cp) [] ex1 ?_ | refine call_u Try.call52 (cpf) [] ex1 ?_ | (refine ret_s [] ?_; simp (decide := true) (disch := omega) only [go_sem, ↓reduceIte, ↓put_at]))))
        refine next_s (α := {j : Nat // j ≤ b.l.length}) ⟨j + 1, hlt⟩ ⟨?_, by (try dsimp only); omega⟩
        (try dsimp only)
        rw [hst]
        simp (decide := true) (disch := omega) only [go_sem, ↓reduceIte, ↓put_at]
        simp only [List.map_append, List.map_cons, List.map_nil]
        first | rfl | exact ⟨rfl, rfl⟩ | skip
      | false =>
        (repeat' ((first | refine sp_ ?_ | exact ex0 | refine call_u Try.call53 (cn) [] ex1 ?_ | refine call_u Try.call52 (cp) [] ex1 ?_ | refine call_u Try.call52 (cpf) [] ex1 ?_ | (refine ret_s [] ?_; simp (decide := true) (disch := omega) only [go_sem, ↓reduceIte, ↓put_at]))))
        refine next_s (α := {j : Nat // j ≤ b.l.length}) ⟨j + 1, hlt⟩ ⟨?_, by (try dsimp only); omega⟩
        (try dsimp only)
        rw [hst]
        simp (decide := true) (disch := omega) only [go_sem, ↓reduceIte, ↓put_at]
        simp only [List.map_append, List.map_cons, List.map_nil]
        first | rfl | exact ⟨rfl, rfl⟩ | skip
    · cases d with
      | true =>
        rw [step_old h2 (by simp)] at hst
        (repeat' ((first | refine sp_ ?_ | exact ex0 | refine call_u Try.call53 (cn) [] ex1 ?_ | refine call_u Try.call52 (cp) [] ex1 ?_ | refine call_u Try.call52 (cpf) [] ex1 ?_ | (refine ret_s [] ?_; simp (decide := true) (disch := omega) only [go_sem, ↓reduceIte, ↓put_at]))))
        refine next_s (α := {j : Nat // j ≤ b.l.length}) ⟨j + 1, hlt⟩ ⟨?_, by (try dsimp only); omega⟩
        (try dsimp only)
        rw [hst]
        simp (decide := true) (disch := omega) only [go_sem, ↓reduceIte, ↓put_at]
        simp only [List.map_append, List.map_cons, List.map_nil]
        first | rfl | exact ⟨rfl, rfl⟩ | skip
      | false =>
        by_cases h3 : t < b.l[j].tm
        · rw [step_new h3, hN] at hst
          (repeat' ((first | refine sp_ ?_ | exact ex0 | refine call_u Try.call53 (cn) [] ex1 ?_ | refine call_u Try.call52 (cp) [] ex1 ?_ | refine call_u Try.call52 (cpf) [] ex1 ?_ | (refine ret_s [] ?_; simp (decide := true) (disch := omega) only [go_sem, ↓reduceIte, ↓put_at]))))
          refine next_s (α := {j : Nat // j ≤ b.l.length}) ⟨j + 1, hlt⟩ ⟨?_, by (try dsimp only); omega⟩
          (try dsimp only)
          rw [hst]
          simp (decide := true) (disch := omega) only [go_sem, ↓reduceIte, ↓put_at]
          simp only [List.map_append, List.map_cons, List.map_nil]
          first | rfl | exact ⟨rfl, rfl⟩ | skip
        · rw [step_old h2 (fun q => h3 q.2)] at hst
          (repeat' ((first | refine sp_ ?_ | exact ex0 | refine call_u Try.call53 (cn) [] ex1 ?_ | refine call_u Try.call52 (cp) [] ex1 ?_ | refine call_u Try.call52 (cpf) [] ex1 ?_ | (refine ret_s [] ?_; simp (decide := true) (disch := omega) only [go_sem, ↓reduceIte, ↓put_at]))))
          refine next_s (α := {j : Nat // j ≤ b.l.length}) ⟨j + 1, hlt⟩ ⟨?_, by (try dsimp only); omega⟩
          (try dsimp only)
          rw [hst]
          simp (decide := true) (disch := omega) only [go_sem, ↓reduceIte, ↓put_at]
          simp only [List.map_append, List.map_cons, List.map_nil]
          first | rfl | exact ⟨rfl, rfl⟩ | skip
  · obtain rfl : j = b.l.length := by omega
    rw [List.take_length]
    have hfo := foldR_len (t := t) (i := i) (c := c) (now := now) hs b.l hf
    have hro : roundR t i c now s b.l = if (b.l.foldl (stepR t i c now s) ([], 0, false)).2.2 = true then ((b.l.foldl (stepR t i c now s) ([], 0, false)).1, (b.l.foldl (stepR t i c now s) ([], 0, false)).2.1) else ((b.l.foldl (stepR t i c now s) ([], 0, false)).1 ++ [N.1], N.2) := by
      unfold roundR
      rw [hN]
    have hR1 : (∀ f ∈ (roundR t i c now s b.l).1, f.Ok) ∧ (roundR t i c now s b.l).1.length ≤ b.l.length + 2 := by
      rw [hro]
      split
      · exact ⟨hfo.1, by dsimp only; omega⟩
      · refine ⟨fun f h => ?_, by dsimp only; rw [List.length_append]; simp; omega⟩
        simp only [List.mem_append, List.mem_cons, List.not_mem_nil, or_false] at h
        rcases h with h | rfl
        · exact hfo.1 f h
        · exact hpo
    generalize b.l.foldl (stepR t i c now s) ([], 0, false) = X at *
    obtain ⟨acc, k, d⟩ := X
    dsimp only at hro hfo ⊢
    (repeat' ((fail_if_success (refine stop_reg 21 ?_)); (first | refine sp_ ?_ | exact ex0 | (refine ret_s [] ?_; simp (decide := true) (disch := omega) only [go_sem, ↓reduceIte, ↓put_at]))))
    refine meet_s (α := {x : List RF × Int // x = roundR t i c now s b.l}) (fun x => [(.o (6, 0), .num 8), (.c (6, 0) 0, .av (.val (vi b.cf))), (.c (6, 0) 1, .av (.val (vi b.cp))), (.c (6, 0) 2, .av (.val (vi b.cb))), (.c (6, 0) 3, .av (.val (.lst 4 (b.l.map rfEl)))), (.c (6, 0) 4, .av (.val (vi b.hz))), (.c (6, 0) 5, .av (.val (vi b.pl))), (.c (6, 0) 6, .av (.val (vi b.dr))), (.c (6, 0) 7, .av (.val (vi b.ev))), (.s 6, .av (.ptr (6, 0) 0 0)), (.o (12, 0), .num 8), (.s 12, .av (.ptr (12, 0) 0 0)), (.s 1, .av (.val (vi t))), (.k (49, 0), .row 86 4 x.1.1.length), (.s 15, .av (.own (49, 0) 0 86 4 (x.1.1.map rfEl))), (.s 16, .av (.val (vi x.1.2)))]) ?_ (fun x => ?_)
    · cases d with
      | true =>
        rw [if_pos rfl] at hro
        (repeat' ((first | refine sp_ ?_ | exact ex0 | (refine ret_s [] ?_; simp (decide := true) (disch := omega) only [go_sem, ↓reduceIte, ↓put_at]))))
        refine at_meet ⟨(acc, k), hro.symm⟩ ?_
        simp (decide := true) (disch := omega) only [go_sem, ↓reduceIte, ↓put_at]
      | false =>
        rw [if_neg (by decide)] at hro
        (repeat' ((first | refine sp_ ?_ | exact ex0 | refine call_u Try.call53 (cn) [] ex1 ?_ | refine call_u Try.call52 (cp) [] ex1 ?_ | (refine ret_s [] ?_; simp (decide := true) (disch := omega) only [go_sem, ↓reduceIte, ↓put_at]))))
        refine at_meet ⟨(acc ++ [N.1], N.2), hro.symm⟩ ?_
        simp (decide := true) (disch := omega) only [go_sem, ↓reduceIte, ↓put_at]
        rw [List.map_append]
        rfl
    obtain ⟨⟨l1, k1⟩, hx⟩ := x
    rw [← hx] at hR hR1
    dsimp only at hR hR1 ⊢
    clear hx hro hfo cp cn
    (repeat' ((fail_if_success (refine stop_reg 27 ?_)); (first | refine sp_ ?_ | exact ex0 | (refine ret_s [] ?_; simp (decide := true) (disch := omega) only [go_sem, ↓reduceIte, ↓put_at]))))
    refine loop_s (α := {x : RB × Int × List Int // EvR x ∧ evictR t x.1.l.length x.1 x.2.1 x.2.2 = R}) (fun x => [(.o (6, 0), .num 8), (.c (6, 0) 0, .av (.val (vi x.1.1.cf))), (.c (6, 0) 1, .av (.val (vi x.1.1.cp))), (.c (6, 0) 2, .av (.val (vi x.1.1.cb))), (.c (6, 0) 3, .av (.val (.lst 4 (x.1.1.l.map rfEl)))), (.c (6, 0) 4, .av (.val (vi x.1.1.hz))), (.c (6, 0) 5, .av (.val (vi x.1.1.pl))), (.c (6, 0) 6, .av (.val (vi x.1.1.dr))), (.c (6, 0) 7, .av (.val (vi x.1.1.ev))), (.s 6, .av (.ptr (6, 0) 0 0)), (.o (12, 0), .num 8), (.s 12, .av (.ptr (12, 0) 0 0)), (.s 1, .av (.val (vi t))), (.s 16, .av (.val (vi x.1.2.1))), (.k (118, 0), .row 3 1 x.1.2.2.length), (.s 24, .av (.own (118, 0) 0 3 1 (x.1.2.2.map fun t : Int => [vi t])))]) (fun x => x.1.1.l.length) ⟨(⟨b.cf, b.cp, b.cb, l1, b.hz, b.pl, b.dr, b.ev⟩, k1, []), ⟨hc.1, hc.2.1, hc.2.2, hR1.1, by simp; omega, he0, by dsimp only; omega⟩, hR⟩ ?_ (fun x => ?_)
    · simp (decide := true) (disch := omega) only [go_sem, ↓reduceIte, ↓put_at]
      first | exact rfl | (show _ = _; kernel_rfl)
    obtain ⟨⟨⟨cf, cp2, cb, l0, hz, pl, dr, ev⟩, k, e⟩, hx, hR⟩ := x
    dsimp only at hx hR ⊢
    have hfr := hx.fr
    have hxl := hx.ln
    have hx0 : 0 ≤ ev := hx.e0
    have hx1 : ev + l0.length ≤ 2199023255552 := hx.e1
    have g0 : 1 ≤ cf := hx.c0
    have g1 : 1 ≤ cp2 := hx.c1
    have g2 : 1 ≤ cb := hx.c2
    dsimp only at hfr hxl
    have cs := dob_sizes ⟨cf, cp2, cb, l0, hz, pl, dr, ev⟩ hfr (by dsimp only; omega)
    cases ho : overR ⟨cf, cp2, cb, l0, hz, pl, dr, ev⟩ with
    | false =>
      have ho' : ¬ (cf < l0.length ∨ cp2 < (sizeR l0).1 ∨ cb < (sizeR l0).2) := of_decide_eq_false ho
      have o1 : (l0.length : Int) ≤ cf := by omega
      have o2 : (sizeR l0).1 ≤ cp2 := by omega
      have o3 : (sizeR l0).2 ≤ cb := by omega
      clear ho'
      rw [evictR_done ho] at hR
      subst hR
      (repeat' ((first | refine sp_ ?_ | exact ex0 | refine call_u Try.call36 (cs) [] ex1 ?_ | (refine ret_s [] ?_; simp (decide := true) (disch := omega) only [go_sem, ↓reduceIte, ↓put_at]))))
    | true =>
      have ho' : cf < l0.length ∨ cp2 < (sizeR l0).1 ∨ cb < (sizeR l0).2 := of_decide_eq_true ho
      cases l0 with
      | nil =>
        exfalso
        simp [sizeR] at ho'
        omega
      | cons f l =>
        rw [List.length_cons, evictR_step ho] at hR
        simp only [List.length_cons] at hxl hx1
        have hx' : ∀ k', EvR (⟨cf, cp2, cb, l, f.tm, pl, dr, ev + 1⟩, k', e ++ [f.tm]) := fun k' =>
          ⟨g0, g1, g2, fun g hg => hfr g (List.mem_cons_of_mem _ hg), by rw [List.length_append]; simp; omega, by dsimp only; omega, by dsimp only; omega⟩
        have hlt : ((f :: l).length : Int) > 0 := by simp only [List.length_cons]; omega
        have ho' : cf < (l.length : Int) + 1 ∨ cp2 < (sizeR (f :: l)).1 ∨ cb < (sizeR (f :: l)).2 := by
          rcases ho' with h | h | h
          · exact .inl (by simp only [List.length_cons] at h; omega)
          · exact .inr (.inl h)
          · exact .inr (.inr h)
        by_cases o1 : cf < (l.length : Int) + 1
        · by_cases he : f.tm = t
          · rw [if_pos he] at hR
            (repeat' ((first | refine sp_ ?_ | exact ex0 | refine call_u Try.call36 (cs) [] ex1 ?_ | (refine ret_s [] ?_; simp (decide := true) (disch := omega) only [go_sem, ↓reduceIte, ↓put_at]))))
            refine next_s (α := {x : RB × Int × List Int // EvR x ∧ evictR t x.1.l.length x.1 x.2.1 x.2.2 = R}) ⟨(⟨cf, cp2, cb, l, f.tm, pl, dr, ev + 1⟩, 6, e ++ [f.tm]), hx' _, hR⟩ ⟨?_, by (try dsimp only); (try simp only [List.length_cons]); omega⟩
            (try dsimp only)
            simp (decide := true) (disch := omega) only [go_sem, ↓reduceIte, ↓put_at]
            rw [List.map_append]
            exact ⟨(List.take_of_length_le (by rw [List.length_map]; omega)).symm, rfl⟩
          · rw [if_neg he] at hR
            (repeat' ((first | refine sp_ ?_ | exact ex0 | refine call_u Try.call36 (cs) [] ex1 ?_ | (refine ret_s [] ?_; simp (decide := true) (disch := omega) only [go_sem, ↓reduceIte, ↓put_at]))))
            refine next_s (α := {x : RB × Int × List Int // EvR x ∧ evictR t x.1.l.length x.1 x.2.1 x.2.2 = R}) ⟨(⟨cf, cp2, cb, l, f.tm, pl, dr, ev + 1⟩, k, e ++ [f.tm]), hx' _, hR⟩ ⟨?_, by (try dsimp only); (try simp only [List.length_cons]); omega⟩
            (try dsimp only)
            simp (decide := true) (disch := omega) only [go_sem, ↓reduceIte, ↓put_at]
            rw [List.map_append]
            exact ⟨(List.take_of_length_le (by rw [List.length_map]; omega)).symm, rfl⟩
        · by_cases o2 : cp2 < (sizeR (f :: l)).1
          · by_cases he : f.tm = t
            · rw [if_pos he] at hR
              (repeat' ((first | refine sp_ ?_ | exact ex0 | refine call_u Try.call36 (cs) [] ex1 ?_ | (refine ret_s [] ?_; simp (decide := true) (disch := omega) only [go_sem, ↓reduceIte, ↓put_at]))))
              refine next_s (α := {x : RB × Int × List Int // EvR x ∧ evictR t x.1.l.length x.1 x.2.1 x.2.2 = R}) ⟨(⟨cf, cp2, cb, l, f.tm, pl, dr, ev + 1⟩, 6, e ++ [f.tm]), hx' _, hR⟩ ⟨?_, by (try dsimp only); (try simp only [List.length_cons]); omega⟩
              (try dsimp only)
              simp (decide := true) (disch := omega) only [go_sem, ↓reduceIte, ↓put_at]
              rw [List.map_append]
              exact ⟨(List.take_of_length_le (by rw [List.length_map]; omega)).symm, rfl⟩
            · rw [if_neg he] at hR
              (repeat' ((first | refine sp_ ?_ | exact ex0 | refine call_u Try.call36 (cs) [] ex1 ?_ | (refine ret_s [] ?_; simp (decide := true) (disch := omega) only [go_sem, ↓reduceIte, ↓put_at]))))
              refine next_s (α := {x : RB × Int × List Int // EvR x ∧ evictR t x.1.l.length x.1 x.2.1 x.2.2 = R}) ⟨(⟨cf, cp2, cb, l, f.tm, pl, dr, ev + 1⟩, k, e ++ [f.tm]), hx' _, hR⟩ ⟨?_, by (try dsimp only); (try simp only [List.length_cons]); omega⟩
              (try dsimp only)
              simp (decide := true) (disch := omega) only [go_sem, ↓reduceIte, ↓put_at]
              rw [List.map_append]
              exact ⟨(List.take_of_length_le (by rw [List.length_map]; omega)).symm, rfl⟩
          · have o3 : cb < (sizeR (f :: l)).2 := by
              rcases ho' with h | h | h
              · exact absurd h o1
              · exact absurd h o2
              · exact h
            by_cases he : f.tm = t
            · rw [if_pos he] at hR
              (repeat' ((first | refine sp_ ?_ | exact ex0 | refine call_u Try.call36 (cs) [] ex1 ?_ | (refine ret_s [] ?_; simp (decide := true) (disch := omega) only [go_sem, ↓reduceIte, ↓put_at]))))
              refine next_s (α := {x : RB × Int × List Int // EvR x ∧ evictR t x.1.l.length x.1 x.2.1 x.2.2 = R}) ⟨(⟨cf, cp2, cb, l, f.tm, pl, dr, ev + 1⟩, 6, e ++ [f.tm]), hx' _, hR⟩ ⟨?_, by (try dsimp only); (try simp only [List.length_cons]); omega⟩
              (try dsimp only)
              simp (decide := true) (disch := omega) only [go_sem, ↓reduceIte, ↓put_at]
              rw [List.map_append]
              exact ⟨(List.take_of_length_le (by rw [List.length_map]; omega)).symm, rfl⟩
            · rw [if_neg he] at hR
              (repeat' ((first | refine sp_ ?_ | exact ex0 | refine call_u Try.call36 (cs) [] ex1 ?_ | (refine ret_s [] ?_; simp (decide := true) (disch := omega) only [go_sem, ↓reduceIte, ↓put_at]))))
              refine next_s (α := {x : RB × Int × List Int // EvR x ∧ evictR t x.1.l.length x.1 x.2.1 x.2.2 = R}) ⟨(⟨cf, cp2, cb, l, f.tm, pl, dr, ev + 1⟩, k, e ++ [f.tm]), hx' _, hR⟩ ⟨?_, by (try dsimp only); (try simp only [List.length_cons]); omega⟩
              (try dsimp only)
              simp (decide := true) (disch := omega) only [go_sem, ↓reduceIte, ↓put_at]
              rw [List.map_append]
              exact ⟨(List.take_of_length_le (by rw [List.length_map]; omega)).symm, rfl⟩
end Go.Proofs.Ytekpaepkoeelfaa
