
/- Package net: where the first one always arrives, all arrive in their order; walked. -/
import Derived.Test.YtdgkehoodlncmaaNetL
import Derived.Test.YtdgkehoodlncmaaNet4
import Derived.Test.YtdgkehoodlncmaaNetP2
import Derived.Test.YtdgkehoodlncmaaQRef
import Derived.Test.YtdgkehoodlncmaaRS
namespace Go.Proofs.Ytdgkehoodlncmaa
open Go.RowKit
set_option linter.unusedVariables false
set_option linter.unusedSimpArgs false

/-- The bags of one lane alone. -/
def mk1 (L : Ln) (b : List (List UInt8)) : Bags := if b = [] then [] else [(L, b)]
theorem bagB_mk1 (L : Ln) (b : List (List UInt8)) : bagB (mk1 L b) L = b := by
  unfold mk1
  split
  · rename_i h; rw [h]; rfl
  · simp [bagB, getB]
theorem setB_mk1 (L : Ln) (b c : List (List UInt8)) (hc : c ≠ []) : setB (mk1 L b) L c = mk1 L c := by
  unfold mk1
  rw [if_neg hc]
  split
  · rfl
  · simp [setB]
theorem lessB_mk1 (L : Ln) (b c : List (List UInt8)) : lessB (mk1 L b) L c = mk1 L c := by
  unfold lessB
  split
  · rename_i h
    subst h
    unfold mk1
    split
    · rfl
    · simp [delB]
  · rename_i h; exact setB_mk1 L b c h
structure OrdI (L : Ln) (N : N28) (sent : List (List UInt8)) (j : Nat) : Prop where
  ok : N.Ok j
  m : N.m = mk1 L sent
  tk : N.taken = 0
  mo : N.most = 50
  by' : N.bytes = 1048576
  len : sent.length ≤ j
  sum : sumB sent ≤ 40 * j
theorem ord_new (L : Ln) : OrdI L (newB 50 1048576) [] 0 := ⟨newB_ok _ _, rfl, rfl, by decide, by decide, by simp, by simp [sumB]⟩
theorem ord_send {L : Ln} (hL : lnOk L = true) {N : N28} {sent : List (List UInt8)} {j : Nat} (hj : j < 40) (h : OrdI L N sent j) (s : List UInt8) (hs : s.length ≤ 40) :
    (s = [] → canB N L s = false ∧ OrdI L (sendB N L s) sent (j + 1)) ∧ (s ≠ [] → canB N L s = true ∧ OrdI L (sendB N L s) (sent ++ [s]) (j + 1)) := by
  have hok := send_ok h.ok L s
  have hb : bagB N.m L = sent := by rw [h.m, bagB_mk1]
  have h1 := h.len
  have h2 := h.sum
  constructor
  · intro e
    have hc : canB N L s = false := by unfold canB; rw [decide_eq_false_iff_not]; exact fun q => q.2.1 e
    have he : sendB N L s = { N with lost := N.lost + 1 } := by unfold sendB putB; rw [hc]; rfl
    rw [he] at hok ⊢
    exact ⟨hc, hok, h.m, h.tk, h.mo, h.by', by omega, by omega⟩
  · intro e
    have hc : canB N L s = true := by
      unfold canB
      rw [decide_eq_true_eq, hb, h.mo, h.by']
      exact ⟨hL, e, by omega, by omega, by omega⟩
    have he : sendB N L s = { N with m := setB N.m L (sent ++ [s]), sent := N.sent + 1 } := by unfold sendB putB; rw [hc, hb]; rfl
    rw [he] at hok ⊢
    refine ⟨hc, hok, ?_, h.tk, h.mo, h.by', by rw [List.length_append]; simp; omega, by rw [sumB_app]; simp [sumB]; omega⟩
    dsimp only
    rw [h.m, setB_mk1 L sent _ (by simp)]
structure OrdJ (L : Ln) (N : N28) (sent : List (List UInt8)) (i : Nat) : Prop where
  ok : N.Ok ((40 + i : Nat) : Int)
  m : N.m = mk1 L (sent.drop i)
  tk : N.taken = i
theorem ord_take {L : Ln} {N : N28} {sent : List (List UInt8)} {i : Nat} (hi : i < sent.length) (h : OrdJ L N sent i) : isB N L 0 = true ∧ atB N L 0 = sent[i] ∧ OrdJ L (takeB N L 0) sent (i + 1) := by
  have hok := take_ok h.ok L 0
  have hb : bagB N.m L = sent.drop i := by rw [h.m, bagB_mk1]
  have hdl : (sent.drop i).length = sent.length - i := List.length_drop
  have hc : isB N L 0 = true := by unfold isB; rw [decide_eq_true_eq, hb]; omega
  have ha : atB N L 0 = sent[i] := by
    unfold atB
    rw [if_pos hc, hb]
    show (sent.drop i).getD 0 [] = _
    rw [List.getD_eq_getElem?_getD, List.getElem?_drop]
    simp [hi]
  have hd : (sent.drop i).eraseIdx 0 = sent.drop (i + 1) := by
    rw [List.eraseIdx_zero, List.tail_drop]
  have he : takeB N L 0 = { N with m := lessB N.m L (sent.drop (i + 1)), taken := N.taken + 1 } := by
    unfold takeB cutB
    rw [if_pos hc, if_pos hc, hb]
    show ({ N with m := lessB N.m L ((sent.drop i).eraseIdx 0), taken := N.taken + 1 } : N28) = _
    rw [hd]
  refine ⟨hc, ha, ?_⟩
  rw [he] at hok ⊢
  refine ⟨by rw [show ((40 + (i + 1) : Nat) : Int) = ((40 + i : Nat) : Int) + 1 by omega]; exact hok, ?_, ?_⟩
  · dsimp only
    rw [h.m, lessB_mk1]
  · dsimp only
    rw [h.tk]
    omega
set_option maxRecDepth 100000 in
set_option maxHeartbeats 8000000 in
theorem order_walk28 (l : List (List UInt8)) (way path : Int) (hl : l.length ≤ maxLen) (hb : ∀ s ∈ l, s.length ≤ maxLen) : Spec Try.prog 12 [.ca (.val (.lst 1 (l.map fun s => [vs s]))), .ca (.val (vi way)), .ca (.val (vi path))] [] (.ca (.val (vb true))) [] := by
  have c0 := net_awake
  have cn := net_new 50 1048576
  refine spec_of Try.func12 rfl Try.ntmps12 Try.results12 ⟨by decide, by simp⟩ fun C hC => ?_
  (repeat' ((fail_if_success (first | refine stop_at 4 ?_ | refine stop_l 4 ?_)); (first | refine sp_ ?_ | exact ex0 | refine call_u Try.call43 (c0) [] ex1 ?_ | (refine ret_s [] ?_; simp (decide := true) (disch := omega) only [go_sem, ↓reduceIte, ↓put_at]))))
  obtain ⟨wy, hw⟩ : ∃ n, n = way % 2 := ⟨_, rfl⟩
  obtain ⟨pt, hp⟩ : ∃ n, n = 1 + path % 8 := ⟨_, rfl⟩
  have hw2 : 0 ≤ wy ∧ wy ≤ 1 := by omega
  have hp2 : 1 ≤ pt ∧ pt ≤ 8 := by omega
  rw [← hw, ← hp]
  clear hw hp c0
  have hL : lnOk (wy, pt) = true := by unfold lnOk; rw [decide_eq_true_eq]; dsimp only; omega
  have hI := ord_new (wy, pt)
  generalize newB 50 1048576 = N0 at *
  (repeat' ((fail_if_success (refine stop_reg 6 ?_)); (first | refine sp_ ?_ | exact ex0 | refine call_u Try.call44 (cn) [] ex1 ?_ | refine pnil_u (by first | exact .inl rfl | exact .inr rfl) (by simp (decide := true) (disch := omega) only [go_sem, ↓reduceIte, ↓put_at]; first | done | assumption | omega) ?_ | (refine ret_s [] ?_; simp (decide := true) (disch := omega) only [go_sem, ↓reduceIte, ↓put_at]))))
  (repeat' ((fail_if_success (first | refine stop_at 8 ?_ | refine stop_l 8 ?_)); (first | refine sp_ ?_ | exact ex0 | (refine ret_s [] ?_; simp (decide := true) (disch := omega) only [go_sem, ↓reduceIte, ↓put_at]))))
  refine own_s 8 (8, 9) 9 1 ?_
  simp (decide := true) (disch := omega) only [go_sem, ↓reduceIte, ↓put_at]
  (repeat' ((fail_if_success (refine stop_reg 9 ?_)); (first | refine sp_ ?_ | exact ex0 | (refine ret_s [] ?_; simp (decide := true) (disch := omega) only [go_sem, ↓reduceIte, ↓put_at]))))
  refine loop_s (α := {x : Nat × N28 × List (List UInt8) // x.1 ≤ l.length ∧ x.1 ≤ 40 ∧ OrdI (wy, pt) x.2.1 x.2.2 x.1}) (fun x => [(.s 0, .av (.val (.lst 1 (l.map fun s => [vs s])))), (.s 1, .av (.val (vi wy))), (.s 2, .av (.val (vi pt))), (.o (23, 0), .num 9), (.c (23, 0) 0, .av (.val (vi x.1.2.1.most))), (.c (23, 0) 1, .av (.val (vi x.1.2.1.bytes))), (.c (23, 0) 2, .av (.ref (23, 3) 0)), (.c (23, 0) 3, .av (.val (vi x.1.2.1.sent))), (.c (23, 0) 4, .av (.val (vi x.1.2.1.lost))), (.c (23, 0) 5, .av (.val (vi x.1.2.1.taken))), (.c (23, 0) 6, .av (.val (vi x.1.2.1.twins))), (.c (23, 0) 7, .av (.val (vi x.1.2.1.turned))), (.c (23, 0) 8, .av (.val (vi x.1.2.1.forged))), (.r (23, 3), .tree (.mp (kvB 9 x.1.2.1.m))), (.s 7, .av (.ptr (23, 0) 0 0)), (.s 8, .av (.own (8, 9) 0 9 1 (x.1.2.2.map fun s => [vs s]))), (.k (8, 9), .row 9 1 x.1.2.2.length), (.s 9, .av (.val (vi x.1.1)))]) (fun x => 40 - x.1.1) ⟨(0, N0, []), Nat.zero_le _, Nat.zero_le _, hI⟩ ?_ (fun x => ?_)
  · simp (decide := true) (disch := omega) only [go_sem, ↓reduceIte, ↓put_at]
  clear hI cn
  obtain ⟨⟨j, N, sent⟩, hj1, hj2, hI⟩ := x
  dsimp only at hj1 hj2 hI ⊢
  have hlen := hI.len
  have fin : ∀ (hend : True), True := fun _ => trivial
  by_cases hlt : j < l.length ∧ j < 40
  · obtain ⟨hlt, hlt2⟩ := hlt
    have hd := hb _ (List.getElem_mem hlt)
    have cc := q_cut l[j] 40 hd (by decide)
    rw [show (40 : Int).toNat = 40 from rfl] at cc
    have hs : (l[j].take 40).length ≤ 40 := by rw [List.length_take]; omega
    generalize l[j].take 40 = s at *
    have q1 := net_send N (wy, pt) s hI.ok (by omega) (by omega)
    obtain ⟨S1, S2⟩ := ord_send hL hlt2 hI s hs
    dsimp only at q1
    by_cases he : s = []
    · obtain ⟨S3, S4⟩ := S1 he
      rw [S3] at q1
      generalize sendB N (wy, pt) s = N1 at *
      subst he
      (repeat' ((first | refine sp_ ?_ | exact ex0 | refine call_u Try.call45 (cc) [] ex1 ?_ | refine call_u Try.call46 (q1) [(23, 0)] ex1 ?_ | (refine ret_s [] ?_; simp (decide := true) (disch := omega) only [go_sem, ↓reduceIte, ↓put_at]))))
      refine next_s (α := {x : Nat × N28 × List (List UInt8) // x.1 ≤ l.length ∧ x.1 ≤ 40 ∧ OrdI (wy, pt) x.2.1 x.2.2 x.1}) ⟨(j + 1, N1, sent), hlt, hlt2, S4⟩ ⟨?_, by (try dsimp only); omega⟩
      (try dsimp only)
      simp (decide := true) (disch := omega) only [go_sem, ↓reduceIte, ↓put_at]
    · obtain ⟨S3, S4⟩ := S2 he
      rw [S3] at q1
      generalize sendB N (wy, pt) s = N1 at *
      have hbe : (s == []) = false := by simpa using he
      (repeat' ((first | refine sp_ ?_ | exact ex0 | refine call_u Try.call45 (cc) [] ex1 ?_ | refine call_u Try.call46 (q1) [(23, 0)] ex1 ?_ | (refine ret_s [] ?_; simp (decide := true) (disch := omega) only [go_sem, ↓reduceIte, ↓put_at]))))
      (try simp only [hbe])
      (repeat' ((first | refine sp_ ?_ | exact ex0 | refine call_u Try.call45 (cc) [] ex1 ?_ | refine call_u Try.call46 (q1) [(23, 0)] ex1 ?_ | (refine ret_s [] ?_; simp (decide := true) (disch := omega) only [go_sem, ↓reduceIte, ↓put_at]))))
      (try simp only [hbe])
      (repeat' ((first | refine sp_ ?_ | exact ex0 | (refine ret_s [] ?_; simp (decide := true) (disch := omega) only [go_sem, ↓reduceIte, ↓put_at]))))
      refine next_s (α := {x : Nat × N28 × List (List UInt8) // x.1 ≤ l.length ∧ x.1 ≤ 40 ∧ OrdI (wy, pt) x.2.1 x.2.2 x.1}) ⟨(j + 1, N1, sent ++ [s]), hlt, hlt2, S4⟩ ⟨?_, by (try dsimp only); omega⟩
      (try dsimp only)
      simp (decide := true) (disch := omega) only [go_sem, ↓reduceIte, ↓put_at]
      rw [List.map_append]
      rfl
  · have hJ : OrdJ (wy, pt) N sent 0 := ⟨hI.ok.mono (by omega), by rw [List.drop_zero]; exact hI.m, hI.tk⟩
    by_cases hlt1 : j < l.length
    · have hlt2 : ¬ j < 40 := fun h => hlt ⟨hlt1, h⟩
      (repeat' ((fail_if_success (refine stop_reg 17 ?_)); (first | refine sp_ ?_ | exact ex0 | (refine ret_s [] ?_; simp (decide := true) (disch := omega) only [go_sem, ↓reduceIte, ↓put_at]))))
      refine loop_s (α := {x : Nat × N28 // x.1 ≤ sent.length ∧ OrdJ (wy, pt) x.2 sent x.1}) (fun x => [(.s 1, .av (.val (vi wy))), (.s 2, .av (.val (vi pt))), (.o (23, 0), .num 9), (.c (23, 0) 0, .av (.val (vi x.1.2.most))), (.c (23, 0) 1, .av (.val (vi x.1.2.bytes))), (.c (23, 0) 2, .av (.ref (23, 3) 0)), (.c (23, 0) 3, .av (.val (vi x.1.2.sent))), (.c (23, 0) 4, .av (.val (vi x.1.2.lost))), (.c (23, 0) 5, .av (.val (vi x.1.2.taken))), (.c (23, 0) 6, .av (.val (vi x.1.2.twins))), (.c (23, 0) 7, .av (.val (vi x.1.2.turned))), (.c (23, 0) 8, .av (.val (vi x.1.2.forged))), (.r (23, 3), .tree (.mp (kvB 9 x.1.2.m))), (.s 7, .av (.ptr (23, 0) 0 0)), (.s 8, .av (.own (8, 9) 0 9 1 (sent.map fun s => [vs s]))), (.k (8, 9), .row 9 1 sent.length), (.s 55, .av (.own (8, 9) 0 9 1 (sent.map fun s => [vs s]))), (.s 56, .av (.val (vi sent.length))), (.s 57, .av (.val (vi x.1.1)))]) (fun x => sent.length - x.1.1) ⟨(0, N), Nat.zero_le _, hJ⟩ ?_ (fun x => ?_)
      · simp (decide := true) (disch := omega) only [go_sem, ↓reduceIte, ↓put_at]
      obtain ⟨⟨i, M⟩, hi, hM⟩ := x
      dsimp only at hi hM ⊢
      by_cases hlt3 : i < sent.length
      · have hge : (sent.map fun s => [vs s]).getD i [] = [vs sent[i]] := by simp [hlt3]
        have q := net_take M (wy, pt) 0 hM.ok (by omega)
        obtain ⟨T1, T2, T3⟩ := ord_take hlt3 hM
        rw [T1, T2] at q
        dsimp only at q
        generalize takeB M (wy, pt) 0 = M1 at *
        have hbe : (sent[i] == sent[i]) = true := by simp
        (repeat' ((first | refine sp_ ?_ | exact ex0 | refine call_u Try.call47 (q) [(23, 0)] ex1 ?_ | (refine ret_s [] ?_; simp (decide := true) (disch := omega) only [go_sem, ↓reduceIte, ↓put_at]))))
        (try simp only [hge, hbe])
        (repeat' ((first | refine sp_ ?_ | exact ex0 | refine call_u Try.call47 (q) [(23, 0)] ex1 ?_ | (refine ret_s [] ?_; simp (decide := true) (disch := omega) only [go_sem, ↓reduceIte, ↓put_at]))))
        (try simp only [hge, hbe])
        (repeat' ((first | refine sp_ ?_ | exact ex0 | refine call_u Try.call47 (q) [(23, 0)] ex1 ?_ | (refine ret_s [] ?_; simp (decide := true) (disch := omega) only [go_sem, ↓reduceIte, ↓put_at]))))
        refine next_s (α := {x : Nat × N28 // x.1 ≤ sent.length ∧ OrdJ (wy, pt) x.2 sent x.1}) ⟨(i + 1, M1), hlt3, T3⟩ ⟨?_, by (try dsimp only); omega⟩
        (try dsimp only)
        simp (decide := true) (disch := omega) only [go_sem, ↓reduceIte, ↓put_at]
      · obtain rfl : i = sent.length := by omega
        have hmm : M.m = [] := by rw [hM.m, List.drop_length]; rfl
        have q1 := net_len M (wy, pt) hM.ok
        have q2 := net_paths0 M wy hmm
        have q3 := net_counts M
        rw [show bagB M.m (wy, pt) = [] by rw [hmm]; rfl, show (([] : List (List UInt8)).length : Int) = 0 from rfl] at q1
        rw [hM.tk] at q3
        dsimp only at q1
        (repeat' ((first | refine sp_ ?_ | exact ex0 | refine call_u Try.call52 (q1) [(23, 0)] ex1 ?_ | refine call_u Try.call53 (q2) [(23, 0)] ex1 ?_ | refine call_u Try.call51 (q3) [(23, 0)] ex1 ?_ | (refine ret_s [] ?_; simp (decide := true) (disch := omega) only [go_sem, ↓reduceIte, ↓put_at]))))
        refine gfld_s 3 2 _ [vi M.sent, vi M.lost, vi sent.length, vi M.twins, vi M.turned, vi M.forged] (vi sent.length) (by kernel_rfl) ti3 (by simp (decide := true) (disch := omega) only [go_sem, ↓reduceIte, ↓put_at]) (by simp (decide := true) (disch := omega) only [go_sem, ↓reduceIte, ↓put_at]) rfl ?_
        (repeat' ((first | refine sp_ ?_ | exact ex0 | (refine ret_s [] ?_; simp (decide := true) (disch := omega) only [go_sem, ↓reduceIte, ↓put_at]))))
    · (repeat' ((fail_if_success (refine stop_reg 17 ?_)); (first | refine sp_ ?_ | exact ex0 | (refine ret_s [] ?_; simp (decide := true) (disch := omega) only [go_sem, ↓reduceIte, ↓put_at]))))
      refine loop_s (α := {x : Nat × N28 // x.1 ≤ sent.length ∧ OrdJ (wy, pt) x.2 sent x.1}) (fun x => [(.s 1, .av (.val (vi wy))), (.s 2, .av (.val (vi pt))), (.o (23, 0), .num 9), (.c (23, 0) 0, .av (.val (vi x.1.2.most))), (.c (23, 0) 1, .av (.val (vi x.1.2.bytes))), (.c (23, 0) 2, .av (.ref (23, 3) 0)), (.c (23, 0) 3, .av (.val (vi x.1.2.sent))), (.c (23, 0) 4, .av (.val (vi x.1.2.lost))), (.c (23, 0) 5, .av (.val (vi x.1.2.taken))), (.c (23, 0) 6, .av (.val (vi x.1.2.twins))), (.c (23, 0) 7, .av (.val (vi x.1.2.turned))), (.c (23, 0) 8, .av (.val (vi x.1.2.forged))), (.r (23, 3), .tree (.mp (kvB 9 x.1.2.m))), (.s 7, .av (.ptr (23, 0) 0 0)), (.s 8, .av (.own (8, 9) 0 9 1 (sent.map fun s => [vs s]))), (.k (8, 9), .row 9 1 sent.length), (.s 55, .av (.own (8, 9) 0 9 1 (sent.map fun s => [vs s]))), (.s 56, .av (.val (vi sent.length))), (.s 57, .av (.val (vi x.1.1)))]) (fun x => sent.length - x.1.1) ⟨(0, N), Nat.zero_le _, hJ⟩ ?_ (fun x => ?_)
      · simp (decide := true) (disch := omega) only [go_sem, ↓reduceIte, ↓put_at]
      obtain ⟨⟨i, M⟩, hi, hM⟩ := x
      dsimp only at hi hM ⊢
      by_cases hlt3 : i < sent.length
      · have hge : (sent.map fun s => [vs s]).getD i [] = [vs sent[i]] := by simp [hlt3]
        have q := net_take M (wy, pt) 0 hM.ok (by omega)
        obtain ⟨T1, T2, T3⟩ := ord_take hlt3 hM
        rw [T1, T2] at q
        dsimp only at q
        generalize takeB M (wy, pt) 0 = M1 at *
        have hbe : (sent[i] == sent[i]) = true := by simp
        (repeat' ((first | refine sp_ ?_ | exact ex0 | refine call_u Try.call47 (q) [(23, 0)] ex1 ?_ | (refine ret_s [] ?_; simp (decide := true) (disch := omega) only [go_sem, ↓reduceIte, ↓put_at]))))
        (try simp only [hge, hbe])
        (repeat' ((first | refine sp_ ?_ | exact ex0 | refine call_u Try.call47 (q) [(23, 0)] ex1 ?_ | (refine ret_s [] ?_; simp (decide := true) (disch := omega) only [go_sem, ↓reduceIte, ↓put_at]))))
        (try simp only [hge, hbe])
        (repeat' ((first | refine sp_ ?_ | exact ex0 | refine call_u Try.call47 (q) [(23, 0)] ex1 ?_ | (refine ret_s [] ?_; simp (decide := true) (disch := omega) only [go_sem, ↓reduceIte, ↓put_at]))))
        refine next_s (α := {x : Nat × N28 // x.1 ≤ sent.length ∧ OrdJ (wy, pt) x.2 sent x.1}) ⟨(i + 1, M1), hlt3, T3⟩ ⟨?_, by (try dsimp only); omega⟩
        (try dsimp only)
        simp (decide := true) (disch := omega) only [go_sem, ↓reduceIte, ↓put_at]
      · obtain rfl : i = sent.length := by omega
        have hmm : M.m = [] := by rw [hM.m, List.drop_length]; rfl
        have q1 := net_len M (wy, pt) hM.ok
        have q2 := net_paths0 M wy hmm
        have q3 := net_counts M
        rw [show bagB M.m (wy, pt) = [] by rw [hmm]; rfl, show (([] : List (List UInt8)).length : Int) = 0 from rfl] at q1
        rw [hM.tk] at q3
        dsimp only at q1
        (repeat' ((first | refine sp_ ?_ | exact ex0 | refine call_u Try.call52 (q1) [(23, 0)] ex1 ?_ | refine call_u Try.call53 (q2) [(23, 0)] ex1 ?_ | refine call_u Try.call51 (q3) [(23, 0)] ex1 ?_ | (refine ret_s [] ?_; simp (decide := true) (disch := omega) only [go_sem, ↓reduceIte, ↓put_at]))))
        refine gfld_s 3 2 _ [vi M.sent, vi M.lost, vi sent.length, vi M.twins, vi M.turned, vi M.forged] (vi sent.length) (by kernel_rfl) ti3 (by simp (decide := true) (disch := omega) only [go_sem, ↓reduceIte, ↓put_at]) (by simp (decide := true) (disch := omega) only [go_sem, ↓reduceIte, ↓put_at]) rfl ?_
        (repeat' ((first | refine sp_ ?_ | exact ex0 | (refine ret_s [] ?_; simp (decide := true) (disch := omega) only [go_sem, ↓reduceIte, ↓put_at]))))
end Go.Proofs.Ytdgkehoodlncmaa
