
/- The statements of layer 24: a buffer read, compared with the document's; walked. -/
import Derived.Test.YtekpaepkoeelfaaLaw1
import Derived.Test.YtekpaepkoeelfaaBufS
namespace Go.Proofs.Ytekpaepkoeelfaa
open Go.RowKit
set_option linter.unusedVariables false
set_option linter.unusedSimpArgs false

/-- A buffer, read. -/
def buV (b : Bu) : V := .ep [vi b.cf, vi b.cp, vi b.cb, vi b.l.length, vi (pkts b.l), vi (bts b.l), .lst 1 (b.l.map fun f => [frV f]), vi b.hz, vi b.pl, vi b.dr, vi b.ev]
attribute [go_sem] buV
set_option maxRecDepth 100000 in
set_option maxHeartbeats 8000000 in
theorem bv_len (b : Bu) : Spec Try.prog 11 [.ca (.val (buV b))] [] (.ca (.val (vi b.l.length))) [] := by
  refine spec_of Try.func11 rfl Try.ntmps11 Try.results11 ⟨by decide, by simp⟩ fun C hC => ?_
  (repeat' ((first | refine sp_ ?_ | exact ex0 | (refine ret_s [] ?_; simp (decide := true) (disch := omega) only [go_sem, ↓reduceIte, ↓put_at]))))
set_option maxRecDepth 100000 in
set_option maxHeartbeats 8000000 in
theorem bv_hor (b : Bu) : Spec Try.prog 14 [.ca (.val (buV b))] [] (.ca (.val (vi b.hz))) [] := by
  refine spec_of Try.func14 rfl Try.ntmps14 Try.results14 ⟨by decide, by simp⟩ fun C hC => ?_
  (repeat' ((first | refine sp_ ?_ | exact ex0 | (refine ret_s [] ?_; simp (decide := true) (disch := omega) only [go_sem, ↓reduceIte, ↓put_at]))))
set_option maxRecDepth 100000 in
set_option maxHeartbeats 8000000 in
theorem bv_pack (b : Bu) : Spec Try.prog 20 [.ca (.val (buV b))] [] (.ca (.val (vi (pkts b.l)))) [] := by
  refine spec_of Try.func20 rfl Try.ntmps20 Try.results20 ⟨by decide, by simp⟩ fun C hC => ?_
  (repeat' ((first | refine sp_ ?_ | exact ex0 | (refine ret_s [] ?_; simp (decide := true) (disch := omega) only [go_sem, ↓reduceIte, ↓put_at]))))
set_option maxRecDepth 100000 in
set_option maxHeartbeats 8000000 in
theorem bv_bytes (b : Bu) : Spec Try.prog 21 [.ca (.val (buV b))] [] (.ca (.val (vi (bts b.l)))) [] := by
  refine spec_of Try.func21 rfl Try.ntmps21 Try.results21 ⟨by decide, by simp⟩ fun C hC => ?_
  (repeat' ((first | refine sp_ ?_ | exact ex0 | (refine ret_s [] ?_; simp (decide := true) (disch := omega) only [go_sem, ↓reduceIte, ↓put_at]))))
set_option maxRecDepth 100000 in
set_option maxHeartbeats 8000000 in
theorem bv_counts (b : Bu) : Spec Try.prog 37 [.ca (.val (buV b))] [] (.ca (.val (.tup [vi b.pl, vi b.dr, vi b.ev]))) [] := by
  refine spec_of Try.func37 rfl Try.ntmps37 Try.results37 ⟨by decide, by simp⟩ fun C hC => ?_
  (repeat' ((first | refine sp_ ?_ | exact ex0 | (refine ret_s [] ?_; simp (decide := true) (disch := omega) only [go_sem, ↓reduceIte, ↓put_at]))))
set_option maxRecDepth 100000 in
set_option maxHeartbeats 8000000 in
theorem bv_times (b : Bu) (hf : ∀ f ∈ b.l, f.Ok) (hl : b.l.length ≤ 2000) : Spec Try.prog 13 [.ca (.val (buV b))] [] (.ca (.hd (.rw 32 1 (b.l.map fun f => [vu f.tm])))) [] := by
  obtain ⟨cf, cp, cb, l, hz, pl, dr, ev⟩ := b
  dsimp only at hf hl ⊢
  refine spec_of Try.func13 rfl Try.ntmps13 Try.results13 ⟨by decide, by simp⟩ fun C hC => ?_
  (repeat' ((fail_if_success (refine stop_reg 3 ?_)); (first | refine sp_ ?_ | exact ex0 | (refine ret_s [] ?_; simp (decide := true) (disch := omega) only [go_sem, ↓reduceIte, ↓put_at]))))
  refine tre_s 3 (3, 1) 32 1 (by decide) ?_
  simp (decide := true) (disch := omega) only [go_sem, ↓reduceIte, ↓put_at]
  refine loop_s (α := {i : Nat // i ≤ l.length}) (fun i => [(.r (3, 1), .tree (.rw 32 1 ((l.take i.1).map fun f => [vu f.tm]))), (.s 3, .av (.ref (3, 1) 0)), (.s 9, .av (.val (.lst 1 (l.map fun f => [frV f])))), (.s 10, .av (.val (vi l.length))), (.s 11, .av (.val (vi i.1)))]) (fun i => l.length - i.1) ⟨0, Nat.zero_le _⟩ ?_ (fun i => ?_)
  · rw [List.take_zero]
    simp (decide := true) (disch := omega) only [go_sem, ↓reduceIte, ↓put_at]
  obtain ⟨i, hi⟩ := i
  dsimp only at hi ⊢
  by_cases hlt : i < l.length
  · have hof := hf _ (List.getElem_mem hlt)
    have hft := hof.tm
    have htk : l.take (i + 1) = l.take i ++ [l[i]] := List.take_succ_eq_append_getElem hlt
    have htl : (l.take i).length = i := by rw [List.length_take]; omega
    have ct := spl_time_v l[i]
    have hltz : (i : Int) < l.length := by omega
    (repeat' ((first | refine sp_ ?_ | exact ex0 | refine call_u Try.call28 (ct) [] ex1 ?_ | (refine ret_s [] ?_; simp (decide := true) (disch := omega) only [go_sem, ↓reduceIte, ↓put_at]))))
    refine next_s (α := {i : Nat // i ≤ l.length}) ⟨i + 1, hlt⟩ ⟨?_, by (try dsimp only); omega⟩
    (try dsimp only)
    rw [htk]
    simp (decide := true) (disch := omega) only [go_sem, ↓reduceIte, ↓put_at]
    rw [List.map_append]
    first | rfl | exact ⟨rfl, rfl⟩ | (refine ⟨?_, rfl⟩; omega)
  · obtain rfl : i = l.length := by omega
    rw [List.take_length]
    (repeat' ((first | refine sp_ ?_ | exact ex0 | (refine ret_s [] ?_; simp (decide := true) (disch := omega) only [go_sem, ↓reduceIte, ↓put_at]))))
theorem docB_fr {b : Bu} (h : ∀ f ∈ b.l, f.Ok) : ∀ f ∈ (docB b).l, f.Ok := fun f hf => by
  obtain ⟨g, hg, rfl⟩ := List.mem_map.1 hf
  exact docF_ok (h g hg)
set_option maxRecDepth 100000 in
set_option maxHeartbeats 4000000 in
theorem is24 {b : Bu} {K : Int} (h : b.Ok K) : Spec Try.prog 19 [.ptr 0 0, .ca (.val (rbV (docB b)))] [buO b] (.ca (.val (vb true))) [buO b] := by
  have hlen := h.len
  have cs := dob_sizes (docB b) (docB_fr h.fr) (by show (b.l.map docF).length ≤ _; rw [List.length_map]; omega)
  have hsz : sizeR (docB b).l = ((pkts b.l : Int), (bts b.l : Int)) := size_doc h.fr
  rw [hsz] at cs
  have c1 := bv_len b
  have c2 := bv_hor b
  have c3 := bv_pack b
  have c4 := bv_bytes b
  have c5 := bv_counts b
  have c6 := bv_times b h.fr (by omega)
  have c7 : Spec Try.prog 34 [.ca (.val (.lst 1 (b.l.map fun f : Fr => [vu f.tm]))), .ca (.val (.lst 1 (b.l.map fun f : Fr => [vi (f.tm : Int)])))] [] (.ca (.val (vb true))) [] := by
    have := times_yes0 (b.l.map (·.tm)) (by rw [List.length_map]; omega) (fun n hn => by
      obtain ⟨f, hf, rfl⟩ := List.mem_map.1 hn
      exact (h.fr f hf).tm)
    rw [List.map_map, List.map_map] at this
    exact this
  have c8 : flatR (b.l.map fun f => [vu f.tm]) := fun r h y hy => by obtain ⟨e, _, rfl⟩ := List.mem_map.1 h; simp at hy; subst hy; trivial
  obtain ⟨cf, cp, cb, l, hz, pl, dr, ev⟩ := b
  dsimp only at hlen
  unfold docB at cs ⊢
  dsimp only at cs ⊢
  clear hsz
  obtain ⟨D, hD⟩ : ∃ D, D = l.map docF := ⟨_, rfl⟩
  have hDl : D.length = l.length := by rw [hD, List.length_map]
  have hDt : D.map (fun f : RF => [vi f.tm]) = l.map (fun f : Fr => [vi (f.tm : Int)]) := by rw [hD, List.map_map]; rfl
  rw [← hD] at cs ⊢
  clear hD
  refine spec_of Try.func19 rfl Try.ntmps19 Try.results19 ⟨by decide, by simp⟩ fun C hC => ?_
  (repeat' ((fail_if_success (refine stop_reg 3 ?_)); (first | refine sp_ ?_ | exact ex0 | (refine ret_s [] ?_; simp (decide := true) (disch := omega) only [go_sem, ↓reduceIte, ↓put_at]))))
  refine own_s 5 (5, 1) 3 1 ?_
  simp (decide := true) (disch := omega) only [go_sem, ↓reduceIte, ↓put_at]
  refine loop_s (α := {i : Nat // i ≤ D.length}) (fun i => [(.o (1000, 0), .num 11), (.c (1000, 0) 0, .av (.val (vi cf))), (.c (1000, 0) 1, .av (.val (vi cp))), (.c (1000, 0) 2, .av (.val (vi cb))), (.c (1000, 0) 3, .av (.val (vi l.length))), (.c (1000, 0) 4, .av (.val (vi (pkts l)))), (.c (1000, 0) 5, .av (.val (vi (bts l)))), (.c (1000, 0) 6, .av (.ref (1000, 7) 0)), (.c (1000, 0) 7, .av (.val (vi hz))), (.c (1000, 0) 8, .av (.val (vi pl))), (.c (1000, 0) 9, .av (.val (vi dr))), (.c (1000, 0) 10, .av (.val (vi ev))), (.r (1000, 7), .tree (.row 66 1 (l.map fun f => [T.box (frT f)]))), (.s 0, .av (.ptr (1000, 0) 0 0)), (.o (3, 0), .num 8), (.c (3, 0) 0, .av (.val (vi cf))), (.c (3, 0) 1, .av (.val (vi cp))), (.c (3, 0) 2, .av (.val (vi cb))), (.c (3, 0) 3, .av (.val (.lst 4 (D.map rfEl)))), (.c (3, 0) 4, .av (.val (vi hz))), (.c (3, 0) 5, .av (.val (vi pl))), (.c (3, 0) 6, .av (.val (vi dr))), (.c (3, 0) 7, .av (.val (vi ev))), (.s 3, .av (.ptr (3, 0) 0 0)), (.k (5, 1), .row 3 1 (D.take i.1).length), (.s 5, .av (.own (5, 1) 0 3 1 ((D.take i.1).map fun f => [vi f.tm]))), (.s 14, .av (.val (.lst 4 (D.map rfEl)))), (.s 15, .av (.val (vi D.length))), (.s 16, .av (.val (vi i.1)))]) (fun i => D.length - i.1) ⟨0, Nat.zero_le _⟩ ?_ (fun i => ?_)
  · rw [List.take_zero]
    simp (decide := true) (disch := omega) only [go_sem, ↓reduceIte, ↓put_at]
  obtain ⟨i, hi⟩ := i
  dsimp only at hi ⊢
  by_cases hlt : i < D.length
  · have htk : D.take (i + 1) = D.take i ++ [D[i]] := List.take_succ_eq_append_getElem hlt
    have htl : (D.take i).length = i := by rw [List.length_take]; omega
    have hltz : (i : Int) < D.length := by omega
    (repeat' ((first | refine sp_ ?_ | exact ex0 | (refine ret_s [] ?_; simp (decide := true) (disch := omega) only [go_sem, ↓reduceIte, ↓put_at]))))
    refine next_s (α := {i : Nat // i ≤ D.length}) ⟨i + 1, hlt⟩ ⟨?_, by (try dsimp only); omega⟩
    (try dsimp only)
    rw [htk]
    simp (decide := true) (disch := omega) only [go_sem, ↓reduceIte, ↓put_at]
    rw [List.map_append]
    first | rfl | exact ⟨rfl, rfl⟩ | (refine ⟨?_, rfl⟩; omega)
  · obtain rfl : i = D.length := by omega
    rw [List.take_length, hDt]
    (repeat' ((first | refine sp_ ?_ | exact ex0 | refine call_u Try.call36 (cs) [] ex1 ?_ | refine pcall_u Try.call37 (c5) ex1 ?_ | refine pcallT_u Try.call13 (c6) (c8) ex1 ?_ | refine pcall_u Try.call34 (c7) ex1 ?_ | refine pcall_u Try.call11 (c1) ex1 ?_ | refine pcall_u Try.call20 (c3) ex1 ?_ | refine pcall_u Try.call21 (c4) ex1 ?_ | refine pcall_u Try.call14 (c2) ex1 ?_ | (refine ret_s [] ?_; simp (decide := true) (disch := omega) only [go_sem, ↓reduceIte, ↓put_at]))))
end Go.Proofs.Ytekpaepkoeelfaa
