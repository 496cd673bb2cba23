
/- The statement BufferClones of layer 24, walked. -/
import Derived.Test.YtekpaepkoeelfaaCln1
import Derived.Test.YtekpaepkoeelfaaSeeU
namespace Go.Proofs.Ytekpaepkoeelfaa
open Go.RowKit
set_option linter.unusedVariables false
set_option linter.unusedSimpArgs false

/-- The places of the document's buffer. -/
def docI (o : Nat) (D : RB) : List (Pl × X) := [(.o (o, 0), .num 8), (.c (o, 0) 0, .av (.val (vi D.cf))), (.c (o, 0) 1, .av (.val (vi D.cp))), (.c (o, 0) 2, .av (.val (vi D.cb))), (.c (o, 0) 3, .av (.val (.lst 4 (D.l.map rfEl)))), (.c (o, 0) 4, .av (.val (vi D.hz))), (.c (o, 0) 5, .av (.val (vi D.pl))), (.c (o, 0) 6, .av (.val (vi D.dr))), (.c (o, 0) 7, .av (.val (vi D.ev)))]
attribute [go_sem] docI
set_option maxRecDepth 100000 in
set_option maxHeartbeats 8000000 in
theorem clones24 (l m : List A24) (hl : l.length ≤ maxLen) (hq : ∀ a ∈ l, a.Ok) (hlm : m.length ≤ maxLen) (hqm : ∀ a ∈ m, a.Ok) : Spec Try.prog 6 [.ca (.val (.lst 8 (l.map a24El))), .ca (.val (.lst 8 (m.map a24El)))] [] (.ca (.val (vb true))) [] := by
  unfold maxLen at hl hlm
  have c0 := awake24
  have c1 := buf_new 4 8 40
  have c2 := dob_new 4 8 40
  rw [new_docB] at c2
  have hok := newB24_ok 4 8 40
  generalize newB24 4 8 40 = b0 at *
  generalize hD0 : docB b0 = D0 at *
  refine spec_of Try.func6 rfl Try.ntmps6 Try.results6 ⟨by decide, by simp⟩ fun C hC => ?_
  (repeat' ((fail_if_success (refine stop_reg 9 ?_)); (first | refine sp_ ?_ | exact ex0 | refine call_u Try.call7 (c0) [] ex1 ?_ | refine call_u Try.call8 (c1) [] ex1 ?_ | refine call_u Try.call15 (c2) [] ex1 ?_ | refine pnil_u (by first | exact .inl rfl | exact .inr rfl) (by simp (decide := true) (disch := omega) only [go_sem, ↓reduceIte, ↓put_at]; first | done | assumption | omega) ?_ | (refine ret_s [] ?_; simp (decide := true) (disch := omega) only [go_sem, ↓reduceIte, ↓put_at]))))
  rw [← hD0]
  refine meetB_s (α := {x : Bu × Int // x.1.Ok 20500 ∧ 0 ≤ x.2 ∧ x.2 ≤ 300}) (fun x => bufI 18 x.1.1 ++ docI 7 (docB x.1.1) ++ [(.s 6, .av (.ptr (18, 0) 0 0)), (.s 7, .av (.ptr (7, 0) 0 0)), (.s 1, .av (.val (.lst 8 (m.map a24El)))), (.s 8, .av (.val (vi x.1.2)))]) ?_ (fun x => ?_)
  · refine loop_s (α := {x : Nat × Bu × Int // x.1 ≤ l.length ∧ x.1 ≤ 20 ∧ x.2.1.Ok (1025 * x.1) ∧ 0 ≤ x.2.2 ∧ x.2.2 ≤ 15 * x.1}) (fun x => bufI 18 x.1.2.1 ++ docI 7 (docB x.1.2.1) ++ [(.s 6, .av (.ptr (18, 0) 0 0)), (.s 7, .av (.ptr (7, 0) 0 0)), (.s 0, .av (.val (.lst 8 (l.map a24El)))), (.s 1, .av (.val (.lst 8 (m.map a24El)))), (.s 8, .av (.val (vi x.1.2.2))), (.s 10, .av (.val (vi x.1.1)))]) (fun x => l.length - x.1.1) ⟨(0, b0, 0), Nat.zero_le _, by omega, by simpa using hok, Int.le_refl _, by simp⟩ ?_ (fun x => ?_)
    · simp (decide := true) (disch := omega) only [go_sem, ↓reduceIte, ↓put_at]
    obtain ⟨⟨i, b, now⟩, h1, h2, h3, h4, h5⟩ := x
    dsimp only at h1 h2 h3 h4 h5 ⊢
    by_cases hlt : i < l.length ∧ i < 20
    · obtain ⟨hlt, hlt2⟩ := hlt
      have hltz : (i : Int) < l.length := by omega
      have ha := hq _ (List.getElem_mem hlt)
      have hm0 : 0 ≤ l[i].la % 16 := by omega
      have hm1 : l[i].la % 16 ≤ 15 := by omega
      have hla0 := ha.l0
      have hla1 := ha.l1
      have cd := do24 h3 (by omega) ha (now + l[i].la % 16) (by omega) (by omega)
      have hok' := doB_ok h3 ha (now := now + l[i].la % 16) (by omega) (by omega)
      obtain ⟨B, hB⟩ : ∃ B, B = doB b l[i] (now + l[i].la % 16) := ⟨_, rfl⟩
      rw [← hB] at cd hok'
      clear hB
      generalize hD : docB b = D at *
      generalize hD2 : docB B = D2 at *
      (repeat' ((first | refine sp_ ?_ | exact ex0 | refine call_u Try.call18 (cd) [(18, 0)] ex1 ?_ | (refine ret_s [] ?_; simp (decide := true) (disch := omega) only [go_sem, ↓reduceIte, ↓put_at]))))
      refine next_s (α := {x : Nat × Bu × Int // x.1 ≤ l.length ∧ x.1 ≤ 20 ∧ x.2.1.Ok (1025 * x.1) ∧ 0 ≤ x.2.2 ∧ x.2.2 ≤ 15 * x.1}) ⟨(i + 1, B, now + l[i].la % 16), hlt, hlt2, by (try dsimp only); rw [show (1025 : Int) * ((i + 1 : Nat) : Int) = 1025 * i + 1025 by omega]; exact hok', by (try dsimp only); omega, by (try dsimp only); omega⟩ ⟨?_, by (try dsimp only); omega⟩
      (try dsimp only)
      rw [hD2]
      simp (decide := true) (disch := omega) only [go_sem, ↓reduceIte, ↓put_at]
    · have hwk : b.Ok 20500 := ⟨h3.toCfg, h3.fr, h3.so, h3.hl, h3.h0, h3.h1, h3.c0, by have := h3.c1; omega, h3.d0, by have := h3.d1; omega, h3.e0, by have := h3.e1; omega, h3.no⟩
      rcases Nat.lt_or_ge i 20 with h | h
      · have hge : (l.length : Int) ≤ i := by omega
        (repeat' ((first | refine sp_ ?_ | exact ex0 | (refine ret_s [] ?_; simp (decide := true) (disch := omega) only [go_sem, ↓reduceIte, ↓put_at]))))
        refine at_meet ⟨(b, now), hwk, h4, by dsimp only; omega⟩ ?_
        simp (decide := true) (disch := omega) only [go_sem, ↓reduceIte, ↓put_at]
      · have hge : (20 : Int) ≤ i := by omega
        by_cases hi : (i : Int) < l.length
        · (repeat' ((first | refine sp_ ?_ | exact ex0 | (refine ret_s [] ?_; simp (decide := true) (disch := omega) only [go_sem, ↓reduceIte, ↓put_at]))))
          refine at_meet ⟨(b, now), hwk, h4, by dsimp only; omega⟩ ?_
          simp (decide := true) (disch := omega) only [go_sem, ↓reduceIte, ↓put_at]
        · (repeat' ((first | refine sp_ ?_ | exact ex0 | (refine ret_s [] ?_; simp (decide := true) (disch := omega) only [go_sem, ↓reduceIte, ↓put_at]))))
          refine at_meet ⟨(b, now), hwk, h4, by dsimp only; omega⟩ ?_
          simp (decide := true) (disch := omega) only [go_sem, ↓reduceIte, ↓put_at]
  obtain ⟨⟨b, now0⟩, h3, h4, h5⟩ := x
  dsimp only at h3 h4 h5 ⊢
  have hlen := h3.len
  have cc := buf_clone b (by omega)
  have i1 := is24 h3
  generalize hD : docB b = D at *
  (repeat' ((fail_if_success (refine stop_reg 19 ?_)); (first | refine sp_ ?_ | exact ex0 | refine call_u Try.call22 (cc) [(18, 0)] ex1 ?_ | refine pnil_u (by first | exact .inl rfl | exact .inr rfl) (by simp (decide := true) (disch := omega) only [go_sem, ↓reduceIte, ↓put_at]; first | done | assumption | omega) ?_ | (refine ret_s [] ?_; simp (decide := true) (disch := omega) only [go_sem, ↓reduceIte, ↓put_at]))))
  refine loop_s (α := {x : Nat × Bu × Int // x.1 ≤ m.length ∧ x.1 ≤ 20 ∧ x.2.1.Ok (20500 + 1025 * x.1) ∧ 0 ≤ x.2.2 ∧ x.2.2 ≤ 300 + 15 * x.1}) (fun x => bufI 18 b ++ docI 7 D ++ bufI 55 x.1.2.1 ++ docI 12 (docB x.1.2.1) ++ [(.s 6, .av (.ptr (18, 0) 0 0)), (.s 7, .av (.ptr (7, 0) 0 0)), (.s 11, .av (.ptr (55, 0) 0 0)), (.s 12, .av (.ptr (12, 0) 0 0)), (.s 1, .av (.val (.lst 8 (m.map a24El)))), (.s 8, .av (.val (vi x.1.2.2))), (.s 13, .av (.val (vi x.1.1)))]) (fun x => m.length - x.1.1) ⟨(0, b, now0), Nat.zero_le _, by omega, by simpa using h3, h4, by dsimp only; omega⟩ ?_ (fun x => ?_)
  · dsimp only
    rw [hD]
    simp (decide := true) (disch := omega) only [go_sem, ↓reduceIte, ↓put_at]
  obtain ⟨⟨i, d, now⟩, k1, k2, k3, k4, k5⟩ := x
  dsimp only at k1 k2 k3 k4 k5 ⊢
  by_cases hlt : i < m.length ∧ i < 20
  · obtain ⟨hlt, hlt2⟩ := hlt
    have hltz : (i : Int) < m.length := by omega
    have ha := hqm _ (List.getElem_mem hlt)
    have hm0 : 0 ≤ m[i].la % 16 := by omega
    have hm1 : m[i].la % 16 ≤ 15 := by omega
    have hla0 := ha.l0
    have hla1 := ha.l1
    have cd := do24 k3 (by omega) ha (now + m[i].la % 16) (by omega) (by omega)
    have hok' := doB_ok k3 ha (now := now + m[i].la % 16) (by omega) (by omega)
    obtain ⟨B, hB⟩ : ∃ B, B = doB d m[i] (now + m[i].la % 16) := ⟨_, rfl⟩
    rw [← hB] at cd hok'
    clear hB cc i1 c2
    generalize docB d = D1 at *
    generalize hD2 : docB B = D2 at *
    (repeat' ((first | refine sp_ ?_ | exact ex0 | refine call_u Try.call18 (cd) [(55, 0)] ex1 ?_ | (refine ret_s [] ?_; simp (decide := true) (disch := omega) only [go_sem, ↓reduceIte, ↓put_at]))))
    refine next_s (α := {x : Nat × Bu × Int // x.1 ≤ m.length ∧ x.1 ≤ 20 ∧ x.2.1.Ok (20500 + 1025 * x.1) ∧ 0 ≤ x.2.2 ∧ x.2.2 ≤ 300 + 15 * x.1}) ⟨(i + 1, B, now + m[i].la % 16), hlt, hlt2, by (try dsimp only); rw [show 20500 + (1025 : Int) * ((i + 1 : Nat) : Int) = 20500 + 1025 * i + 1025 by omega]; exact hok', by (try dsimp only); omega, by (try dsimp only); omega⟩ ⟨?_, by (try dsimp only); omega⟩
    (try dsimp only)
    rw [hD2]
    simp (decide := true) (disch := omega) only [go_sem, ↓reduceIte, ↓put_at]
  · have i2 := is24 k3
    clear c2
    generalize docB d = D1 at *
    rcases Nat.lt_or_ge i 20 with h | h
    · have hge : (m.length : Int) ≤ i := by omega
      (repeat' ((first | refine sp_ ?_ | exact ex0 | refine call_u Try.call19 (i1) [(18, 0)] ex1 ?_ | refine call_u Try.call19 (i2) [(55, 0)] ex1 ?_ | (refine ret_s [] ?_; simp (decide := true) (disch := omega) only [go_sem, ↓reduceIte, ↓put_at]))))
    · have hge : (20 : Int) ≤ i := by omega
      by_cases hi : (i : Int) < m.length
      · (repeat' ((first | refine sp_ ?_ | exact ex0 | refine call_u Try.call19 (i1) [(18, 0)] ex1 ?_ | refine call_u Try.call19 (i2) [(55, 0)] ex1 ?_ | (refine ret_s [] ?_; simp (decide := true) (disch := omega) only [go_sem, ↓reduceIte, ↓put_at]))))
      · (repeat' ((first | refine sp_ ?_ | exact ex0 | refine call_u Try.call19 (i1) [(18, 0)] ex1 ?_ | refine call_u Try.call19 (i2) [(55, 0)] ex1 ?_ | (refine ret_s [] ?_; simp (decide := true) (disch := omega) only [go_sem, ↓reduceIte, ↓put_at]))))
end Go.Proofs.Ytekpaepkoeelfaa
