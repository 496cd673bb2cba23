
/- Layer 4: the references May and Pack, Told, Same, Cut. Layer 4: the reference Parse. Layer 4: Told, Same, Cut. -/
import Derived.Test.YtojcjbaimdjhoaaDoorRtp4
namespace Go.Proofs.YtojcjbaimdjhoaaDoor
open Go.RowKit
set_option linter.unusedVariables false
set_option linter.unusedSimpArgs false

abbrev r4L (p : P4) : List V := [vb p.marker, vi p.kind, vi p.seq, vi p.time, vi p.src, .lst 1 (p.others.map intEl), vb p.hasExt, vi p.profile, vs p.ext, vs p.data, vi p.pad]
theorem zer_succ (k : Nat) : zer (k + 1) = zer k ++ [0] := List.replicate_succ'
end Go.Proofs.YtojcjbaimdjhoaaDoor
namespace Go.Proofs.YtojcjbaimdjhoaaDoor
open Go.RowKit
set_option linter.unusedVariables false
set_option linter.unusedSimpArgs false

theorem zer_iff (d : List UInt8) (a m : Nat) (h : a + m ≤ d.length) : (d.drop a).take m = List.replicate m 0 ↔ ∀ k, a ≤ k → k < a + m → (d.getD k 0).toNat = 0 := by
  have hl : ((d.drop a).take m).length = m := by rw [List.length_take, List.length_drop]; omega
  constructor
  · intro he k h1 h2
    have : ((d.drop a).take m)[k - a]? = some 0 := by rw [he, List.getElem?_replicate, if_pos (by omega)]
    rw [List.getElem?_take_of_lt (by omega), List.getElem?_drop, show a + (k - a) = k by omega] at this
    rw [List.getD_eq_getElem?_getD, this]
    rfl
  · intro he
    refine List.eq_replicate_iff.2 ⟨hl, fun x hx => ?_⟩
    obtain ⟨i, hi, rfl⟩ := List.mem_iff_getElem.1 hx
    rw [hl] at hi
    have := he (a + i) (by omega) (by omega)
    rw [List.getD_eq_getElem?_getD, List.getElem?_eq_getElem (by omega)] at this
    rw [List.getElem_take, List.getElem_drop]
    exact UInt8.toNat_inj.1 (by simpa using this)
theorem sl_eq (s : List UInt8) (a b : Int) (m k : Nat) (h1 : a = m) (h2 : b = (m + k : Nat)) : (s.drop a.toNat).take (b.toNat - a.toNat) = (s.drop m).take k := by
  rw [show a.toNat = m by omega, show b.toNat - m = k by omega]
end Go.Proofs.YtojcjbaimdjhoaaDoor
namespace Go.Proofs.YtojcjbaimdjhoaaDoor
open Go.RowKit
set_option linter.unusedVariables false
set_option linter.unusedSimpArgs false

set_option maxRecDepth 100000 in
set_option maxHeartbeats 4000000 in
theorem law_told4 (p : P4) (ho : p.Ok) (hl : p.others.length ≤ 1099511627776) : Spec Tryd.prog 20 [.ca (.val (.agg (p4L p)))] [] (.ca (.val (.agg (r4L p)))) [] := by
  obtain ⟨mk, kd, sq, tm, sr, os, hx, pf, ex, da, pd⟩ := p
  obtain ⟨o1, o2, o3, o4⟩ := ho
  dsimp only at *
  refine spec_of Tryd.func20 rfl Tryd.ntmps20 Tryd.results20 ⟨by decide, by simp⟩ fun C hC => ?_
  (repeat (first | refine aw_seq ?_ | refine aw_block ?_ | refine aw_reg hC (by kernel_rfl) ?_ | refine aw_regd hC Tryd.checked.mixed (by kernel_rfl) ?_ | refine chk_and (by kernel_rfl) ?_ | refine aw_skip ?_ | refine aw_if ?_ | refine And.intro (by first | omega | with_reducible assumption) ?_ | refine aw_exit ?_ | refine aw_ret ?_ | (simp (decide := true) (disch := omega) only [go_sem, ↓reduceIte, ↓put_at])))
  refine own_c (3, 0) 5 (3, 6) 3 1 ?_
  simp (decide := true) (disch := omega) only [go_sem, ↓reduceIte, ↓put_at]
  refine loop_s (α := {j : Nat // j ≤ os.length}) (fun j => [(.s 2, .av (.ptr (2, 0) 0 0)), (.o (2, 0), .num 11), (.s 3, .av (.ptr (3, 0) 0 0)), (.o (3, 0), .num 11), (.c (3, 0) 0, .av (.val (vb mk))), (.c (3, 0) 1, .av (.val (vi kd))), (.c (3, 0) 2, .av (.val (vi sq))), (.c (3, 0) 3, .av (.val (vi tm))), (.c (3, 0) 4, .av (.val (vi sr))), (.c (3, 0) 5, .av (.own (3, 6) 0 3 1 ((os.take j.1).map intEl))), (.k (3, 6), .row 3 1 ((os.take j.1).map intEl).length), (.c (3, 0) 6, .av (.val (vb hx))), (.c (3, 0) 7, .av (.val (vi pf))), (.c (3, 0) 8, .av (.val (vs ex))), (.c (3, 0) 9, .av (.val (vs da))), (.c (3, 0) 10, .av (.val (vi pd))), (.s 40, .av (.val (.lst 1 (os.map u32El)))), (.s 41, .av (.val (vi os.length))), (.s 42, .av (.val (vi j.1)))]) (fun j => os.length - j.1) ⟨0, Nat.zero_le _⟩ ?_ (fun j => ?_)
  · simp only [List.take_zero]
    simp (decide := true) (disch := omega) only [go_sem, ↓reduceIte, ↓put_at]
  · obtain ⟨j, hj⟩ := j
    dsimp only at hj ⊢
    by_cases hlt : j < os.length
    · have hs : os.take (j + 1) = os.take j ++ [os[j]] := List.take_succ_eq_append_getElem hlt
      have o5 := o4 _ (List.getElem_mem hlt)
      have htl : (os.take j).length = j := by rw [List.length_take]; omega
      (repeat (first | refine aw_seq ?_ | refine aw_block ?_ | refine aw_reg hC (by kernel_rfl) ?_ | refine aw_regd hC Tryd.checked.mixed (by kernel_rfl) ?_ | refine chk_and (by kernel_rfl) ?_ | refine aw_skip ?_ | refine aw_if ?_ | refine And.intro (by first | omega | with_reducible assumption) ?_ | refine aw_exit ?_ | refine aw_ret ?_ | (simp (decide := true) (disch := omega) only [go_sem, ↓reduceIte, ↓put_at])))
      refine next_s (α := {j : Nat // j ≤ os.length}) ⟨j + 1, hlt⟩ ⟨?_, by dsimp only; omega⟩
      rw [hs, List.map_append]
      simp (decide := true) (disch := omega) only [go_sem, ↓reduceIte, ↓put_at]
    · have hjo : os.take j = os := List.take_of_length_le (by omega)
      (repeat (first | refine aw_seq ?_ | refine aw_block ?_ | refine aw_reg hC (by kernel_rfl) ?_ | refine aw_regd hC Tryd.checked.mixed (by kernel_rfl) ?_ | refine chk_and (by kernel_rfl) ?_ | refine aw_skip ?_ | refine aw_if ?_ | refine And.intro (by first | omega | with_reducible assumption) ?_ | refine aw_exit ?_ | refine aw_ret ?_ | (simp (decide := true) (disch := omega) only [go_sem, ↓reduceIte, ↓put_at])))
      (refine ret_s [] ?_; simp (decide := true) (disch := omega) only [go_sem, ↓reduceIte, ↓put_at])
      try rw [hjo]
set_option maxRecDepth 100000 in
set_option maxHeartbeats 8000000 in
theorem law_same4 (a b : P4) (h1 : a.others.length ≤ 1099511627776) (h2 : b.others.length ≤ 1099511627776) : Spec Tryd.prog 19 [.ca (.val (.agg (r4L a))), .ca (.val (.agg (r4L b)))] [] (.ca (.val (vb (decide (a = b))))) [] := by
  obtain ⟨M, hM⟩ : ∃ M, M = decide (a = b) := ⟨_, rfl⟩
  rw [← hM]
  obtain ⟨mk, kd, sq, tm, sr, os, hx, pf, ex, da, pd⟩ := a
  obtain ⟨mk2, kd2, sq2, tm2, sr2, os2, hx2, pf2, ex2, da2, pd2⟩ := b
  simp only [P4.mk.injEq] at hM
  dsimp only at *
  refine spec_of Tryd.func19 rfl Tryd.ntmps19 Tryd.results19 ⟨by decide, by simp⟩ fun C hC => ?_
  by_cases g1 : os.length = os2.length
  · by_cases g2 : mk = mk2
    · by_cases g3 : kd = kd2
      · by_cases g4 : sq = sq2
        · by_cases g5 : tm = tm2
          · by_cases g6 : sr = sr2
            · subst g2 g3 g4 g5 g6
              (repeat (first | refine aw_seq ?_ | refine aw_block ?_ | refine aw_reg hC (by kernel_rfl) ?_ | refine aw_regd hC Tryd.checked.mixed (by kernel_rfl) ?_ | refine chk_and (by kernel_rfl) ?_ | refine aw_skip ?_ | refine aw_if ?_ | refine And.intro (by first | omega | with_reducible assumption) ?_ | refine aw_exit ?_ | refine aw_ret ?_ | (simp (decide := true) (disch := omega) only [go_sem, ↓reduceIte, ↓put_at])))
              refine loop_s (α := {j : Nat // j ≤ os.length ∧ os.take j = os2.take j}) (fun j => [(.s 2, .av (.ptr (2, 0) 0 0)), (.o (2, 0), .num 11), (.c (2, 0) 5, .av (.val (.lst 1 (os.map intEl)))), (.c (2, 0) 6, .av (.val (vb hx))), (.c (2, 0) 7, .av (.val (vi pf))), (.c (2, 0) 8, .av (.val (vs ex))), (.c (2, 0) 9, .av (.val (vs da))), (.c (2, 0) 10, .av (.val (vi pd))), (.s 3, .av (.ptr (3, 0) 0 0)), (.o (3, 0), .num 11), (.c (3, 0) 5, .av (.val (.lst 1 (os2.map intEl)))), (.c (3, 0) 6, .av (.val (vb hx2))), (.c (3, 0) 7, .av (.val (vi pf2))), (.c (3, 0) 8, .av (.val (vs ex2))), (.c (3, 0) 9, .av (.val (vs da2))), (.c (3, 0) 10, .av (.val (vi pd2))), (.s 50, .av (.val (vi os.length))), (.s 51, .av (.val (vi j.1)))]) (fun j => os.length - j.1) ⟨0, Nat.zero_le _, rfl⟩ ?_ (fun j => ?_)
              · simp (decide := true) (disch := omega) only [go_sem, ↓reduceIte, ↓put_at]
              · obtain ⟨j, hj, ht⟩ := j
                dsimp only at hj ⊢
                by_cases hlt : j < os.length
                · have hlt' : j < os2.length := by omega
                  by_cases he : os[j] = os2[j]
                  · (repeat (first | refine aw_seq ?_ | refine aw_block ?_ | refine aw_reg hC (by kernel_rfl) ?_ | refine aw_regd hC Tryd.checked.mixed (by kernel_rfl) ?_ | refine chk_and (by kernel_rfl) ?_ | refine aw_skip ?_ | refine aw_if ?_ | refine And.intro (by first | omega | with_reducible assumption) ?_ | refine aw_exit ?_ | refine aw_ret ?_ | (simp (decide := true) (disch := omega) only [go_sem, ↓reduceIte, ↓put_at])))
                    refine next_s ⟨j + 1, hlt, by rw [List.take_succ_eq_append_getElem hlt, List.take_succ_eq_append_getElem hlt', ht, he]⟩ ⟨?_, by dsimp only; omega⟩
                    simp (decide := true) (disch := omega) only [go_sem, ↓reduceIte, ↓put_at]
                  · have hMf : M = false := by
                      rw [hM]
                      exact decide_eq_false fun e => by
                        have := e.2.2.2.2.2.1
                        subst this
                        exact he rfl
                    subst hMf
                    (repeat (first | refine aw_seq ?_ | refine aw_block ?_ | refine aw_reg hC (by kernel_rfl) ?_ | refine aw_regd hC Tryd.checked.mixed (by kernel_rfl) ?_ | refine chk_and (by kernel_rfl) ?_ | refine aw_skip ?_ | refine aw_if ?_ | refine And.intro (by first | omega | with_reducible assumption) ?_ | refine aw_exit ?_ | refine aw_ret ?_ | (simp (decide := true) (disch := omega) only [go_sem, ↓reduceIte, ↓put_at])))
                    (refine ret_s [] ?_; simp (decide := true) (disch := omega) only [go_sem, ↓reduceIte, ↓put_at])
                · have e : os = os2 := by
                    rw [List.take_of_length_le (by omega), List.take_of_length_le (by omega)] at ht
                    exact ht
                  by_cases k1 : hx = hx2
                  · by_cases k2 : pf = pf2
                    · by_cases k3 : ex = ex2
                      · have b1 : (ex == ex2) = true := by simpa using k3
                        by_cases k4 : da = da2
                        · have b2 : (da == da2) = true := by simpa using k4
                          by_cases k5 : pd = pd2
                          · have hMt : M = true := by rw [hM]; exact decide_eq_true ⟨rfl, rfl, rfl, rfl, rfl, e, k1, k2, k3, k4, k5⟩
                            subst hMt k1
                            (repeat (first | refine aw_seq ?_ | refine aw_block ?_ | refine aw_reg hC (by kernel_rfl) ?_ | refine aw_regd hC Tryd.checked.mixed (by kernel_rfl) ?_ | refine chk_and (by kernel_rfl) ?_ | refine aw_skip ?_ | refine aw_if ?_ | refine And.intro (by first | omega | with_reducible assumption) ?_ | refine aw_exit ?_ | refine aw_ret ?_ | (simp (decide := true) (disch := omega) only [go_sem, ↓reduceIte, ↓put_at])))
                            simp only [b1]
                            (repeat (first | refine aw_seq ?_ | refine aw_block ?_ | refine aw_reg hC (by kernel_rfl) ?_ | refine aw_regd hC Tryd.checked.mixed (by kernel_rfl) ?_ | refine chk_and (by kernel_rfl) ?_ | refine aw_skip ?_ | refine aw_if ?_ | refine And.intro (by first | omega | with_reducible assumption) ?_ | refine aw_exit ?_ | refine aw_ret ?_ | (simp (decide := true) (disch := omega) only [go_sem, ↓reduceIte, ↓put_at])))
                            simp only [b2]
                            (repeat (first | refine aw_seq ?_ | refine aw_block ?_ | refine aw_reg hC (by kernel_rfl) ?_ | refine aw_regd hC Tryd.checked.mixed (by kernel_rfl) ?_ | refine chk_and (by kernel_rfl) ?_ | refine aw_skip ?_ | refine aw_if ?_ | refine And.intro (by first | omega | with_reducible assumption) ?_ | refine aw_exit ?_ | refine aw_ret ?_ | (simp (decide := true) (disch := omega) only [go_sem, ↓reduceIte, ↓put_at])))
                            (refine ret_s [] ?_; simp (decide := true) (disch := omega) only [go_sem, ↓reduceIte, ↓put_at])
                          · have hMt : M = false := by rw [hM]; exact decide_eq_false fun e => k5 e.2.2.2.2.2.2.2.2.2.2
                            subst hMt k1
                            (repeat (first | refine aw_seq ?_ | refine aw_block ?_ | refine aw_reg hC (by kernel_rfl) ?_ | refine aw_regd hC Tryd.checked.mixed (by kernel_rfl) ?_ | refine chk_and (by kernel_rfl) ?_ | refine aw_skip ?_ | refine aw_if ?_ | refine And.intro (by first | omega | with_reducible assumption) ?_ | refine aw_exit ?_ | refine aw_ret ?_ | (simp (decide := true) (disch := omega) only [go_sem, ↓reduceIte, ↓put_at])))
                            simp only [b1]
                            (repeat (first | refine aw_seq ?_ | refine aw_block ?_ | refine aw_reg hC (by kernel_rfl) ?_ | refine aw_regd hC Tryd.checked.mixed (by kernel_rfl) ?_ | refine chk_and (by kernel_rfl) ?_ | refine aw_skip ?_ | refine aw_if ?_ | refine And.intro (by first | omega | with_reducible assumption) ?_ | refine aw_exit ?_ | refine aw_ret ?_ | (simp (decide := true) (disch := omega) only [go_sem, ↓reduceIte, ↓put_at])))
                            simp only [b2]
                            (repeat (first | refine aw_seq ?_ | refine aw_block ?_ | refine aw_reg hC (by kernel_rfl) ?_ | refine aw_regd hC Tryd.checked.mixed (by kernel_rfl) ?_ | refine chk_and (by kernel_rfl) ?_ | refine aw_skip ?_ | refine aw_if ?_ | refine And.intro (by first | omega | with_reducible assumption) ?_ | refine aw_exit ?_ | refine aw_ret ?_ | (simp (decide := true) (disch := omega) only [go_sem, ↓reduceIte, ↓put_at])))
                            (refine ret_s [] ?_; simp (decide := true) (disch := omega) only [go_sem, ↓reduceIte, ↓put_at])
                        · have b2 : (da == da2) = false := by simpa using k4
                          have hMt : M = false := by rw [hM]; exact decide_eq_false fun e => k4 e.2.2.2.2.2.2.2.2.2.1
                          subst hMt k1
                          (repeat (first | refine aw_seq ?_ | refine aw_block ?_ | refine aw_reg hC (by kernel_rfl) ?_ | refine aw_regd hC Tryd.checked.mixed (by kernel_rfl) ?_ | refine chk_and (by kernel_rfl) ?_ | refine aw_skip ?_ | refine aw_if ?_ | refine And.intro (by first | omega | with_reducible assumption) ?_ | refine aw_exit ?_ | refine aw_ret ?_ | (simp (decide := true) (disch := omega) only [go_sem, ↓reduceIte, ↓put_at])))
                          simp only [b1]
                          (repeat (first | refine aw_seq ?_ | refine aw_block ?_ | refine aw_reg hC (by kernel_rfl) ?_ | refine aw_regd hC Tryd.checked.mixed (by kernel_rfl) ?_ | refine chk_and (by kernel_rfl) ?_ | refine aw_skip ?_ | refine aw_if ?_ | refine And.intro (by first | omega | with_reducible assumption) ?_ | refine aw_exit ?_ | refine aw_ret ?_ | (simp (decide := true) (disch := omega) only [go_sem, ↓reduceIte, ↓put_at])))
                          simp only [b2]
                          (repeat (first | refine aw_seq ?_ | refine aw_block ?_ | refine aw_reg hC (by kernel_rfl) ?_ | refine aw_regd hC Tryd.checked.mixed (by kernel_rfl) ?_ | refine chk_and (by kernel_rfl) ?_ | refine aw_skip ?_ | refine aw_if ?_ | refine And.intro (by first | omega | with_reducible assumption) ?_ | refine aw_exit ?_ | refine aw_ret ?_ | (simp (decide := true) (disch := omega) only [go_sem, ↓reduceIte, ↓put_at])))
                          (refine ret_s [] ?_; simp (decide := true) (disch := omega) only [go_sem, ↓reduceIte, ↓put_at])
                      · have b1 : (ex == ex2) = false := by simpa using k3
                        have hMt : M = false := by rw [hM]; exact decide_eq_false fun e => k3 e.2.2.2.2.2.2.2.2.1
                        subst hMt k1
                        (repeat (first | refine aw_seq ?_ | refine aw_block ?_ | refine aw_reg hC (by kernel_rfl) ?_ | refine aw_regd hC Tryd.checked.mixed (by kernel_rfl) ?_ | refine chk_and (by kernel_rfl) ?_ | refine aw_skip ?_ | refine aw_if ?_ | refine And.intro (by first | omega | with_reducible assumption) ?_ | refine aw_exit ?_ | refine aw_ret ?_ | (simp (decide := true) (disch := omega) only [go_sem, ↓reduceIte, ↓put_at])))
                        simp only [b1]
                        (repeat (first | refine aw_seq ?_ | refine aw_block ?_ | refine aw_reg hC (by kernel_rfl) ?_ | refine aw_regd hC Tryd.checked.mixed (by kernel_rfl) ?_ | refine chk_and (by kernel_rfl) ?_ | refine aw_skip ?_ | refine aw_if ?_ | refine And.intro (by first | omega | with_reducible assumption) ?_ | refine aw_exit ?_ | refine aw_ret ?_ | (simp (decide := true) (disch := omega) only [go_sem, ↓reduceIte, ↓put_at])))
                        (refine ret_s [] ?_; simp (decide := true) (disch := omega) only [go_sem, ↓reduceIte, ↓put_at])
                    · have hMt : M = false := by rw [hM]; exact decide_eq_false fun e => k2 e.2.2.2.2.2.2.2.1
                      subst hMt k1
                      (repeat (first | refine aw_seq ?_ | refine aw_block ?_ | refine aw_reg hC (by kernel_rfl) ?_ | refine aw_regd hC Tryd.checked.mixed (by kernel_rfl) ?_ | refine chk_and (by kernel_rfl) ?_ | refine aw_skip ?_ | refine aw_if ?_ | refine And.intro (by first | omega | with_reducible assumption) ?_ | refine aw_exit ?_ | refine aw_ret ?_ | (simp (decide := true) (disch := omega) only [go_sem, ↓reduceIte, ↓put_at])))
                      (refine ret_s [] ?_; simp (decide := true) (disch := omega) only [go_sem, ↓reduceIte, ↓put_at])
                  · have hMt : M = false := by rw [hM]; exact decide_eq_false fun e => k1 e.2.2.2.2.2.2.1
                    have k0 : hx2 = !hx := by cases hx <;> cases hx2 <;> simp_all
                    subst hMt k0
                    cases hx
                    · (repeat (first | refine aw_seq ?_ | refine aw_block ?_ | refine aw_reg hC (by kernel_rfl) ?_ | refine aw_regd hC Tryd.checked.mixed (by kernel_rfl) ?_ | refine chk_and (by kernel_rfl) ?_ | refine aw_skip ?_ | refine aw_if ?_ | refine And.intro (by first | omega | with_reducible assumption) ?_ | refine aw_exit ?_ | refine aw_ret ?_ | (simp (decide := true) (disch := omega) only [go_sem, ↓reduceIte, ↓put_at])))
                      (refine ret_s [] ?_; simp (decide := true) (disch := omega) only [go_sem, ↓reduceIte, ↓put_at])
                    · (repeat (first | refine aw_seq ?_ | refine aw_block ?_ | refine aw_reg hC (by kernel_rfl) ?_ | refine aw_regd hC Tryd.checked.mixed (by kernel_rfl) ?_ | refine chk_and (by kernel_rfl) ?_ | refine aw_skip ?_ | refine aw_if ?_ | refine And.intro (by first | omega | with_reducible assumption) ?_ | refine aw_exit ?_ | refine aw_ret ?_ | (simp (decide := true) (disch := omega) only [go_sem, ↓reduceIte, ↓put_at])))
                      (refine ret_s [] ?_; simp (decide := true) (disch := omega) only [go_sem, ↓reduceIte, ↓put_at])
            · have hMt : M = false := by rw [hM]; exact decide_eq_false fun e => g6 e.2.2.2.2.1
              subst hMt g2
              (repeat (first | refine aw_seq ?_ | refine aw_block ?_ | refine aw_reg hC (by kernel_rfl) ?_ | refine aw_regd hC Tryd.checked.mixed (by kernel_rfl) ?_ | refine chk_and (by kernel_rfl) ?_ | refine aw_skip ?_ | refine aw_if ?_ | refine And.intro (by first | omega | with_reducible assumption) ?_ | refine aw_exit ?_ | refine aw_ret ?_ | (simp (decide := true) (disch := omega) only [go_sem, ↓reduceIte, ↓put_at])))
              (refine ret_s [] ?_; simp (decide := true) (disch := omega) only [go_sem, ↓reduceIte, ↓put_at])
          · have hMt : M = false := by rw [hM]; exact decide_eq_false fun e => g5 e.2.2.2.1
            subst hMt g2
            (repeat (first | refine aw_seq ?_ | refine aw_block ?_ | refine aw_reg hC (by kernel_rfl) ?_ | refine aw_regd hC Tryd.checked.mixed (by kernel_rfl) ?_ | refine chk_and (by kernel_rfl) ?_ | refine aw_skip ?_ | refine aw_if ?_ | refine And.intro (by first | omega | with_reducible assumption) ?_ | refine aw_exit ?_ | refine aw_ret ?_ | (simp (decide := true) (disch := omega) only [go_sem, ↓reduceIte, ↓put_at])))
            (refine ret_s [] ?_; simp (decide := true) (disch := omega) only [go_sem, ↓reduceIte, ↓put_at])
        · have hMt : M = false := by rw [hM]; exact decide_eq_false fun e => g4 e.2.2.1
          subst hMt g2
          (repeat (first | refine aw_seq ?_ | refine aw_block ?_ | refine aw_reg hC (by kernel_rfl) ?_ | refine aw_regd hC Tryd.checked.mixed (by kernel_rfl) ?_ | refine chk_and (by kernel_rfl) ?_ | refine aw_skip ?_ | refine aw_if ?_ | refine And.intro (by first | omega | with_reducible assumption) ?_ | refine aw_exit ?_ | refine aw_ret ?_ | (simp (decide := true) (disch := omega) only [go_sem, ↓reduceIte, ↓put_at])))
          (refine ret_s [] ?_; simp (decide := true) (disch := omega) only [go_sem, ↓reduceIte, ↓put_at])
      · have hMt : M = false := by rw [hM]; exact decide_eq_false fun e => g3 e.2.1
        subst hMt g2
        (repeat (first | refine aw_seq ?_ | refine aw_block ?_ | refine aw_reg hC (by kernel_rfl) ?_ | refine aw_regd hC Tryd.checked.mixed (by kernel_rfl) ?_ | refine chk_and (by kernel_rfl) ?_ | refine aw_skip ?_ | refine aw_if ?_ | refine And.intro (by first | omega | with_reducible assumption) ?_ | refine aw_exit ?_ | refine aw_ret ?_ | (simp (decide := true) (disch := omega) only [go_sem, ↓reduceIte, ↓put_at])))
        (refine ret_s [] ?_; simp (decide := true) (disch := omega) only [go_sem, ↓reduceIte, ↓put_at])
    · have hMt : M = false := by rw [hM]; exact decide_eq_false fun e => g2 e.1
      have k0 : mk2 = !mk := by cases mk <;> cases mk2 <;> simp_all
      subst hMt k0
      cases mk
      · (repeat (first | refine aw_seq ?_ | refine aw_block ?_ | refine aw_reg hC (by kernel_rfl) ?_ | refine aw_regd hC Tryd.checked.mixed (by kernel_rfl) ?_ | refine chk_and (by kernel_rfl) ?_ | refine aw_skip ?_ | refine aw_if ?_ | refine And.intro (by first | omega | with_reducible assumption) ?_ | refine aw_exit ?_ | refine aw_ret ?_ | (simp (decide := true) (disch := omega) only [go_sem, ↓reduceIte, ↓put_at])))
        (refine ret_s [] ?_; simp (decide := true) (disch := omega) only [go_sem, ↓reduceIte, ↓put_at])
      · (repeat (first | refine aw_seq ?_ | refine aw_block ?_ | refine aw_reg hC (by kernel_rfl) ?_ | refine aw_regd hC Tryd.checked.mixed (by kernel_rfl) ?_ | refine chk_and (by kernel_rfl) ?_ | refine aw_skip ?_ | refine aw_if ?_ | refine And.intro (by first | omega | with_reducible assumption) ?_ | refine aw_exit ?_ | refine aw_ret ?_ | (simp (decide := true) (disch := omega) only [go_sem, ↓reduceIte, ↓put_at])))
        (refine ret_s [] ?_; simp (decide := true) (disch := omega) only [go_sem, ↓reduceIte, ↓put_at])
  · have hMt : M = false := by rw [hM]; exact decide_eq_false fun e => g1 (by rw [e.2.2.2.2.2.1])
    subst hMt
    (repeat (first | refine aw_seq ?_ | refine aw_block ?_ | refine aw_reg hC (by kernel_rfl) ?_ | refine aw_regd hC Tryd.checked.mixed (by kernel_rfl) ?_ | refine chk_and (by kernel_rfl) ?_ | refine aw_skip ?_ | refine aw_if ?_ | refine And.intro (by first | omega | with_reducible assumption) ?_ | refine aw_exit ?_ | refine aw_ret ?_ | (simp (decide := true) (disch := omega) only [go_sem, ↓reduceIte, ↓put_at])))
    (refine ret_s [] ?_; simp (decide := true) (disch := omega) only [go_sem, ↓reduceIte, ↓put_at])
def cut4 (p : P4) : P4 := { p with others := p.others.take 17, ext := p.ext.take 60, data := p.data.take 60 }
set_option maxRecDepth 100000 in
set_option maxHeartbeats 4000000 in
theorem law_cut4 (p : P4) (hl : p.others.length ≤ maxLen) (h1 : p.ext.length ≤ maxLen) (h2 : p.data.length ≤ maxLen) : Spec Tryd.prog 17 [.ca (.val (.agg (p4L p)))] [] (.ca (.val (.agg (p4L (cut4 p))))) [] := by
  unfold cut4
  obtain ⟨mk, kd, sq, tm, sr, os, hx, pf, ex, da, pd⟩ := p
  dsimp only at *
  have c1 := q_cut ex 60 h1 (by decide)
  have c2 := q_cut da 60 h2 (by decide)
  unfold maxLen at hl
  have e1 : (min (os.length : Int) 17).toNat = min os.length 17 := by omega
  have e2 : (os.map u32El).take (min os.length 17) = (os.take 17).map u32El := by
    rw [← List.map_take]
    congr 1
    by_cases h : os.length ≤ 17
    · rw [Nat.min_eq_left h, List.take_length, List.take_of_length_le h]
    · rw [Nat.min_eq_right (by omega)]
  refine spec_of Tryd.func17 rfl Tryd.ntmps17 Tryd.results17 ⟨by decide, by simp⟩ fun C hC => ?_
  (repeat (first | refine aw_seq ?_ | refine aw_block ?_ | refine aw_reg hC (by kernel_rfl) ?_ | refine aw_regd hC Tryd.checked.mixed (by kernel_rfl) ?_ | refine chk_and (by kernel_rfl) ?_ | refine aw_skip ?_ | refine aw_if ?_ | refine And.intro (by first | omega | with_reducible assumption) ?_ | refine aw_exit ?_ | refine aw_ret ?_ | (simp (decide := true) (disch := omega) only [go_sem, ↓reduceIte, ↓put_at])))
  refine ⟨⟨by omega, by omega, fun q h => h.elim⟩, ?_⟩
  rw [e1, e2]
  have hol : ((os.take 17).map u32El).length = (os.take 17).length := List.length_map ..
  have hul : ∀ r ∈ (os.take 17).map u32El, r.length = 1 ∧ ∀ y ∈ r, oneV y = true := fun r hr => by
    obtain ⟨n, _, rfl⟩ := List.mem_map.1 hr
    exact ⟨rfl, fun y hy => by simp only [u32El, List.mem_singleton] at hy; subst hy; rfl⟩
  have h17 : (os.take 17).length ≤ 17 := by rw [List.length_take]; omega
  refine ⟨⟨⟨by omega, by omega, fun r hr => (hul r hr).1, fun r hr => (hul r hr).2⟩, ?_⟩, ?_⟩
  · kernel_rfl
  rw [show (60 : Int).toNat = 60 from rfl] at c1 c2
  (repeat (first | refine aw_seq ?_ | refine aw_block ?_ | refine aw_reg hC (by kernel_rfl) ?_ | refine aw_regd hC Tryd.checked.mixed (by kernel_rfl) ?_ | refine chk_and (by kernel_rfl) ?_ | refine aw_skip ?_ | refine aw_if ?_ | refine And.intro (by first | omega | with_reducible assumption) ?_ | refine aw_exit ?_ | refine aw_ret ?_ | (simp (decide := true) (disch := omega) only [go_sem, ↓reduceIte, ↓put_at])))
  refine call_s Tryd.call10 c1 [] ?_
  (repeat (first | refine aw_seq ?_ | refine aw_block ?_ | refine aw_reg hC (by kernel_rfl) ?_ | refine aw_regd hC Tryd.checked.mixed (by kernel_rfl) ?_ | refine chk_and (by kernel_rfl) ?_ | refine aw_skip ?_ | refine aw_if ?_ | refine And.intro (by first | omega | with_reducible assumption) ?_ | refine aw_exit ?_ | refine aw_ret ?_ | (simp (decide := true) (disch := omega) only [go_sem, ↓reduceIte, ↓put_at])))
  refine call_s Tryd.call10 c2 [] ?_
  (repeat (first | refine aw_seq ?_ | refine aw_block ?_ | refine aw_reg hC (by kernel_rfl) ?_ | refine aw_regd hC Tryd.checked.mixed (by kernel_rfl) ?_ | refine chk_and (by kernel_rfl) ?_ | refine aw_skip ?_ | refine aw_if ?_ | refine And.intro (by first | omega | with_reducible assumption) ?_ | refine aw_exit ?_ | refine aw_ret ?_ | (simp (decide := true) (disch := omega) only [go_sem, ↓reduceIte, ↓put_at])))
  (refine ret_s [] ?_; simp (decide := true) (disch := omega) only [go_sem, ↓reduceIte, ↓put_at])
end Go.Proofs.YtojcjbaimdjhoaaDoor
