
/- Layer 16: a call, of both; walked. -/
import Derived.Test.YtdgkehoodlncmaaMrg3
namespace Go.Proofs.Ytdgkehoodlncmaa
open Go.RowKit
set_option linter.unusedVariables false
set_option linter.unusedSimpArgs false

structure A16 where
  kind : Int
  e : En
  all : List En
abbrev actL (a : A16) : List V := [vi a.kind, vi a.e.id, vb a.e.up, vi a.e.rate, .lst 3 (a.all.map enEl)]
def doT (t : Tb) (a : A16) : Tb := if a.kind = 0 then (tSet t a.e).1 else if a.kind = 1 then (tDrop t a.e.id).1 else (tMerge t (a.all.take 8)).1
def rStep (s : Tb × Nat × Int) (e : En) : Tb × Nat × Int := if s.2.2 = 0 then ((rSet s.1 e).1, s.2.1 + (if (rSet s.1 e).2.1 = true then 1 else 0), (rSet s.1 e).2.2) else s
def rFold (x : Tb) (l : List En) : Tb × Nat × Int := l.foldl rStep (x, 0, 0)
def doX (x : Tb) (a : A16) : Tb := if a.kind = 0 then (rSet x a.e).1 else if a.kind = 1 then (rDrop x a.e.id).1 else (rFold x (a.all.take 8)).1
theorem rFold_snoc (x : Tb) (l : List En) (e : En) : rFold x (l ++ [e]) = rStep (rFold x l) e := by unfold rFold; rw [List.foldl_append]; rfl
theorem rStep_bd {s : Tb × Nat × Int} (e : En) (h : s.1.l.length ≤ 15) : (rStep s e).1.l.length ≤ 15 ∧ (s.1.ver ≤ (rStep s e).1.ver ∧ (rStep s e).1.ver ≤ s.1.ver + 1) ∧ (rStep s e).2.1 ≤ s.2.1 + 1 := by
  unfold rStep
  split
  · refine ⟨rSet_len h e, rSet_ver s.1 e, ?_⟩
    dsimp only
    split <;> omega
  · exact ⟨h, by omega, by omega⟩
theorem rFold_bd : ∀ (l : List En) (s : Tb × Nat × Int), s.1.l.length ≤ 15 → (l.foldl rStep s).1.l.length ≤ 15 ∧ (s.1.ver ≤ (l.foldl rStep s).1.ver ∧ (l.foldl rStep s).1.ver ≤ s.1.ver + l.length) ∧ (l.foldl rStep s).2.1 ≤ s.2.1 + l.length
  | [], s, h => ⟨h, by simp, by simp⟩
  | e :: es, s, h => by
    obtain ⟨h1, h2, h3⟩ := rStep_bd e h
    obtain ⟨h4, h5, h6⟩ := rFold_bd es (rStep s e) h1
    simp only [List.foldl_cons, List.length_cons]
    exact ⟨h4, by omega, by omega⟩
theorem doT_ok {t : Tb} (h : TbOk t) (a : A16) : TbOk (doT t a) := by
  unfold doT
  split
  · exact tSet_ok h a.e
  · split
    · exact tDrop_ok h a.e.id
    · exact tMerge_ok _ h
theorem doT_ver (t : Tb) (a : A16) : t.ver ≤ (doT t a).ver ∧ (doT t a).ver ≤ t.ver + 8 := by
  unfold doT
  split
  · have := tSet_ver t a.e; omega
  · split
    · unfold tDrop; split <;> simp <;> omega
    · have := tMerge_ver (a.all.take 8) t
      rw [List.length_take] at this
      omega
theorem doX_bd {x : Tb} (h : x.l.length ≤ 15) (a : A16) : (doX x a).l.length ≤ 15 ∧ x.ver ≤ (doX x a).ver ∧ (doX x a).ver ≤ x.ver + 8 := by
  unfold doX
  split
  · have := rSet_ver x a.e
    exact ⟨rSet_len h a.e, by omega, by omega⟩
  · split
    · unfold rDrop
      split
      · exact ⟨h, by simp, by simp; omega⟩
      · exact ⟨Nat.le_trans (List.length_filter_le _ _) h, by dsimp only; omega, by dsimp only; omega⟩
    · obtain ⟨h1, h2, _⟩ := rFold_bd (a.all.take 8) (x, 0, 0) h
      rw [List.length_take] at h2
      dsimp only at h2
      exact ⟨h1, by unfold rFold; omega, by unfold rFold; omega⟩
set_option maxRecDepth 100000 in
set_option maxHeartbeats 8000000 in
theorem l16_do (t : Tb) (ht : TbOk t) (x : Tb) (hx : x.l.length ≤ 15) (a : A16) (hv : -10000 ≤ t.ver ∧ t.ver ≤ 10000) (hw : -10000 ≤ x.ver ∧ x.ver ≤ 10000) (hal : a.all.length ≤ maxLen) :
    Spec Try.prog 30 [.ptr 0 0, .ca (.val (.agg (tbV x))), .ca (.val (.agg (actL a)))] [tbL t] (.ca (.val (.tup [.agg (tbV (doX x a)), .any]))) [tbL (doT t a)] := by
  by_cases h0 : a.kind = 0
  · have eT : doT t a = (tSet t a.e).1 := by unfold doT; rw [if_pos h0]
    have eX : doX x a = (rSet x a.e).1 := by unfold doX; rw [if_pos h0]
    have c1 := r_set x hx (by omega) a.e
    have c2 := t_set t ht a.e (by omega)
    rw [eT, eX]
    generalize rSet x a.e = R1 at *
    generalize tSet t a.e = R2 at *
    obtain ⟨R1a, b1, R1c⟩ := R1
    obtain ⟨R2a, b2, R2c⟩ := R2
    dsimp only at c1 c2 ⊢
    cases b1 with
    | true =>
      cases b2 with
      | true =>
        refine spec_of Try.func30 rfl Try.ntmps30 Try.results30 ⟨by decide, by simp⟩ fun C hC => ?_
        (repeat' ((first | refine aw_seq ?_ | refine aw_block ?_ | refine aw_reg hC (by kernel_rfl) ?_ | refine aw_regd hC Try.checked.mixed (by kernel_rfl) ?_ | refine chk_and (by kernel_rfl) ?_ | refine aw_skip ?_ | refine aw_if ?_ | refine And.intro (by first | omega | with_reducible assumption) ?_ | refine aw_exit ?_ | refine aw_ret ?_ | (simp (decide := true) (disch := omega) only [go_sem, ↓reduceIte, ↓put_at]) | refine call_u Try.call80 (c1) [] (by simp (decide := true) (disch := omega) only [go_sem, ↓reduceIte, ↓put_at]; first | done | assumption | omega) ?_ | refine call_u Try.call16 (c2) [(1000, 0)] (by simp (decide := true) (disch := omega) only [go_sem, ↓reduceIte, ↓put_at]; first | done | assumption | omega) ?_ | (refine ret_s [] ?_; simp (decide := true) (disch := omega) only [go_sem, ↓reduceIte, ↓put_at]))))
      | false =>
        refine spec_of Try.func30 rfl Try.ntmps30 Try.results30 ⟨by decide, by simp⟩ fun C hC => ?_
        (repeat' ((first | refine aw_seq ?_ | refine aw_block ?_ | refine aw_reg hC (by kernel_rfl) ?_ | refine aw_regd hC Try.checked.mixed (by kernel_rfl) ?_ | refine chk_and (by kernel_rfl) ?_ | refine aw_skip ?_ | refine aw_if ?_ | refine And.intro (by first | omega | with_reducible assumption) ?_ | refine aw_exit ?_ | refine aw_ret ?_ | (simp (decide := true) (disch := omega) only [go_sem, ↓reduceIte, ↓put_at]) | refine call_u Try.call80 (c1) [] (by simp (decide := true) (disch := omega) only [go_sem, ↓reduceIte, ↓put_at]; first | done | assumption | omega) ?_ | refine call_u Try.call16 (c2) [(1000, 0)] (by simp (decide := true) (disch := omega) only [go_sem, ↓reduceIte, ↓put_at]; first | done | assumption | omega) ?_ | (refine ret_s [] ?_; simp (decide := true) (disch := omega) only [go_sem, ↓reduceIte, ↓put_at]))))
    | false =>
      cases b2 with
      | true =>
        refine spec_of Try.func30 rfl Try.ntmps30 Try.results30 ⟨by decide, by simp⟩ fun C hC => ?_
        (repeat' ((first | refine aw_seq ?_ | refine aw_block ?_ | refine aw_reg hC (by kernel_rfl) ?_ | refine aw_regd hC Try.checked.mixed (by kernel_rfl) ?_ | refine chk_and (by kernel_rfl) ?_ | refine aw_skip ?_ | refine aw_if ?_ | refine And.intro (by first | omega | with_reducible assumption) ?_ | refine aw_exit ?_ | refine aw_ret ?_ | (simp (decide := true) (disch := omega) only [go_sem, ↓reduceIte, ↓put_at]) | refine call_u Try.call80 (c1) [] (by simp (decide := true) (disch := omega) only [go_sem, ↓reduceIte, ↓put_at]; first | done | assumption | omega) ?_ | refine call_u Try.call16 (c2) [(1000, 0)] (by simp (decide := true) (disch := omega) only [go_sem, ↓reduceIte, ↓put_at]; first | done | assumption | omega) ?_ | (refine ret_s [] ?_; simp (decide := true) (disch := omega) only [go_sem, ↓reduceIte, ↓put_at]))))
      | false =>
        refine spec_of Try.func30 rfl Try.ntmps30 Try.results30 ⟨by decide, by simp⟩ fun C hC => ?_
        (repeat' ((first | refine aw_seq ?_ | refine aw_block ?_ | refine aw_reg hC (by kernel_rfl) ?_ | refine aw_regd hC Try.checked.mixed (by kernel_rfl) ?_ | refine chk_and (by kernel_rfl) ?_ | refine aw_skip ?_ | refine aw_if ?_ | refine And.intro (by first | omega | with_reducible assumption) ?_ | refine aw_exit ?_ | refine aw_ret ?_ | (simp (decide := true) (disch := omega) only [go_sem, ↓reduceIte, ↓put_at]) | refine call_u Try.call80 (c1) [] (by simp (decide := true) (disch := omega) only [go_sem, ↓reduceIte, ↓put_at]; first | done | assumption | omega) ?_ | refine call_u Try.call16 (c2) [(1000, 0)] (by simp (decide := true) (disch := omega) only [go_sem, ↓reduceIte, ↓put_at]; first | done | assumption | omega) ?_ | (refine ret_s [] ?_; simp (decide := true) (disch := omega) only [go_sem, ↓reduceIte, ↓put_at]))))
  · by_cases h1 : a.kind = 1
    · have eT : doT t a = (tDrop t a.e.id).1 := by unfold doT; rw [if_neg h0, if_pos h1]
      have eX : doX x a = (rDrop x a.e.id).1 := by unfold doX; rw [if_neg h0, if_pos h1]
      have c1 := r_drop x (by omega) (by omega) a.e.id
      have c2 := t_drop t ht a.e.id (by omega)
      rw [eT, eX]
      generalize rDrop x a.e.id = R1 at *
      generalize tDrop t a.e.id = R2 at *
      obtain ⟨R1a, b1⟩ := R1
      obtain ⟨R2a, b2⟩ := R2
      dsimp only at c1 c2 ⊢
      refine spec_of Try.func30 rfl Try.ntmps30 Try.results30 ⟨by decide, by simp⟩ fun C hC => ?_
      (repeat' ((first | refine aw_seq ?_ | refine aw_block ?_ | refine aw_reg hC (by kernel_rfl) ?_ | refine aw_regd hC Try.checked.mixed (by kernel_rfl) ?_ | refine chk_and (by kernel_rfl) ?_ | refine aw_skip ?_ | refine aw_if ?_ | refine And.intro (by first | omega | with_reducible assumption) ?_ | refine aw_exit ?_ | refine aw_ret ?_ | (simp (decide := true) (disch := omega) only [go_sem, ↓reduceIte, ↓put_at]) | refine call_u Try.call81 (c1) [] (by simp (decide := true) (disch := omega) only [go_sem, ↓reduceIte, ↓put_at]; first | done | assumption | omega) ?_ | refine call_u Try.call82 (c2) [(1000, 0)] (by simp (decide := true) (disch := omega) only [go_sem, ↓reduceIte, ↓put_at]; first | done | assumption | omega) ?_ | (refine ret_s [] ?_; simp (decide := true) (disch := omega) only [go_sem, ↓reduceIte, ↓put_at]))))
    · have eT : doT t a = (tMerge t (a.all.take 8)).1 := by unfold doT; rw [if_neg h0, if_neg h1]
      have eX : doX x a = (rFold x (a.all.take 8)).1 := by unfold doX; rw [if_neg h0, if_neg h1]
      rw [eT, eX]
      refine spec_of Try.func30 rfl Try.ntmps30 Try.results30 ⟨by decide, by simp⟩ fun C hC => ?_
      (repeat' ((fail_if_success (refine stop_reg 12 ?_)); (first | refine aw_seq ?_ | refine aw_block ?_ | refine aw_reg hC (by kernel_rfl) ?_ | refine aw_regd hC Try.checked.mixed (by kernel_rfl) ?_ | refine chk_and (by kernel_rfl) ?_ | refine aw_skip ?_ | refine aw_if ?_ | refine And.intro (by first | omega | with_reducible assumption) ?_ | refine aw_exit ?_ | refine aw_ret ?_ | (simp (decide := true) (disch := omega) only [go_sem, ↓reduceIte, ↓put_at]) | (refine ret_s [] ?_; simp (decide := true) (disch := omega) only [go_sem, ↓reduceIte, ↓put_at]))))
      refine own_s 15 (15, 1) 159 3 ?_
      simp (decide := true) (disch := omega) only [go_sem, ↓reduceIte, ↓put_at]
      refine meetB_s (α := {i : Nat // i ≤ 8 ∧ a.all.take i = a.all.take 8}) (fun i => [(.r (1000, 3), .tree (.rw 32 3 (t.l.map enEl))), (.o (1000, 0), .num 3), (.c (1000, 0) 0, .av (.val (vi t.most))), (.c (1000, 0) 1, .av (.val (vi t.ver))), (.c (1000, 0) 2, .av (.ref (1000, 3) 0)), (.s 0, .av (.ptr (1000, 0) 0 0)), (.o (4, 0), .num 3), (.c (4, 0) 0, .av (.val (vi (rFold x (a.all.take i.1)).1.most))), (.c (4, 0) 1, .av (.val (vi (rFold x (a.all.take i.1)).1.ver))), (.c (4, 0) 2, .av (.val (.lst 3 ((rFold x (a.all.take i.1)).1.l.map enEl)))), (.s 4, .av (.ptr (4, 0) 0 0)), (.o (6, 0), .num 3), (.c (6, 0) 0, .av (.val (vi 0))), (.c (6, 0) 1, .av (.val (vi 0))), (.c (6, 0) 2, .av (.val (.sc (.slice none 0 0)))), (.s 6, .av (.ptr (6, 0) 0 0)), (.k (15, 1), .row 159 3 (a.all.take i.1).length), (.s 15, .av (.own (15, 1) 0 159 3 ((a.all.take i.1).map enEl))), (.s 16, .av (.val (vi (rFold x (a.all.take i.1)).2.1))), (.s 17, .av (.val (vi (rFold x (a.all.take i.1)).2.2)))]) ?_ (fun i => ?_)
      · refine loop_s (α := {i : Nat // i ≤ a.all.length ∧ i ≤ 8}) (fun i => [(.r (1000, 3), .tree (.rw 32 3 (t.l.map enEl))), (.o (1000, 0), .num 3), (.c (1000, 0) 0, .av (.val (vi t.most))), (.c (1000, 0) 1, .av (.val (vi t.ver))), (.c (1000, 0) 2, .av (.ref (1000, 3) 0)), (.s 0, .av (.ptr (1000, 0) 0 0)), (.o (4, 0), .num 3), (.c (4, 0) 0, .av (.val (vi (rFold x (a.all.take i.1)).1.most))), (.c (4, 0) 1, .av (.val (vi (rFold x (a.all.take i.1)).1.ver))), (.c (4, 0) 2, .av (.val (.lst 3 ((rFold x (a.all.take i.1)).1.l.map enEl)))), (.s 4, .av (.ptr (4, 0) 0 0)), (.o (5, 0), .num 5), (.c (5, 0) 0, .av (.val (vi a.kind))), (.c (5, 0) 1, .av (.val (vi a.e.id))), (.c (5, 0) 2, .av (.val (vb a.e.up))), (.c (5, 0) 3, .av (.val (vi a.e.rate))), (.c (5, 0) 4, .av (.val (.lst 3 (a.all.map enEl)))), (.s 5, .av (.ptr (5, 0) 0 0)), (.o (6, 0), .num 3), (.c (6, 0) 0, .av (.val (vi 0))), (.c (6, 0) 1, .av (.val (vi 0))), (.c (6, 0) 2, .av (.val (.sc (.slice none 0 0)))), (.s 6, .av (.ptr (6, 0) 0 0)), (.k (15, 1), .row 159 3 (a.all.take i.1).length), (.s 15, .av (.own (15, 1) 0 159 3 ((a.all.take i.1).map enEl))), (.s 16, .av (.val (vi (rFold x (a.all.take i.1)).2.1))), (.s 17, .av (.val (vi (rFold x (a.all.take i.1)).2.2))), (.s 18, .av (.val (vi i.1)))]) (fun i => 8 - i.1) ⟨0, Nat.zero_le _, Nat.zero_le _⟩ ?_ (fun i => ?_)
        · simp (decide := true) (disch := omega) only [go_sem, ↓reduceIte, ↓put_at]
          exact ⟨rfl, rfl, rfl, rfl, rfl⟩
        · obtain ⟨i, hi1, hi2⟩ := i
          dsimp only at hi1 hi2 ⊢
          have hbd := rFold_bd (a.all.take i) (x, 0, 0) hx
          have htl : (a.all.take i).length = i := by rw [List.length_take]; omega
          rw [htl] at hbd
          change (rFold x (a.all.take i)).1.l.length ≤ 15 ∧ (x.ver ≤ (rFold x (a.all.take i)).1.ver ∧ (rFold x (a.all.take i)).1.ver ≤ x.ver + i) ∧ (rFold x (a.all.take i)).2.1 ≤ 0 + i at hbd
          by_cases hlt : i < a.all.length
          · by_cases hlt2 : i < 8
            · have hge : (a.all.map enEl).getD i [] = enEl a.all[i] := by simp [hlt]
              have hsn : a.all.take (i + 1) = a.all.take i ++ [a.all[i]] := (List.take_append_getElem hlt).symm
              have hfs : rFold x (a.all.take (i + 1)) = rStep (rFold x (a.all.take i)) a.all[i] := by rw [hsn, rFold_snoc]
              generalize hS : rFold x (a.all.take i) = S at *
              obtain ⟨S1, S2, S3⟩ := S
              dsimp only at hbd ⊢
              obtain ⟨d1, d2, d3⟩ := hbd
              have c1 := r_set S1 d1 (by omega) a.all[i]
              unfold rStep at hfs
              by_cases hf : S3 = 0
              · rw [if_pos hf] at hfs
                subst hf
                dsimp only at hfs
                generalize rSet S1 a.all[i] = R1 at *
                obtain ⟨R1a, b1, R1c⟩ := R1
                dsimp only at c1 hfs
                cases b1 with
                | true =>
                  (repeat' ((first | refine aw_seq ?_ | refine aw_block ?_ | refine aw_reg hC (by kernel_rfl) ?_ | refine aw_regd hC Try.checked.mixed (by kernel_rfl) ?_ | refine chk_and (by kernel_rfl) ?_ | refine aw_skip ?_ | refine aw_if ?_ | refine And.intro (by first | omega | with_reducible assumption) ?_ | refine aw_exit ?_ | refine aw_ret ?_ | (simp (decide := true) (disch := omega) only [go_sem, ↓reduceIte, ↓put_at]) | refine call_u Try.call80 (c1) [] (by simp (decide := true) (disch := omega) only [go_sem, ↓reduceIte, ↓put_at]; first | done | assumption | omega) ?_ | (refine ret_s [] ?_; simp (decide := true) (disch := omega) only [go_sem, ↓reduceIte, ↓put_at]))))
                  refine next_s (α := {i : Nat // i ≤ a.all.length ∧ i ≤ 8}) ⟨i + 1, hlt, hlt2⟩ ⟨?_, ?_⟩
                  · (try dsimp only)
                    rw [hfs, hsn]
                    simp (decide := true) (disch := omega) only [go_sem, ↓reduceIte, ↓put_at]
                    rw [List.map_append]; rfl
                  · (try dsimp only)
                    omega
                | false =>
                  (repeat' ((first | refine aw_seq ?_ | refine aw_block ?_ | refine aw_reg hC (by kernel_rfl) ?_ | refine aw_regd hC Try.checked.mixed (by kernel_rfl) ?_ | refine chk_and (by kernel_rfl) ?_ | refine aw_skip ?_ | refine aw_if ?_ | refine And.intro (by first | omega | with_reducible assumption) ?_ | refine aw_exit ?_ | refine aw_ret ?_ | (simp (decide := true) (disch := omega) only [go_sem, ↓reduceIte, ↓put_at]) | refine call_u Try.call80 (c1) [] (by simp (decide := true) (disch := omega) only [go_sem, ↓reduceIte, ↓put_at]; first | done | assumption | omega) ?_ | (refine ret_s [] ?_; simp (decide := true) (disch := omega) only [go_sem, ↓reduceIte, ↓put_at]))))
                  refine next_s (α := {i : Nat // i ≤ a.all.length ∧ i ≤ 8}) ⟨i + 1, hlt, hlt2⟩ ⟨?_, ?_⟩
                  · (try dsimp only)
                    rw [hfs, hsn]
                    simp (decide := true) (disch := omega) only [go_sem, ↓reduceIte, ↓put_at]
                    exact ⟨by rw [List.map_append]; rfl, rfl⟩
                  · (try dsimp only)
                    omega
              · rw [if_neg hf] at hfs
                (repeat' ((first | refine aw_seq ?_ | refine aw_block ?_ | refine aw_reg hC (by kernel_rfl) ?_ | refine aw_regd hC Try.checked.mixed (by kernel_rfl) ?_ | refine chk_and (by kernel_rfl) ?_ | refine aw_skip ?_ | refine aw_if ?_ | refine And.intro (by first | omega | with_reducible assumption) ?_ | refine aw_exit ?_ | refine aw_ret ?_ | (simp (decide := true) (disch := omega) only [go_sem, ↓reduceIte, ↓put_at]) | refine call_u Try.call80 (c1) [] (by simp (decide := true) (disch := omega) only [go_sem, ↓reduceIte, ↓put_at]; first | done | assumption | omega) ?_ | (refine ret_s [] ?_; simp (decide := true) (disch := omega) only [go_sem, ↓reduceIte, ↓put_at]))))
                refine next_s (α := {i : Nat // i ≤ a.all.length ∧ i ≤ 8}) ⟨i + 1, hlt, hlt2⟩ ⟨?_, ?_⟩
                · (try dsimp only)
                  rw [hfs, hsn]
                  simp (decide := true) (disch := omega) only [go_sem, ↓reduceIte, ↓put_at]
                  rw [List.map_append]; rfl
                · (try dsimp only)
                  omega
            · (repeat' ((first | refine aw_seq ?_ | refine aw_block ?_ | refine aw_reg hC (by kernel_rfl) ?_ | refine aw_regd hC Try.checked.mixed (by kernel_rfl) ?_ | refine chk_and (by kernel_rfl) ?_ | refine aw_skip ?_ | refine aw_if ?_ | refine And.intro (by first | omega | with_reducible assumption) ?_ | refine aw_exit ?_ | refine aw_ret ?_ | (simp (decide := true) (disch := omega) only [go_sem, ↓reduceIte, ↓put_at]) | (refine ret_s [] ?_; simp (decide := true) (disch := omega) only [go_sem, ↓reduceIte, ↓put_at]))))
              refine at_meet ⟨i, hi2, by have : i = 8 := by omega
                                         rw [this]⟩ ?_
              simp (decide := true) (disch := omega) only [go_sem, ↓reduceIte, ↓put_at]
          · (repeat' ((first | refine aw_seq ?_ | refine aw_block ?_ | refine aw_reg hC (by kernel_rfl) ?_ | refine aw_regd hC Try.checked.mixed (by kernel_rfl) ?_ | refine chk_and (by kernel_rfl) ?_ | refine aw_skip ?_ | refine aw_if ?_ | refine And.intro (by first | omega | with_reducible assumption) ?_ | refine aw_exit ?_ | refine aw_ret ?_ | (simp (decide := true) (disch := omega) only [go_sem, ↓reduceIte, ↓put_at]) | (refine ret_s [] ?_; simp (decide := true) (disch := omega) only [go_sem, ↓reduceIte, ↓put_at]))))
            refine at_meet ⟨i, hi2, by rw [List.take_of_length_le (by omega), List.take_of_length_le (by omega)]⟩ ?_
            simp (decide := true) (disch := omega) only [go_sem, ↓reduceIte, ↓put_at]
      obtain ⟨i, hi1, hi2⟩ := i
      dsimp only
      rw [hi2]
      have hml : (a.all.take 8).length ≤ 8 := by rw [List.length_take]; omega
      have c3 := t_merge t ht (a.all.take 8) (by omega) (by omega)
      have hbd := rFold_bd (a.all.take 8) (x, 0, 0) hx
      generalize a.all.take 8 = L8 at *
      generalize rFold x L8 = R1 at *
      generalize tMerge t L8 = R2 at *
      obtain ⟨R1a, b1, R1c⟩ := R1
      obtain ⟨R2a, b2, R2c⟩ := R2
      dsimp only at c3 ⊢
      by_cases hbb : b2 = b1
      · (repeat' ((first | refine aw_seq ?_ | refine aw_block ?_ | refine aw_reg hC (by kernel_rfl) ?_ | refine aw_regd hC Try.checked.mixed (by kernel_rfl) ?_ | refine chk_and (by kernel_rfl) ?_ | refine aw_skip ?_ | refine aw_if ?_ | refine And.intro (by first | omega | with_reducible assumption) ?_ | refine aw_exit ?_ | refine aw_ret ?_ | (simp (decide := true) (disch := omega) only [go_sem, ↓reduceIte, ↓put_at]) | refine call_u Try.call34 (c3) [(1000, 0)] (by simp (decide := true) (disch := omega) only [go_sem, ↓reduceIte, ↓put_at]; first | done | assumption | omega) ?_ | (refine ret_s [] ?_; simp (decide := true) (disch := omega) only [go_sem, ↓reduceIte, ↓put_at]))))
      · (repeat' ((first | refine aw_seq ?_ | refine aw_block ?_ | refine aw_reg hC (by kernel_rfl) ?_ | refine aw_regd hC Try.checked.mixed (by kernel_rfl) ?_ | refine chk_and (by kernel_rfl) ?_ | refine aw_skip ?_ | refine aw_if ?_ | refine And.intro (by first | omega | with_reducible assumption) ?_ | refine aw_exit ?_ | refine aw_ret ?_ | (simp (decide := true) (disch := omega) only [go_sem, ↓reduceIte, ↓put_at]) | refine call_u Try.call34 (c3) [(1000, 0)] (by simp (decide := true) (disch := omega) only [go_sem, ↓reduceIte, ↓put_at]; first | done | assumption | omega) ?_ | (refine ret_s [] ?_; simp (decide := true) (disch := omega) only [go_sem, ↓reduceIte, ↓put_at]))))
end Go.Proofs.Ytdgkehoodlncmaa
