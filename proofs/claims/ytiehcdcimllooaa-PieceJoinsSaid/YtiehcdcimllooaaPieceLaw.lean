/- The statements of layer 7: the fixed fact, and PieceSplits. -/
import Derived.Test.YtiehcdcimllooaaPiece4
namespace Go.Proofs.Ytiehcdcimllooaa
open Go.RowKit
set_option linter.unusedVariables false
set_option linter.unusedSimpArgs false

theorem one_row (w : World) (t : TypeId) (p : Pc) : ArgRows (w.alloc (.cells #[.int .i64 p.1, .int .i64 p.2.1, str p.2.2] t)) (some ⟨w.heap.size, 0, none⟩) 3 1 ([p].map triCells) := by
  have hb := Blk.new w t #[.int .i64 p.1, .int .i64 p.2.1, str p.2.2]
  refine ⟨rfl, by decide, fun i hi => ?_⟩
  obtain rfl : i = 0 := by simp at hi; exact hi
  refine ⟨_, _, rfl, hb.lt, fun j u hu => ?_⟩
  match j, hu with
  | 0, hu => obtain rfl := Option.some.inj hu; exact hb.cell 0
  | 1, hu => obtain rfl := Option.some.inj hu; exact hb.cell 1
  | 2, hu => obtain rfl := Option.some.inj hu; exact hb.cell 2
  | j + 3, hu => cases hu

set_option maxRecDepth 100000 in
theorem awake7 (w : World) : Calls Try.prog 46 #[] w fun e w' => e = .returned (.bool true) ∧ Chg Nothing w w' := by
  go_enter Try.func46, Try.ntmps46
  go_wp2_with fail
  refine (piece_pack _ 1 1 [(1, 203, [97, 98, 99, 100])] _ (one_row w _ _) rfl (by decide) (by simp)).mono ?_
  rintro e w1 ⟨rfl, h1⟩
  rw [show packP [(1, 203, [97, 98, 99, 100])] = [129, 203, 0, 1, 97, 98, 99, 100] from by decide]
  go_wp2_with fail
  refine (piece_check (0, 0, []) _ (by decide)).mono ?_
  rintro e w2 ⟨rfl, h2⟩
  rw [show checkE (0, 0, []) = 6 from by decide]
  go_wp2
  go_ret
  exact ⟨rfl, (((Chg.refl _ _).alloc _).trans h1).trans h2⟩

theorem split_facts (l : List UInt8) : (splitP l).2.length ≤ l.length ∧ ((splitP l).2.all mayP = true) ∧ ((splitP l).1 ≠ 0 → (splitP l).2 = []) := by
  have he := run_err l.length l []
  by_cases h : (splitP l).1 = 0
  · obtain ⟨qs, h1, h2, h3⟩ := pack_run l.length l [] (splitP l).2 (Nat.le_refl _) (Prod.ext h rfl)
    simp only [List.nil_append] at h1
    rw [h1]
    refine ⟨?_, h2, fun hh => absurd h hh⟩
    rw [← h3]
    clear h1 h2 h3
    induction qs with
    | nil => simp
    | cons q qs ih => rw [List.flatMap_cons, List.length_append, packOne_length, List.length_cons]; omega
  · have hn := he h
    have : (splitP l).2 = [] := hn
    rw [this]
    exact ⟨by simp, rfl, fun _ => rfl⟩
theorem may_bounds (xs : List Pc) (h : xs.all mayP = true) : (∀ x ∈ xs, x.2.2.length ≤ 262144 ∧ (-9223372036854775807 ≤ x.1 + 1 ∧ x.1 ≤ 9223372036854775807)) ∧ (∀ x ∈ xs, -9223372036854775807 ≤ x.2.1 + 1 ∧ x.2.1 ≤ 9223372036854775807) := by
  rw [List.all_eq_true] at h
  constructor
  · intro x hx; have := (mayP_iff x).1 (h x hx); omega
  · intro x hx; have := (mayP_iff x).1 (h x hx); omega
/-- What owns structs is a slice that reads them. -/
theorem OwnTri.rows {w0 w : World} {t : TypeId} {v : Value} {ps : List Pc} (h : OwnTri w0 t v ps w) (hm : ps.length ≤ maxLen) : ∃ A c, v = .slice A ps.length c ∧ ArgRows w A 3 ps.length (ps.map triCells) ∧ (ps = [] → A = none ∨ ∃ b, A = some b) := by
  obtain ⟨A, c, rfl, _⟩ := own_form h.1
  exact ⟨A, c, rfl, rows_own triCells 3 tri_len h.1 rfl hm, fun _ => by cases A <;> simp⟩

set_option maxRecDepth 100000 in
set_option maxHeartbeats 2000000 in
theorem pieceSplits_walk (l0 : List UInt8) (w : World) (hl : l0.length ≤ maxLen) :
    Calls Try.prog 8 #[str l0] w fun e w' => e = .returned (.bool true) ∧ Chg Nothing w w' := by
  go_enter Try.func8, Try.ntmps8
  go_wp2_with fail
  refine (awake7 _).mono ?_
  rintro e w1 ⟨rfl, h1⟩
  go_wp2_with fail
  refine (cut_any l0 300 _ hl (by decide)).mono ?_
  rintro e w' ⟨rfl, rfl⟩
  obtain ⟨s, hs, hsl⟩ : ∃ s, s = l0.take (300 : Int).toNat ∧ s.length ≤ 300 := ⟨_, rfl, by rw [List.length_take]; exact Nat.min_le_left _ _⟩
  rw [← hs]
  clear hs
  obtain ⟨hlen, hall, herr⟩ := split_facts s
  have hps := pack_split s
  have hm : (splitP s).2.length ≤ maxLen := by unfold maxLen; omega
  go_wp2_with fail
  refine (piece_split s _ (by omega)).mono ?_
  rintro e w2 ⟨v, rfl, hv, _, h2⟩
  go_wp2_with fail
  refine (ref_split s _ (by omega)).mono ?_
  rintro e w3 ⟨u, rfl, hu, h3⟩
  have hv := hv.chg h3 (fun _ _ => id)
  obtain ⟨A, c, rfl, hA, _⟩ := hv.rows hm
  obtain ⟨B, d, rfl, hB, _⟩ := hu.rows hm
  clear hv hu
  generalize splitP s = r at hlen hall herr hps hm hA hB ⊢
  obtain ⟨E, PS⟩ := r
  simp only at hlen hall herr hps hm hA hB ⊢
  have hself : (E == E) = true := by simp
  have HS := Lib.hid hps
  have HB := Lib.hid (may_bounds PS hall).1
  clear hps hall herr
  go_wp2_with fail
  refine (law_is A B _ _ c d PS PS _ hA hB rfl rfl).mono ?_
  rintro e w4 ⟨rfl, h4⟩
  rw [show decide (PS = PS) = true from by simp]
  by_cases he : E = 0
  · subst he
    go_wp2_with fail
    refine (piece_pack A _ c PS _ (hA.keep h4) rfl (by omega) HB.out).mono ?_
    rintro e w5 ⟨rfl, h5⟩
    rw [HS.out (by first | trivial | rfl)]
    have hss : (s == s) = true := by simp
    go_wp2
    go_ret
    exact ⟨rfl, (((h1.trans h2).trans h3).trans h4).trans h5⟩
  · have heb : (E == 0) = false := by simpa using he
    go_wp2
    go_ret
    exact ⟨rfl, ((h1.trans h2).trans h3).trans h4⟩
end Go.Proofs.Ytiehcdcimllooaa
