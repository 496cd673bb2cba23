/- CompoundOpens, walked. -/
import Derived.Test.YtjkmnjmmnjhacaaGreatCmpBz
import Derived.Test.YtjkmnjmmnjhacaaGreatQCmp07z
import Derived.Test.YtjkmnjmmnjhacaaGreatCompoundOpensXz
namespace Go.Proofs.YtjkmnjmmnjhacaaGreat
open Go.RowKit
set_option linter.unusedVariables false
set_option linter.unusedSimpArgs false

section
variable {P : Program} {ops : Array Oper} {C : Ctx} {E : Env} {σ : St} {a : Act} {w : World} {md : Bool} {K : St → List FP → Prop} {acc : List FP} {rest : List Oper}
theorem ok_bldZ {d : Tmp} {t : TypeId} {T : TI} {n : Nat} (ht : tiOf P t = some T) (hs : T.sh = .array n) (hz : T.zok = true) (he : (tiOf P T.elem).isSome = true) :
    StOk P C σ (some d) (.build t #[]) (some (True, [], [(.s d, .av (.val (.agg (T.zero.map .sc))))])) := by
  refine ok_pure fun _ ty pos af E σ' a w hr hg => ?_
  obtain ⟨zv, hzv, hzz⟩ := zero_run ht hz w
  obtain ⟨_, dt, _, hdt, _, _, _, _, harr, _⟩ := tiOf_some ht
  have hdd := harr n hs
  subst hdd
  obtain ⟨Te, hTe⟩ := Option.isSome_iff_exists.1 he
  refine ⟨.agg zv.cells, ?_, agg_of (by rw [← hzz]; simp) fun i hi => ?_⟩
  · have hb : (Instr.build t #[]).run P w = .ok (.agg zv.cells) w := by
      unfold Instr.build
      simp only [Sem.run_bind, hzv, run_underlying hdt, Result.andThen_ok, sizeOf_run hTe, Sem.run_pure]
      rfl
    simp only [execOp, List.map_toArray, Sem.run_bind, hb, Result.andThen_ok, Sem.run_pure]
    simp [hb]
  · simp at hi
    have hi2 : i < zv.cells.size := by have := congrArg List.length hzz; simp at this; omega
    refine ⟨zv.cells[i], by simp [hi2], ?_⟩
    simp [← hzz]
    exact Rd.sc _
theorem bldZ_s {d : Tmp} {t : TypeId} {ty : TypeId} {pos : String} {af : Array Edge} (T : TI) (n : Nat) (ht : tiOf P t = some T) (hs : T.sh = .array n) (hz : T.zok = true) (he : (tiOf P T.elem).isSome = true)
    (k : exec P ops C md K rest (put σ (.s d) (.av (.val (.agg (T.zero.map .sc))))) (([], [.s d]) :: acc)) : Run P ops C md K (⟨some d, .build t #[], ty, pos, af, none⟩ :: rest) σ acc :=
  run_any (ok_bldZ ht hs hz he) rfl trivial k
end
theorem what_in (p : Pc) : 0 ≤ whatP p ∧ whatP p ≤ 7 := by
  unfold whatP
  split
  · decide
  split
  · decide
  split
  · decide
  split
  · decide
  split
  · decide
  split
  · decide
  split
  · decide
  · decide
theorem names_cnt (p : Pc) (h : whatP p = 2) : 0 ≤ p.1 ∧ p.1 ≤ 31 := by
  obtain ⟨s1, _, _⟩ := say_what (p := p) (by omega)
  have s2 : sayP p = 2 := by omega
  have e := names_again s2
  have hk : namesE p = 0 := by
    rcases sayP_cases p with ⟨h', _⟩ | ⟨_, _, h1⟩ | ⟨h', _⟩ | ⟨h', _⟩ | ⟨h', _⟩ | ⟨h', _⟩ | ⟨h', _⟩ | ⟨h', _⟩
    · omega
    · exact h1
    all_goals omega
  have hne : namesP (namesR p) ≠ noPc := by
    rw [e]
    rintro rfl
    have := (just_kind hk).1
    exact absurd this (by decide)
  obtain ⟨n1, _, n3⟩ := namesP_some hne
  rw [e] at n3
  omega
theorem cntN_in (ps : List Pc) : 0 ≤ cntN12 ps ∧ cntN12 ps ≤ 31 * (ps.length : Int) := by
  have key : ∀ n, n ≤ ps.length → 0 ≤ cntN12 (ps.take n) ∧ cntN12 (ps.take n) ≤ 31 * (n : Int) := by
    intro n
    induction n with
    | zero => intro _; rw [List.take_zero]; exact ⟨by decide, by decide⟩
    | succ n ih =>
      intro hn
      have h1 := ih (by omega)
      rw [List.take_succ_eq_append_getElem (by omega), cntN12_snoc]
      split
      · rename_i hw
        have := names_cnt _ hw
        omega
      · omega
  have := key ps.length (Nat.le_refl _)
  rwa [List.take_length] at this
/-- The kinds, in the order in which a bag is told. -/
def ord12 : List Int := [1, 2, 4, 5, 6, 7, 3]
def selW (ps : List Pc) (w : Int) : List Pc := if w ≠ 2 ∨ (ofW 2 ps).length = 1 then ofW w ps else []
theorem sel_want (ps : List Pc) : ord12.flatMap (selW ps) = wantL ps := by
  have h : ∀ w, w ≠ 2 → selW ps w = ofW w ps := fun w hw => by unfold selW; rw [if_pos (.inl hw)]
  have h2 : selW ps 2 = if (ofW 2 ps).length = 1 then ofW 2 ps else [] := by
    unfold selW
    by_cases hc : (ofW 2 ps).length = 1
    · rw [if_pos (.inr hc), if_pos hc]
    · rw [if_neg (fun h => by rcases h with h | h; exact h rfl; exact hc h), if_neg hc]
  unfold ord12 wantL
  simp only [List.flatMap_cons, List.flatMap_nil, List.append_nil]
  rw [h 1 (by decide), h2, h 4 (by decide), h 5 (by decide), h 6 (by decide), h 7 (by decide), h 3 (by decide)]
  simp only [List.append_assoc]
theorem flat_len {α β : Type} (f : α → List β) (n : Nat) (h : ∀ x, (f x).length ≤ n) : ∀ xs : List α, (xs.flatMap f).length ≤ n * xs.length
  | [] => by simp
  | x :: xs => by
    rw [List.flatMap_cons, List.length_append, List.length_cons, Nat.mul_add, Nat.mul_one]
    have := flat_len f n h xs
    have := h x
    omega
theorem ofW_le (w : Int) (ps : List Pc) : (ofW w ps).length ≤ ps.length := List.length_filter_le _ _
set_option maxRecDepth 100000 in
set_option maxHeartbeats 32000000 in
theorem opens12_walk (l : List Pc) (hl : l.length ≤ maxLen) (hb : ∀ p ∈ l, p.2.2.length ≤ maxLen) : Spec Tryz.prog 6 [.ca (.val (.lst 3 (l.map pcEl)))] [] (.ca (.val (vb true))) [] := by
  have ca := awake12
  have c0 := law_few12 l hl hb
  have hq := fewP_ok l
  have hq8 : (fewP l).length ≤ 8 := by unfold fewP; rw [List.length_map, List.length_take]; omega
  generalize fewP l = Q at *
  have c1 := ref_check12 Q hq
  have c2 := cmp_open Q hq
  obtain ⟨B, hB⟩ : ∃ B, B = openB Q := ⟨_, rfl⟩
  rw [← hB] at c2
  refine spec_of Tryz.func6 rfl Tryz.ntmps6 Tryz.results6 ⟨by decide, by simp⟩ fun C hC => ?_
  (repeat' ((fail_if_success (refine stop_reg 8 ?_)); (first | refine sp_ ?_ | exact ex0 | refine call_u Tryz.call8 (ca) [] ex1 ?_ | refine call_u Tryz.call15 (c0) [] ex1 ?_ | refine call_u Tryz.call21 (c2) [] ex1 ?_ | (refine ret_s [] ?_; simp (decide := true) (disch := omega) only [go_sem, ↓reduceIte, ↓put_at]))))
  refine bldZ_s _ 8 ti61 rfl rfl (by kernel_rfl) ?_
  simp only [List.map_cons, List.map_nil]
  (repeat' ((fail_if_success (refine stop_reg 8 ?_)); (first | refine sp_ ?_ | exact ex0 | (refine ret_s [] ?_; simp (decide := true) (disch := omega) only [go_sem, ↓reduceIte, ↓put_at]))))
  refine meetB_s (α := {_x : Unit // True}) (fun _ => [(.s 2, .av (.val (vb false))), (.s 3, .av (.val (.lst 3 (Q.map pcEl)))), (.s 4, .av (.val (.lst 3 (Q.map pcEl)))), (.s 5, .av (.ptr (5, 0) 0 0)), (.o (5, 0), .num 7), (.c (5, 0) 0, .av (.val (.lst 7 (B.reports.map r8El)))), (.c (5, 0) 1, .av (.val (.lst 2 (B.names.map n9El)))), (.c (5, 0) 2, .av (.val (.lst 2 (B.byes.map y9El)))), (.c (5, 0) 3, .av (.val (.lst 4 (B.apps.map a9El)))), (.c (5, 0) 4, .av (.val (.lst 3 (B.nacks.map n10El)))), (.c (5, 0) 5, .av (.val (.lst 2 (B.lines.map r11El)))), (.c (5, 0) 6, .av (.val (.lst 2 (B.ads.map s11El)))), (.s 6, .av (.ptr (6, 0) 0 0)), (.o (6, 0), .num 8), (.c (6, 0) 0, .av (.val (vi (ofW 0 (Q)).length))), (.c (6, 0) 1, .av (.val (vi (ofW 1 (Q)).length))), (.c (6, 0) 2, .av (.val (vi (ofW 2 (Q)).length))), (.c (6, 0) 3, .av (.val (vi (ofW 3 (Q)).length))), (.c (6, 0) 4, .av (.val (vi (ofW 4 (Q)).length))), (.c (6, 0) 5, .av (.val (vi (ofW 5 (Q)).length))), (.c (6, 0) 6, .av (.val (vi (ofW 6 (Q)).length))), (.c (6, 0) 7, .av (.val (vi (ofW 7 (Q)).length))), (.s 7, .av (.val (vi (cntN12 Q))))]) ?_ (fun x => ?_)
  · refine loop_s (α := {j : Nat // j ≤ Q.length}) (fun j => [(.s 2, .av (.val (vb false))), (.s 3, .av (.val (.lst 3 (Q.map pcEl)))), (.s 4, .av (.val (.lst 3 (Q.map pcEl)))), (.s 5, .av (.ptr (5, 0) 0 0)), (.o (5, 0), .num 7), (.c (5, 0) 0, .av (.val (.lst 7 (B.reports.map r8El)))), (.c (5, 0) 1, .av (.val (.lst 2 (B.names.map n9El)))), (.c (5, 0) 2, .av (.val (.lst 2 (B.byes.map y9El)))), (.c (5, 0) 3, .av (.val (.lst 4 (B.apps.map a9El)))), (.c (5, 0) 4, .av (.val (.lst 3 (B.nacks.map n10El)))), (.c (5, 0) 5, .av (.val (.lst 2 (B.lines.map r11El)))), (.c (5, 0) 6, .av (.val (.lst 2 (B.ads.map s11El)))), (.s 6, .av (.ptr (6, 0) 0 0)), (.o (6, 0), .num 8), (.c (6, 0) 0, .av (.val (vi (ofW 0 (Q.take j.1)).length))), (.c (6, 0) 1, .av (.val (vi (ofW 1 (Q.take j.1)).length))), (.c (6, 0) 2, .av (.val (vi (ofW 2 (Q.take j.1)).length))), (.c (6, 0) 3, .av (.val (vi (ofW 3 (Q.take j.1)).length))), (.c (6, 0) 4, .av (.val (vi (ofW 4 (Q.take j.1)).length))), (.c (6, 0) 5, .av (.val (vi (ofW 5 (Q.take j.1)).length))), (.c (6, 0) 6, .av (.val (vi (ofW 6 (Q.take j.1)).length))), (.c (6, 0) 7, .av (.val (vi (ofW 7 (Q.take j.1)).length))), (.s 7, .av (.val (vi (cntN12 (Q.take j.1))))), (.s 28, .av (.val (.lst 3 (Q.map pcEl)))), (.s 29, .av (.val (vi Q.length))), (.s 30, .av (.val (vi j.1)))]) (fun j => Q.length - j.1) ⟨0, Nat.zero_le _⟩ ?_ (fun j => ?_)
    · (try dsimp only)
      rw [List.take_zero]
      rw [show (ofW 0 []).length = 0 from rfl]
      rw [show (ofW 1 []).length = 0 from rfl]
      rw [show (ofW 2 []).length = 0 from rfl]
      rw [show (ofW 3 []).length = 0 from rfl]
      rw [show (ofW 4 []).length = 0 from rfl]
      rw [show (ofW 5 []).length = 0 from rfl]
      rw [show (ofW 6 []).length = 0 from rfl]
      rw [show (ofW 7 []).length = 0 from rfl]
      rw [show cntN12 [] = 0 from rfl]
      simp (decide := true) (disch := omega) only [go_sem, ↓reduceIte, ↓put_at]
    · obtain ⟨j, hj⟩ := j
      dsimp only at hj ⊢
      by_cases hlt : j < Q.length
      · have hge : (Q.map pcEl).getD j [] = pcEl Q[j] := by simp [hlt]
        have cw := ref_what Q[j] (hq.body _ (List.getElem_mem hlt))
        have hin := what_in Q[j]
        have hnc := names_cnt Q[j]
        have hcn := cntN_in (Q.take j)
        rw [List.length_take, Nat.min_eq_left hj] at hcn
        have ht : Q.take (j + 1) = Q.take j ++ [Q[j]] := List.take_succ_eq_append_getElem hlt
        have hcs := cntN12_snoc (Q.take j) Q[j]
        rw [← ht] at hcs
        have q0 := congrArg List.length (ofW_snoc 0 (Q.take j) Q[j])
        rw [← ht, List.length_append] at q0
        have i0 := ofW_le 0 (Q.take j)
        rw [List.length_take, Nat.min_eq_left hj] at i0
        have q1 := congrArg List.length (ofW_snoc 1 (Q.take j) Q[j])
        rw [← ht, List.length_append] at q1
        have i1 := ofW_le 1 (Q.take j)
        rw [List.length_take, Nat.min_eq_left hj] at i1
        have q2 := congrArg List.length (ofW_snoc 2 (Q.take j) Q[j])
        rw [← ht, List.length_append] at q2
        have i2 := ofW_le 2 (Q.take j)
        rw [List.length_take, Nat.min_eq_left hj] at i2
        have q3 := congrArg List.length (ofW_snoc 3 (Q.take j) Q[j])
        rw [← ht, List.length_append] at q3
        have i3 := ofW_le 3 (Q.take j)
        rw [List.length_take, Nat.min_eq_left hj] at i3
        have q4 := congrArg List.length (ofW_snoc 4 (Q.take j) Q[j])
        rw [← ht, List.length_append] at q4
        have i4 := ofW_le 4 (Q.take j)
        rw [List.length_take, Nat.min_eq_left hj] at i4
        have q5 := congrArg List.length (ofW_snoc 5 (Q.take j) Q[j])
        rw [← ht, List.length_append] at q5
        have i5 := ofW_le 5 (Q.take j)
        rw [List.length_take, Nat.min_eq_left hj] at i5
        have q6 := congrArg List.length (ofW_snoc 6 (Q.take j) Q[j])
        rw [← ht, List.length_append] at q6
        have i6 := ofW_le 6 (Q.take j)
        rw [List.length_take, Nat.min_eq_left hj] at i6
        have q7 := congrArg List.length (ofW_snoc 7 (Q.take j) Q[j])
        rw [← ht, List.length_append] at q7
        have i7 := ofW_le 7 (Q.take j)
        rw [List.length_take, Nat.min_eq_left hj] at i7
        clear ht c0 c1 c2 ca hB
        obtain ⟨cn2, hcn2⟩ : ∃ x, x = cntN12 (Q.take (j + 1)) := ⟨_, rfl⟩
        rw [← hcn2] at hcs
        generalize cntN12 (Q.take j) = cn1 at *
        obtain ⟨b0, hb0⟩ : ∃ x, x = (ofW 0 (Q.take (j + 1))).length := ⟨_, rfl⟩
        rw [← hb0] at q0
        generalize (ofW 0 (Q.take j)).length = a0 at *
        obtain ⟨b1, hb1⟩ : ∃ x, x = (ofW 1 (Q.take (j + 1))).length := ⟨_, rfl⟩
        rw [← hb1] at q1
        generalize (ofW 1 (Q.take j)).length = a1 at *
        obtain ⟨b2, hb2⟩ : ∃ x, x = (ofW 2 (Q.take (j + 1))).length := ⟨_, rfl⟩
        rw [← hb2] at q2
        generalize (ofW 2 (Q.take j)).length = a2 at *
        obtain ⟨b3, hb3⟩ : ∃ x, x = (ofW 3 (Q.take (j + 1))).length := ⟨_, rfl⟩
        rw [← hb3] at q3
        generalize (ofW 3 (Q.take j)).length = a3 at *
        obtain ⟨b4, hb4⟩ : ∃ x, x = (ofW 4 (Q.take (j + 1))).length := ⟨_, rfl⟩
        rw [← hb4] at q4
        generalize (ofW 4 (Q.take j)).length = a4 at *
        obtain ⟨b5, hb5⟩ : ∃ x, x = (ofW 5 (Q.take (j + 1))).length := ⟨_, rfl⟩
        rw [← hb5] at q5
        generalize (ofW 5 (Q.take j)).length = a5 at *
        obtain ⟨b6, hb6⟩ : ∃ x, x = (ofW 6 (Q.take (j + 1))).length := ⟨_, rfl⟩
        rw [← hb6] at q6
        generalize (ofW 6 (Q.take j)).length = a6 at *
        obtain ⟨b7, hb7⟩ : ∃ x, x = (ofW 7 (Q.take (j + 1))).length := ⟨_, rfl⟩
        rw [← hb7] at q7
        generalize (ofW 7 (Q.take j)).length = a7 at *
        generalize hw : whatP Q[j] = w at *
        have hcase : w = 0 ∨ w = 1 ∨ w = 2 ∨ w = 3 ∨ w = 4 ∨ w = 5 ∨ w = 6 ∨ w = 7 := by omega
        clear hin
        rcases hcase with rfl | rfl | rfl | rfl | rfl | rfl | rfl | rfl
        · rw [if_pos rfl] at q0
          rw [if_neg (by decide)] at q1
          rw [if_neg (by decide)] at q2
          rw [if_neg (by decide)] at q3
          rw [if_neg (by decide)] at q4
          rw [if_neg (by decide)] at q5
          rw [if_neg (by decide)] at q6
          rw [if_neg (by decide)] at q7
          rw [if_neg (by decide)] at hcs
          simp only [List.length_cons, List.length_nil, Nat.add_zero, Nat.zero_add] at q0 q1 q2 q3 q4 q5 q6 q7
          (repeat' ((first | refine sp_ ?_ | exact ex0 | refine call_u Tryz.call23 (cw) [] ex1 ?_ | (refine ret_s [] ?_; simp (decide := true) (disch := omega) only [go_sem, ↓reduceIte, ↓put_at]))))
          refine next_s (α := {j : Nat // j ≤ Q.length}) ⟨j + 1, hlt⟩ ⟨?_, by (try dsimp only); omega⟩
          (try dsimp only)
          rw [← hb0, ← hb1, ← hb2, ← hb3, ← hb4, ← hb5, ← hb6, ← hb7, ← hcn2]
          simp (decide := true) (disch := omega) only [go_sem, ↓reduceIte, ↓put_at]
          omega
        · rw [if_neg (by decide)] at q0
          rw [if_pos rfl] at q1
          rw [if_neg (by decide)] at q2
          rw [if_neg (by decide)] at q3
          rw [if_neg (by decide)] at q4
          rw [if_neg (by decide)] at q5
          rw [if_neg (by decide)] at q6
          rw [if_neg (by decide)] at q7
          rw [if_neg (by decide)] at hcs
          simp only [List.length_cons, List.length_nil, Nat.add_zero, Nat.zero_add] at q0 q1 q2 q3 q4 q5 q6 q7
          (repeat' ((first | refine sp_ ?_ | exact ex0 | refine call_u Tryz.call23 (cw) [] ex1 ?_ | (refine ret_s [] ?_; simp (decide := true) (disch := omega) only [go_sem, ↓reduceIte, ↓put_at]))))
          refine next_s (α := {j : Nat // j ≤ Q.length}) ⟨j + 1, hlt⟩ ⟨?_, by (try dsimp only); omega⟩
          (try dsimp only)
          rw [← hb0, ← hb1, ← hb2, ← hb3, ← hb4, ← hb5, ← hb6, ← hb7, ← hcn2]
          simp (decide := true) (disch := omega) only [go_sem, ↓reduceIte, ↓put_at]
          omega
        · have hnc2 := hnc rfl
          rw [if_neg (by decide)] at q0
          rw [if_neg (by decide)] at q1
          rw [if_pos rfl] at q2
          rw [if_neg (by decide)] at q3
          rw [if_neg (by decide)] at q4
          rw [if_neg (by decide)] at q5
          rw [if_neg (by decide)] at q6
          rw [if_neg (by decide)] at q7
          rw [if_pos rfl] at hcs
          simp only [List.length_cons, List.length_nil, Nat.add_zero, Nat.zero_add] at q0 q1 q2 q3 q4 q5 q6 q7
          (repeat' ((first | refine sp_ ?_ | exact ex0 | refine call_u Tryz.call23 (cw) [] ex1 ?_ | (refine ret_s [] ?_; simp (decide := true) (disch := omega) only [go_sem, ↓reduceIte, ↓put_at]))))
          refine next_s (α := {j : Nat // j ≤ Q.length}) ⟨j + 1, hlt⟩ ⟨?_, by (try dsimp only); omega⟩
          (try dsimp only)
          rw [← hb0, ← hb1, ← hb2, ← hb3, ← hb4, ← hb5, ← hb6, ← hb7, ← hcn2]
          simp (decide := true) (disch := omega) only [go_sem, ↓reduceIte, ↓put_at]
          omega
        · rw [if_neg (by decide)] at q0
          rw [if_neg (by decide)] at q1
          rw [if_neg (by decide)] at q2
          rw [if_pos rfl] at q3
          rw [if_neg (by decide)] at q4
          rw [if_neg (by decide)] at q5
          rw [if_neg (by decide)] at q6
          rw [if_neg (by decide)] at q7
          rw [if_neg (by decide)] at hcs
          simp only [List.length_cons, List.length_nil, Nat.add_zero, Nat.zero_add] at q0 q1 q2 q3 q4 q5 q6 q7
          (repeat' ((first | refine sp_ ?_ | exact ex0 | refine call_u Tryz.call23 (cw) [] ex1 ?_ | (refine ret_s [] ?_; simp (decide := true) (disch := omega) only [go_sem, ↓reduceIte, ↓put_at]))))
          refine next_s (α := {j : Nat // j ≤ Q.length}) ⟨j + 1, hlt⟩ ⟨?_, by (try dsimp only); omega⟩
          (try dsimp only)
          rw [← hb0, ← hb1, ← hb2, ← hb3, ← hb4, ← hb5, ← hb6, ← hb7, ← hcn2]
          simp (decide := true) (disch := omega) only [go_sem, ↓reduceIte, ↓put_at]
          omega
        · rw [if_neg (by decide)] at q0
          rw [if_neg (by decide)] at q1
          rw [if_neg (by decide)] at q2
          rw [if_neg (by decide)] at q3
          rw [if_pos rfl] at q4
          rw [if_neg (by decide)] at q5
          rw [if_neg (by decide)] at q6
          rw [if_neg (by decide)] at q7
          rw [if_neg (by decide)] at hcs
          simp only [List.length_cons, List.length_nil, Nat.add_zero, Nat.zero_add] at q0 q1 q2 q3 q4 q5 q6 q7
          (repeat' ((first | refine sp_ ?_ | exact ex0 | refine call_u Tryz.call23 (cw) [] ex1 ?_ | (refine ret_s [] ?_; simp (decide := true) (disch := omega) only [go_sem, ↓reduceIte, ↓put_at]))))
          refine next_s (α := {j : Nat // j ≤ Q.length}) ⟨j + 1, hlt⟩ ⟨?_, by (try dsimp only); omega⟩
          (try dsimp only)
          rw [← hb0, ← hb1, ← hb2, ← hb3, ← hb4, ← hb5, ← hb6, ← hb7, ← hcn2]
          simp (decide := true) (disch := omega) only [go_sem, ↓reduceIte, ↓put_at]
          omega
        · rw [if_neg (by decide)] at q0
          rw [if_neg (by decide)] at q1
          rw [if_neg (by decide)] at q2
          rw [if_neg (by decide)] at q3
          rw [if_neg (by decide)] at q4
          rw [if_pos rfl] at q5
          rw [if_neg (by decide)] at q6
          rw [if_neg (by decide)] at q7
          rw [if_neg (by decide)] at hcs
          simp only [List.length_cons, List.length_nil, Nat.add_zero, Nat.zero_add] at q0 q1 q2 q3 q4 q5 q6 q7
          (repeat' ((first | refine sp_ ?_ | exact ex0 | refine call_u Tryz.call23 (cw) [] ex1 ?_ | (refine ret_s [] ?_; simp (decide := true) (disch := omega) only [go_sem, ↓reduceIte, ↓put_at]))))
          refine next_s (α := {j : Nat // j ≤ Q.length}) ⟨j + 1, hlt⟩ ⟨?_, by (try dsimp only); omega⟩
          (try dsimp only)
          rw [← hb0, ← hb1, ← hb2, ← hb3, ← hb4, ← hb5, ← hb6, ← hb7, ← hcn2]
          simp (decide := true) (disch := omega) only [go_sem, ↓reduceIte, ↓put_at]
          omega
        · rw [if_neg (by decide)] at q0
          rw [if_neg (by decide)] at q1
          rw [if_neg (by decide)] at q2
          rw [if_neg (by decide)] at q3
          rw [if_neg (by decide)] at q4
          rw [if_neg (by decide)] at q5
          rw [if_pos rfl] at q6
          rw [if_neg (by decide)] at q7
          rw [if_neg (by decide)] at hcs
          simp only [List.length_cons, List.length_nil, Nat.add_zero, Nat.zero_add] at q0 q1 q2 q3 q4 q5 q6 q7
          (repeat' ((first | refine sp_ ?_ | exact ex0 | refine call_u Tryz.call23 (cw) [] ex1 ?_ | (refine ret_s [] ?_; simp (decide := true) (disch := omega) only [go_sem, ↓reduceIte, ↓put_at]))))
          refine next_s (α := {j : Nat // j ≤ Q.length}) ⟨j + 1, hlt⟩ ⟨?_, by (try dsimp only); omega⟩
          (try dsimp only)
          rw [← hb0, ← hb1, ← hb2, ← hb3, ← hb4, ← hb5, ← hb6, ← hb7, ← hcn2]
          simp (decide := true) (disch := omega) only [go_sem, ↓reduceIte, ↓put_at]
          omega
        · rw [if_neg (by decide)] at q0
          rw [if_neg (by decide)] at q1
          rw [if_neg (by decide)] at q2
          rw [if_neg (by decide)] at q3
          rw [if_neg (by decide)] at q4
          rw [if_neg (by decide)] at q5
          rw [if_neg (by decide)] at q6
          rw [if_pos rfl] at q7
          rw [if_neg (by decide)] at hcs
          simp only [List.length_cons, List.length_nil, Nat.add_zero, Nat.zero_add] at q0 q1 q2 q3 q4 q5 q6 q7
          (repeat' ((first | refine sp_ ?_ | exact ex0 | refine call_u Tryz.call23 (cw) [] ex1 ?_ | (refine ret_s [] ?_; simp (decide := true) (disch := omega) only [go_sem, ↓reduceIte, ↓put_at]))))
          refine next_s (α := {j : Nat // j ≤ Q.length}) ⟨j + 1, hlt⟩ ⟨?_, by (try dsimp only); omega⟩
          (try dsimp only)
          rw [← hb0, ← hb1, ← hb2, ← hb3, ← hb4, ← hb5, ← hb6, ← hb7, ← hcn2]
          simp (decide := true) (disch := omega) only [go_sem, ↓reduceIte, ↓put_at]
          omega
      · obtain rfl : j = Q.length := by omega
        simp only [List.take_length]
        (repeat' ((first | refine sp_ ?_ | exact ex0 | (refine ret_s [] ?_; simp (decide := true) (disch := omega) only [go_sem, ↓reduceIte, ↓put_at]))))
        refine at_meet ⟨(), trivial⟩ ?_
        simp (decide := true) (disch := omega) only [go_sem, ↓reduceIte, ↓put_at]
  clear x c0
  by_cases h0 : cmpE Q = 0
  · rw [h0] at c1
    obtain ⟨hf, hw, _⟩ := cmpE_zero.1 h0
    have hBe : B = bagOf Q := by rw [hB]; unfold openB; rw [if_pos h0]
    have hbk := bag_ok Q hw
    rw [← hBe] at hbk
    have f1 : B.reports.length = (ofW 1 Q).length := by rw [hbk]; simp
    have f2 : (B.names.length : Int) = cntN12 Q := by rw [cntN12_eq Q hw hf.2.1, hbk]
    have f3 : B.byes.length = (ofW 3 Q).length := by rw [hbk]; simp
    have f4 : B.apps.length = (ofW 4 Q).length := by rw [hbk]; simp
    have f5 : B.nacks.length = (ofW 5 Q).length := by rw [hbk]; simp
    have f6 : B.lines.length = (ofW 6 Q).length := by rw [hbk]; simp
    have f7 : B.ads.length = (ofW 7 Q).length := by rw [hbk]; simp
    have cp := cmp_pieces B (by rw [hBe]; exact bag_sound Q hq) (by rw [hBe]; exact bag_tiny Q (by omega))
    have g1 := got_one Q hw hf.2.1
    have g2 := got_many Q hw hf.2.1 hf.2.2.2
    have hcn := cntN12_eq Q hw hf.2.1
    rw [← hBe] at g1 g2
    have hN : (if ((ofW 2 Q).flatMap namesR).length ≤ 31 then 1 else 0 : Nat) = if cntN12 Q ≤ 31 then 1 else 0 := by
      by_cases h : cntN12 Q ≤ 31
      · rw [if_pos h, if_pos (by omega)]
      · rw [if_neg h, if_neg (by omega)]
    rw [hN] at g2
    have hci := cntN_in Q
    have hgl : (gotB B).length ≤ 1000 := by
      by_cases h2 : (ofW 2 Q).length = 1
      · rw [g1 h2]
        unfold wantL
        have k1 := ofW_le 1 Q; have k2 := ofW_le 2 Q; have k3 := ofW_le 3 Q; have k4 := ofW_le 4 Q; have k5 := ofW_le 5 Q; have k6 := ofW_le 6 Q; have k7 := ofW_le 7 Q
        simp only [List.length_append]
        rw [if_pos h2]
        omega
      · rw [g2 h2]
        unfold wantL
        have k1 := ofW_le 1 Q; have k3 := ofW_le 3 Q; have k4 := ofW_le 4 Q; have k5 := ofW_le 5 Q; have k6 := ofW_le 6 Q; have k7 := ofW_le 7 Q
        simp only [List.length_append]
        rw [if_neg h2, List.length_nil]
        split
        · omega
        · omega
    clear hN hcn hbk
    obtain ⟨ws, hws⟩ : ∃ ws, ws = ord12 := ⟨_, rfl⟩
    have hwl : ws.length = 7 := by rw [hws]; rfl
    have hwm : ws.map intEl = [[vi 1], [vi 2], [vi 4], [vi 5], [vi 6], [vi 7], [vi 3]] := by rw [hws]; rfl
    have hfin : ws.flatMap (selW Q) = wantL Q := by rw [hws]; exact sel_want Q
    clear hws
    (repeat' ((fail_if_success (first | refine stop_at 20 ?_ | refine stop_l 20 ?_)); (first | refine sp_ ?_ | exact ex0 | refine call_u Tryz.call16 (c1) [] ex1 ?_ | (refine ret_s [] ?_; simp (decide := true) (disch := omega) only [go_sem, ↓reduceIte, ↓put_at]))))
    refine own_s 11 (11, 9) 45 3 ?_
    simp (decide := true) (disch := omega) only [go_sem, ↓reduceIte, ↓put_at]
    (repeat' ((fail_if_success (refine stop_reg 21 ?_)); (first | refine sp_ ?_ | exact ex0 | (refine ret_s [] ?_; simp (decide := true) (disch := omega) only [go_sem, ↓reduceIte, ↓put_at]))))
    have hsel : ∀ w, selW Q w = if w ≠ 2 ∨ (ofW 2 Q).length = 1 then ofW w Q else [] := fun _ => rfl
    have hsl : ∀ w, (selW Q w).length ≤ 8 := fun w => by
      have := ofW_le w Q
      rw [hsel]
      split
      · omega
      · simp
    generalize hn2 : (ofW 2 Q).length = n2 at *
    generalize cntN12 Q = cn at *
    refine loop_s (α := {i : Nat // i ≤ 7}) (fun i => [(.s 2, .av (.val (vb false))), (.s 3, .av (.val (.lst 3 (Q.map pcEl)))), (.s 4, .av (.val (.lst 3 (Q.map pcEl)))), (.s 5, .av (.ptr (5, 0) 0 0)), (.o (5, 0), .num 7), (.c (5, 0) 0, .av (.val (.lst 7 (B.reports.map r8El)))), (.c (5, 0) 1, .av (.val (.lst 2 (B.names.map n9El)))), (.c (5, 0) 2, .av (.val (.lst 2 (B.byes.map y9El)))), (.c (5, 0) 3, .av (.val (.lst 4 (B.apps.map a9El)))), (.c (5, 0) 4, .av (.val (.lst 3 (B.nacks.map n10El)))), (.c (5, 0) 5, .av (.val (.lst 2 (B.lines.map r11El)))), (.c (5, 0) 6, .av (.val (.lst 2 (B.ads.map s11El)))), (.s 6, .av (.ptr (6, 0) 0 0)), (.o (6, 0), .num 8), (.c (6, 0) 2, .av (.val (vi n2))), (.s 7, .av (.val (vi cn))), (.s 11, .av (.own (11, 9) 0 45 3 (((ws.take i.1).flatMap (selW Q)).map pcEl))), (.k (11, 9), .row 45 3 (((ws.take i.1).flatMap (selW Q)).map pcEl).length), (.s 138, .av (.val (.lst 1 (ws.map intEl)))), (.s 139, .av (.val (vi 7))), (.s 140, .av (.val (vi i.1)))]) (fun i => 7 - i.1) ⟨0, by omega⟩ ?_ (fun i => ?_)
    · (try dsimp only)
      rw [hwm, List.take_zero]
      simp (decide := true) (disch := omega) only [go_sem, ↓reduceIte, ↓put_at]
    · obtain ⟨i, hi⟩ := i
      dsimp only at hi ⊢
      have hfl := flat_len (selW Q) 8 hsl (ws.take i)
      rw [List.length_take, hwl, Nat.min_eq_left hi] at hfl
      have hml : (((ws.take i).flatMap (selW Q)).map pcEl).length ≤ 8 * i := by rw [List.length_map]; exact hfl
      by_cases hlt : i < 7
      · have hlt2 : i < ws.length := by omega
        have hge : (ws.map intEl).getD i [] = [vi ws[i]] := by simp [hlt2, intEl]
        have hnx : ((ws.take (i + 1)).flatMap (selW Q)).map pcEl = ((ws.take i).flatMap (selW Q)).map pcEl ++ (selW Q ws[i]).map pcEl := by
          rw [List.take_succ_eq_append_getElem hlt2, List.flatMap_append, List.map_append]
          simp
        generalize ((ws.take i).flatMap (selW Q)).map pcEl = M0 at *
        generalize hwi : ws[i] = w at *
        have hnx2 := hnx
        rw [hsel w] at hnx2
        clear hnx
        (repeat' ((fail_if_success (refine stop_reg 24 ?_)); (first | refine sp_ ?_ | exact ex0 | (refine ret_s [] ?_; simp (decide := true) (disch := omega) only [go_sem, ↓reduceIte, ↓put_at]))))
        (try simp only [hwi])
        refine loop_s (α := {j : Nat // j ≤ Q.length}) (fun j => [(.s 2, .av (.val (vb false))), (.s 3, .av (.val (.lst 3 (Q.map pcEl)))), (.s 4, .av (.val (.lst 3 (Q.map pcEl)))), (.s 5, .av (.ptr (5, 0) 0 0)), (.o (5, 0), .num 7), (.c (5, 0) 0, .av (.val (.lst 7 (B.reports.map r8El)))), (.c (5, 0) 1, .av (.val (.lst 2 (B.names.map n9El)))), (.c (5, 0) 2, .av (.val (.lst 2 (B.byes.map y9El)))), (.c (5, 0) 3, .av (.val (.lst 4 (B.apps.map a9El)))), (.c (5, 0) 4, .av (.val (.lst 3 (B.nacks.map n10El)))), (.c (5, 0) 5, .av (.val (.lst 2 (B.lines.map r11El)))), (.c (5, 0) 6, .av (.val (.lst 2 (B.ads.map s11El)))), (.s 6, .av (.ptr (6, 0) 0 0)), (.o (6, 0), .num 8), (.c (6, 0) 2, .av (.val (vi n2))), (.s 7, .av (.val (vi cn))), (.s 11, .av (.own (11, 9) 0 45 3 (M0 ++ (if w ≠ 2 ∨ n2 = 1 then ofW w (Q.take j.1) else []).map pcEl))), (.k (11, 9), .row 45 3 (M0 ++ (if w ≠ 2 ∨ n2 = 1 then ofW w (Q.take j.1) else []).map pcEl).length), (.s 138, .av (.val (.lst 1 (ws.map intEl)))), (.s 139, .av (.val (vi 7))), (.s 140, .av (.val (vi i))), (.s 13, .av (.val (vi w))), (.s 144, .av (.val (.lst 3 (Q.map pcEl)))), (.s 145, .av (.val (vi Q.length))), (.s 146, .av (.val (vi j.1)))]) (fun j => Q.length - j.1) ⟨0, Nat.zero_le _⟩ ?_ (fun j => ?_)
        · (try dsimp only)
          rw [List.take_zero, show (if w ≠ 2 ∨ n2 = 1 then ofW w [] else []) = [] by split <;> rfl, List.map_nil, List.append_nil]
          simp (decide := true) (disch := omega) only [go_sem, ↓reduceIte, ↓put_at]
        · obtain ⟨j, hj⟩ := j
          dsimp only at hj ⊢
          have hel : ((if w ≠ 2 ∨ n2 = 1 then ofW w (Q.take j) else []).map pcEl).length ≤ 8 := by
            have := ofW_le w (Q.take j)
            rw [List.length_take] at this
            rw [List.length_map]
            split
            · omega
            · simp
          by_cases hlt3 : j < Q.length
          · have hge3 : (Q.map pcEl).getD j [] = pcEl Q[j] := by simp [hlt3]
            have cw := ref_what Q[j] (hq.body _ (List.getElem_mem hlt3))
            have hsn := ofW_snoc w (Q.take j) Q[j]
            rw [← List.take_succ_eq_append_getElem hlt3] at hsn
            by_cases hc : w ≠ 2 ∨ n2 = 1
            · have hc' := hc
              rw [if_pos hc] at hel
              by_cases hww : whatP Q[j] = w
              · rw [if_pos hww] at hsn
                have hM2 : M0 ++ (if w ≠ 2 ∨ n2 = 1 then ofW w (Q.take (j + 1)) else []).map pcEl = (M0 ++ (if w ≠ 2 ∨ n2 = 1 then ofW w (Q.take j) else []).map pcEl) ++ [pcEl Q[j]] := by
                  rw [if_pos hc, if_pos hc, hsn, List.map_append, List.append_assoc]
                  rfl
                have hMl : (M0 ++ (if w ≠ 2 ∨ n2 = 1 then ofW w (Q.take j) else []).map pcEl).length ≤ 100 := by rw [if_pos hc, List.length_append]; omega
                obtain ⟨M2, hM2e⟩ : ∃ x, x = M0 ++ (if w ≠ 2 ∨ n2 = 1 then ofW w (Q.take (j + 1)) else []).map pcEl := ⟨_, rfl⟩
                rw [← hM2e] at hM2
                generalize M0 ++ (if w ≠ 2 ∨ n2 = 1 then ofW w (Q.take j) else []).map pcEl = M1 at *
                rw [hww] at cw
                have hln : M2.length = M1.length + 1 := by rw [hM2, List.length_append]; rfl
                by_cases hw2 : w = 2
                · have hn1 : n2 = 1 := by omega
                  (repeat' ((first | refine sp_ ?_ | exact ex0 | refine call_u Tryz.call23 (cw) [] ex1 ?_ | (refine ret_s [] ?_; simp (decide := true) (disch := omega) only [go_sem, ↓reduceIte, ↓put_at]))))
                  refine next_s (α := {j : Nat // j ≤ Q.length}) ⟨j + 1, hlt3⟩ ⟨?_, by (try dsimp only); omega⟩
                  (try dsimp only)
                  rw [← hM2e, hM2]
                  simp (decide := true) (disch := omega) only [go_sem, ↓reduceIte, ↓put_at]
                  rw [← hln, hM2e, List.length_append, List.length_map]
                · (repeat' ((first | refine sp_ ?_ | exact ex0 | refine call_u Tryz.call23 (cw) [] ex1 ?_ | (refine ret_s [] ?_; simp (decide := true) (disch := omega) only [go_sem, ↓reduceIte, ↓put_at]))))
                  refine next_s (α := {j : Nat // j ≤ Q.length}) ⟨j + 1, hlt3⟩ ⟨?_, by (try dsimp only); omega⟩
                  (try dsimp only)
                  rw [← hM2e, hM2]
                  simp (decide := true) (disch := omega) only [go_sem, ↓reduceIte, ↓put_at]
                  rw [← hln, hM2e, List.length_append, List.length_map]
              · rw [if_neg hww, List.append_nil] at hsn
                generalize whatP Q[j] = v at *
                (repeat' ((first | refine sp_ ?_ | exact ex0 | refine call_u Tryz.call23 (cw) [] ex1 ?_ | (refine ret_s [] ?_; simp (decide := true) (disch := omega) only [go_sem, ↓reduceIte, ↓put_at]))))
                refine next_s (α := {j : Nat // j ≤ Q.length}) ⟨j + 1, hlt3⟩ ⟨?_, by (try dsimp only); omega⟩
                (try dsimp only)
                rw [hsn]
                simp (decide := true) (disch := omega) only [go_sem, ↓reduceIte, ↓put_at]
            · have hw2 : w = 2 := by omega
              have hn1 : ¬ n2 = 1 := by omega
              generalize whatP Q[j] = v at *
              have hE : ∀ k, (if w ≠ 2 ∨ n2 = 1 then ofW w (Q.take k) else []) = [] := fun k => by rw [if_neg hc]
              simp only [hE]
              by_cases hv : v = w
              · (repeat' ((first | refine sp_ ?_ | exact ex0 | refine call_u Tryz.call23 (cw) [] ex1 ?_ | (refine ret_s [] ?_; simp (decide := true) (disch := omega) only [go_sem, ↓reduceIte, ↓put_at]))))
                refine next_s (α := {j : Nat // j ≤ Q.length}) ⟨j + 1, hlt3⟩ ⟨?_, by (try dsimp only); omega⟩
                (try dsimp only)
                (try simp only [hE])
                simp (decide := true) (disch := omega) only [go_sem, ↓reduceIte, ↓put_at]
              · (repeat' ((first | refine sp_ ?_ | exact ex0 | refine call_u Tryz.call23 (cw) [] ex1 ?_ | (refine ret_s [] ?_; simp (decide := true) (disch := omega) only [go_sem, ↓reduceIte, ↓put_at]))))
                refine next_s (α := {j : Nat // j ≤ Q.length}) ⟨j + 1, hlt3⟩ ⟨?_, by (try dsimp only); omega⟩
                (try dsimp only)
                (try simp only [hE])
                simp (decide := true) (disch := omega) only [go_sem, ↓reduceIte, ↓put_at]
          · obtain rfl : j = Q.length := by omega
            simp only [List.take_length]
            rw [← hnx2]
            (repeat' ((first | refine sp_ ?_ | exact ex0 | (refine ret_s [] ?_; simp (decide := true) (disch := omega) only [go_sem, ↓reduceIte, ↓put_at]))))
            refine next_s (α := {i : Nat // i ≤ 7}) ⟨i + 1, by omega⟩ ⟨?_, by (try dsimp only); omega⟩
            simp (decide := true) (disch := omega) only [go_sem, ↓reduceIte, ↓put_at]
      · obtain rfl : i = 7 := by omega
        have hall : ws.take 7 = ws := List.take_of_length_le (by omega)
        rw [hall, hfin] at hml ⊢
        have hwl2 : (wantL Q).length ≤ 56 := by rw [List.length_map] at hml; omega
        have hgm : ((gotB B).map pcEl).length = (gotB B).length := List.length_map ..
        have hwm2 : ((wantL Q).map pcEl).length = (wantL Q).length := List.length_map ..
        by_cases h2 : n2 = 1
        · have hg := g1 h2
          rw [hg] at cp
          generalize wantL Q = W at *
          (repeat' ((fail_if_success (refine stop_reg 36 ?_)); (first | refine sp_ ?_ | exact ex0 | refine call_u Tryz.call24 (cp) [] ex1 ?_ | (refine ret_s [] ?_; simp (decide := true) (disch := omega) only [go_sem, ↓reduceIte, ↓put_at]))))
          refine loop_s (α := {i : Nat // i ≤ W.length}) (fun i => [(.s 2, .av (.val (vb false))), (.s 16, .av (.val (.lst 3 (W.map pcEl)))), (.s 11, .av (.val (.lst 3 (W.map pcEl)))), (.s 205, .av (.val (vi W.length))), (.s 206, .av (.val (vi i.1)))]) (fun i => W.length - i.1) ⟨0, Nat.zero_le _⟩ ?_ (fun i => ?_)
          · simp (decide := true) (disch := omega) only [go_sem, ↓reduceIte, ↓put_at]
          · obtain ⟨i, hi2⟩ := i
            dsimp only at hi2 ⊢
            by_cases hlt4 : i < W.length
            · have hge4 : (W.map pcEl).getD i [] = pcEl W[i] := by simp [hlt4]
              have hcm := pp_ne W[i].1 W[i].1 W[i].2.1 W[i].2.1 W[i].2.2 W[i].2.2
              rw [decide_eq_true ⟨rfl, rfl, rfl⟩] at hcm
              (repeat' ((first | refine sp_ ?_ | exact ex0 | (refine ret_s [] ?_; simp (decide := true) (disch := omega) only [go_sem, ↓reduceIte, ↓put_at]))))
              refine cmpA_s _ _ _ (.inr rfl) (by simp (decide := true) (disch := omega) only [go_sem, ↓reduceIte, ↓put_at]) (by simp (decide := true) (disch := omega) only [go_sem, ↓reduceIte, ↓put_at]) (by kernel_rfl) hcm ?_
              (repeat' ((first | refine sp_ ?_ | exact ex0 | (refine ret_s [] ?_; simp (decide := true) (disch := omega) only [go_sem, ↓reduceIte, ↓put_at]))))
              refine next_s (α := {i : Nat // i ≤ W.length}) ⟨i + 1, hlt4⟩ ⟨?_, by (try dsimp only); omega⟩
              simp (decide := true) (disch := omega) only [go_sem, ↓reduceIte, ↓put_at]
            · (repeat' ((first | refine sp_ ?_ | exact ex0 | (refine ret_s [] ?_; simp (decide := true) (disch := omega) only [go_sem, ↓reduceIte, ↓put_at]))))
        · have hg := g2 h2
          by_cases h31 : cn ≤ 31
          · rw [if_pos h31] at hg
            generalize wantL Q = W at *
            generalize gotB B = G at *
            (repeat' ((first | refine sp_ ?_ | exact ex0 | refine call_u Tryz.call24 (cp) [] ex1 ?_ | (refine ret_s [] ?_; simp (decide := true) (disch := omega) only [go_sem, ↓reduceIte, ↓put_at]))))
          · rw [if_neg h31] at hg
            generalize wantL Q = W at *
            generalize gotB B = G at *
            (repeat' ((first | refine sp_ ?_ | exact ex0 | refine call_u Tryz.call24 (cp) [] ex1 ?_ | (refine ret_s [] ?_; simp (decide := true) (disch := omega) only [go_sem, ↓reduceIte, ↓put_at]))))
  · have hBe : B = noBag := by rw [hB]; exact openB_err Q h0
    subst hBe
    have cp := cmp_pieces noBag ⟨by simp [noBag], by simp [noBag], by simp [noBag], by simp [noBag], by simp [noBag], by simp [noBag], by simp [noBag]⟩ ⟨by decide, by decide, by decide, by decide, by decide, by decide, by decide⟩
    rw [show gotB noBag = [] from rfl] at cp
    unfold noBag at *
    simp only [List.map_nil] at cp ⊢
    generalize cmpE Q = z at *
    (repeat' ((first | refine sp_ ?_ | exact ex0 | refine call_u Tryz.call16 (c1) [] ex1 ?_ | refine call_u Tryz.call24 (cp) [] ex1 ?_ | (refine ret_s [] ?_; simp (decide := true) (disch := omega) only [go_sem, ↓reduceIte, ↓put_at]))))
end Go.Proofs.YtjkmnjmmnjhacaaGreat

