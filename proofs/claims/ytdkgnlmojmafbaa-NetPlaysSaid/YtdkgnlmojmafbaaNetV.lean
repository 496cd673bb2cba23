
/- Package net: the law that it is the document's; walked. -/
import Derived.Test.YtdkgnlmojmafbaaNetU
namespace Go.Proofs.Ytdkgnlmojmafbaa
open Go.RowKit
set_option linter.unusedVariables false
set_option linter.unusedSimpArgs false

theorem doZ_cfg (Z : X28) (a : A28) : (doZ Z a).most = Z.most ∧ (doZ Z a).bytes = Z.bytes := by
  unfold doZ sendZ takeZ loseZ twinZ turnZ forgeZ cutZ putX
  (repeat' split) <;> exact ⟨rfl, rfl⟩
theorem Rel.mono {N : N28} {Z : X28} {k k' : Nat} (h : Rel N Z k) (hk : k ≤ k') : Rel N Z k' :=
  ⟨h.ok.mono (by omega), h.most, h.bytes, h.bag, Nat.le_trans h.len hk, h.ds, h.e1, h.e2, h.e3, h.e4, h.e5, h.e6⟩
theorem rel_new (a b : Int) : Rel (newB a b) ⟨max 1 (min a 1024), max 1 (min b 16777216), [], 0, 0, 0, 0, 0, 0⟩ 0 :=
  ⟨newB_ok a b, rfl, rfl, fun l => rfl, Nat.le_refl _, (fun o h => by cases h), rfl, rfl, rfl, rfl, rfl, rfl⟩
theorem getB_perm {m m' : Bags} (hp : m.Perm m') (hn : (m.map (·.1)).Nodup) (l : Ln) : getB m l = getB m' l := by
  have hn' : (m'.map (·.1)).Nodup := (hp.map _).nodup_iff.1 hn
  cases h : getB m l with
  | some b => exact (getB_of hn' (hp.mem_iff.1 (getB_mem h))).symm
  | none =>
    cases h' : getB m' l with
    | none => rfl
    | some b => have := getB_of hn (hp.symm.mem_iff.1 (getB_mem h')); rw [h] at this; cases this
theorem Rel.like {N N' : N28} {Z : X28} {k : Nat} (h : Rel N Z k) (hl : likeN N N') : Rel N' Z k := by
  obtain ⟨he, hp⟩ := hl
  have hn : (N'.m.map (·.1)).Nodup := (hp.map _).nodup_iff.2 h.ok.nd
  obtain ⟨m, hm⟩ : ∃ m, m = N'.m := ⟨_, rfl⟩
  rw [← hm] at he hp hn
  subst he
  refine ⟨⟨h.ok.most, h.ok.bytes, hn, fun p hpm => h.ok.bags p (hp.mem_iff.1 hpm), h.ok.c1, h.ok.c2, h.ok.c3, h.ok.c4, h.ok.c5, h.ok.c6⟩, h.most, h.bytes, fun l => ?_, h.len, h.ds, h.e1, h.e2, h.e3, h.e4, h.e5, h.e6⟩
  rw [← h.bag l]
  unfold bagB
  rw [getB_perm hp hn l]
set_option maxRecDepth 100000 in
set_option maxHeartbeats 8000000 in
theorem plays_walk28 (most bytes : Int) (acts more : List A28) (hl : acts.length ≤ maxLen) (hl2 : more.length ≤ maxLen) (ha : ∀ a ∈ acts, a.d.length ≤ maxLen ∧ 0 ≤ a.m ∧ a.m < 4294967296) (hb : ∀ a ∈ more, a.d.length ≤ maxLen ∧ 0 ≤ a.m ∧ a.m < 4294967296) :
    Spec Try.prog 3 [.ca (.val (.agg [vi most, vi bytes, .lst 7 (acts.map aEl), .lst 7 (more.map aEl)]))] [] (.ca (.val (vb true))) [] := by
  have c0 := net_awake
  have cn := net_new most bytes
  have cx := rx_new most bytes
  have ck := net_clip most bytes
  have hR := rel_new most bytes
  obtain ⟨mo, hmo⟩ : ∃ x, x = max 1 (min most 1024) := ⟨_, rfl⟩
  obtain ⟨bo, hbo⟩ : ∃ x, x = max 1 (min bytes 16777216) := ⟨_, rfl⟩
  rw [← hmo, ← hbo] at ck cx hR
  obtain ⟨Z0, hZ0⟩ : ∃ x : X28, x = ⟨mo, bo, [], 0, 0, 0, 0, 0, 0⟩ := ⟨_, rfl⟩
  have hZm : Z0.most = mo ∧ Z0.bytes = bo := by rw [hZ0]; exact ⟨rfl, rfl⟩
  rw [← hZ0] at cx hR
  clear hZ0 hmo hbo
  generalize newB most bytes = N0 at *
  refine spec_of Try.func3 rfl Try.ntmps3 Try.results3 ⟨by decide, by simp⟩ fun C hC => ?_
  (repeat' ((fail_if_success (refine stop_reg 8 ?_)); (first | refine sp_ ?_ | exact ex0 | refine call_u Try.call4 (c0) [] ex1 ?_ | refine call_u Try.call5 (cn) [] ex1 ?_ | refine call_u Try.call6 (cx) [] ex1 ?_ | refine pnil_u (by first | exact .inl rfl | exact .inr rfl) (by simp (decide := true) (disch := omega) only [go_sem, ↓reduceIte, ↓put_at]; first | done | assumption | omega) ?_ | (refine ret_s [] ?_; simp (decide := true) (disch := omega) only [go_sem, ↓reduceIte, ↓put_at]))))
  clear c0 cn cx
  (repeat' ((fail_if_success (refine stop_reg 9 ?_)); (first | refine sp_ ?_ | exact ex0 | (refine ret_s [] ?_; simp (decide := true) (disch := omega) only [go_sem, ↓reduceIte, ↓put_at]))))
  refine meetB_s (α := {x : N28 × X28 // Rel x.1 x.2 30 ∧ x.2.most = mo ∧ x.2.bytes = bo}) (fun x => [(.s 3, .av (.val (vi most))), (.s 4, .av (.val (vi bytes))), (.s 6, .av (.val (.lst 7 (more.map aEl)))), (.o (28, 0), .num 9), (.c (28, 0) 0, .av (.val (vi x.1.1.most))), (.c (28, 0) 1, .av (.val (vi x.1.1.bytes))), (.c (28, 0) 2, .av (.ref (28, 3) 0)), (.c (28, 0) 3, .av (.val (vi x.1.1.sent))), (.c (28, 0) 4, .av (.val (vi x.1.1.lost))), (.c (28, 0) 5, .av (.val (vi x.1.1.taken))), (.c (28, 0) 6, .av (.val (vi x.1.1.twins))), (.c (28, 0) 7, .av (.val (vi x.1.1.turned))), (.c (28, 0) 8, .av (.val (vi x.1.1.forged))), (.r (28, 3), .tree (.mp (kvB 9 x.1.1.m))), (.s 7, .av (.ptr (28, 0) 0 0)), (.o (8, 0), .num 9), (.c (8, 0) 0, .av (.val (vi x.1.2.most))), (.c (8, 0) 1, .av (.val (vi x.1.2.bytes))), (.c (8, 0) 2, .av (.val (.lst 3 (x.1.2.l.map oEl)))), (.c (8, 0) 3, .av (.val (vi x.1.2.sent))), (.c (8, 0) 4, .av (.val (vi x.1.2.lost))), (.c (8, 0) 5, .av (.val (vi x.1.2.taken))), (.c (8, 0) 6, .av (.val (vi x.1.2.twins))), (.c (8, 0) 7, .av (.val (vi x.1.2.turned))), (.c (8, 0) 8, .av (.val (vi x.1.2.forged))), (.s 8, .av (.ptr (8, 0) 0 0))]) ?_ (fun x => ?_)
  · refine loop_s (α := {x : Nat × N28 × X28 // x.1 ≤ acts.length ∧ x.1 ≤ 30 ∧ Rel x.2.1 x.2.2 x.1 ∧ x.2.2.most = mo ∧ x.2.2.bytes = bo}) (fun x => [(.s 3, .av (.val (vi most))), (.s 4, .av (.val (vi bytes))), (.s 5, .av (.val (.lst 7 (acts.map aEl)))), (.s 6, .av (.val (.lst 7 (more.map aEl)))), (.o (28, 0), .num 9), (.c (28, 0) 0, .av (.val (vi x.1.2.1.most))), (.c (28, 0) 1, .av (.val (vi x.1.2.1.bytes))), (.c (28, 0) 2, .av (.ref (28, 3) 0)), (.c (28, 0) 3, .av (.val (vi x.1.2.1.sent))), (.c (28, 0) 4, .av (.val (vi x.1.2.1.lost))), (.c (28, 0) 5, .av (.val (vi x.1.2.1.taken))), (.c (28, 0) 6, .av (.val (vi x.1.2.1.twins))), (.c (28, 0) 7, .av (.val (vi x.1.2.1.turned))), (.c (28, 0) 8, .av (.val (vi x.1.2.1.forged))), (.r (28, 3), .tree (.mp (kvB 9 x.1.2.1.m))), (.s 7, .av (.ptr (28, 0) 0 0)), (.o (8, 0), .num 9), (.c (8, 0) 0, .av (.val (vi x.1.2.2.most))), (.c (8, 0) 1, .av (.val (vi x.1.2.2.bytes))), (.c (8, 0) 2, .av (.val (.lst 3 (x.1.2.2.l.map oEl)))), (.c (8, 0) 3, .av (.val (vi x.1.2.2.sent))), (.c (8, 0) 4, .av (.val (vi x.1.2.2.lost))), (.c (8, 0) 5, .av (.val (vi x.1.2.2.taken))), (.c (8, 0) 6, .av (.val (vi x.1.2.2.twins))), (.c (8, 0) 7, .av (.val (vi x.1.2.2.turned))), (.c (8, 0) 8, .av (.val (vi x.1.2.2.forged))), (.s 8, .av (.ptr (8, 0) 0 0)), (.s 10, .av (.val (vi x.1.1)))]) (fun x => 30 - x.1.1) ⟨(0, N0, Z0), Nat.zero_le _, by simp, hR, hZm.1, hZm.2⟩ ?_ (fun x => ?_)
    · simp (decide := true) (disch := omega) only [go_sem, ↓reduceIte, ↓put_at]
    · obtain ⟨⟨i, N, Z⟩, h1, h2, h3, h4, h5⟩ := x
      dsimp only at h1 h2 h3 h4 h5 ⊢
      by_cases hlt : i < acts.length
      · by_cases hlt2 : i < 30
        · have hge : (acts.map aEl).getD i [] = aEl acts[i] := by simp [hlt]
          obtain ⟨q1, q2⟩ := ha _ (List.getElem_mem hlt)
          have c := do_walk N Z i acts[i] h3 (by omega) q1 q2
          have h6 := h3.do acts[i]
          have c2 := is_walk _ _ _ h6 (by omega)
          obtain ⟨g1, g2⟩ := doZ_cfg Z acts[i]
          rw [h4] at g1
          rw [h5] at g2
          generalize doB N acts[i] = N1 at *
          generalize doZ Z acts[i] = Z1 at *
          (repeat' ((first | refine sp_ ?_ | exact ex0 | refine call_u Try.call7 (c) [(28, 0)] ex1 ?_ | refine call_u Try.call8 (c2) [(28, 0)] ex1 ?_ | (refine ret_s [] ?_; simp (decide := true) (disch := omega) only [go_sem, ↓reduceIte, ↓put_at]))))
          refine next_s (α := {x : Nat × N28 × X28 // x.1 ≤ acts.length ∧ x.1 ≤ 30 ∧ Rel x.2.1 x.2.2 x.1 ∧ x.2.2.most = mo ∧ x.2.2.bytes = bo}) ⟨(i + 1, N1, Z1), hlt, hlt2, h6, g1, g2⟩ ⟨?_, by (try dsimp only); omega⟩
          (try dsimp only)
          simp (decide := true) (disch := omega) only [go_sem, ↓reduceIte, ↓put_at]
        · (repeat' ((first | refine sp_ ?_ | exact ex0 | (refine ret_s [] ?_; simp (decide := true) (disch := omega) only [go_sem, ↓reduceIte, ↓put_at]))))
          refine at_meet ⟨(N, Z), h3.mono (by omega), h4, h5⟩ ?_
          simp (decide := true) (disch := omega) only [go_sem, ↓reduceIte, ↓put_at]
      · (repeat' ((first | refine sp_ ?_ | exact ex0 | (refine ret_s [] ?_; simp (decide := true) (disch := omega) only [go_sem, ↓reduceIte, ↓put_at]))))
        refine at_meet ⟨(N, Z), h3.mono (by omega), h4, h5⟩ ?_
        simp (decide := true) (disch := omega) only [go_sem, ↓reduceIte, ↓put_at]
  obtain ⟨⟨N, Z⟩, h3, h4, h5⟩ := x
  dsimp only at h3 h4 h5 ⊢
  clear hR hZm
  have cc := net_clone N h3.ok
  subst h4 h5
  (repeat' ((fail_if_success (refine stop_reg 15 ?_)); (first | refine sp_ ?_ | exact ex0 | refine call_u Try.call9 (cc) [(28, 0)] ex1 ?_ | (refine ret_s [] ?_; simp (decide := true) (disch := omega) only [go_sem, ↓reduceIte, ↓put_at]))))
  refine opm_s (63, 3) (kvB 9 N.m) (by simp (decide := true) (disch := omega) only [go_sem, ↓reduceIte, ↓put_at]) (fun kvs' hp => ?_)
  obtain ⟨m', rfl, hp'⟩ := kvB_perm hp
  have hR2 := h3.like (N' := { N with m := m' }) ⟨rfl, hp'⟩
  clear cc hp
  (repeat' ((fail_if_success (refine stop_reg 18 ?_)); (first | refine sp_ ?_ | exact ex0 | refine pnil_u (by first | exact .inl rfl | exact .inr rfl) (by simp (decide := true) (disch := omega) only [go_sem, ↓reduceIte, ↓put_at]; first | done | assumption | omega) ?_ | (refine ret_s [] ?_; simp (decide := true) (disch := omega) only [go_sem, ↓reduceIte, ↓put_at]))))
  refine meetB_s (α := {x : N28 × X28 // Rel x.1 x.2 45}) (fun x => [(.s 3, .av (.val (vi most))), (.s 4, .av (.val (vi bytes))), (.o (28, 0), .num 9), (.c (28, 0) 0, .av (.val (vi N.most))), (.c (28, 0) 1, .av (.val (vi N.bytes))), (.c (28, 0) 2, .av (.ref (28, 3) 0)), (.c (28, 0) 3, .av (.val (vi N.sent))), (.c (28, 0) 4, .av (.val (vi N.lost))), (.c (28, 0) 5, .av (.val (vi N.taken))), (.c (28, 0) 6, .av (.val (vi N.twins))), (.c (28, 0) 7, .av (.val (vi N.turned))), (.c (28, 0) 8, .av (.val (vi N.forged))), (.r (28, 3), .tree (.mp (kvB 9 N.m))), (.s 7, .av (.ptr (28, 0) 0 0)), (.o (8, 0), .num 9), (.c (8, 0) 0, .av (.val (vi Z.most))), (.c (8, 0) 1, .av (.val (vi Z.bytes))), (.c (8, 0) 2, .av (.val (.lst 3 (Z.l.map oEl)))), (.c (8, 0) 3, .av (.val (vi Z.sent))), (.c (8, 0) 4, .av (.val (vi Z.lost))), (.c (8, 0) 5, .av (.val (vi Z.taken))), (.c (8, 0) 6, .av (.val (vi Z.twins))), (.c (8, 0) 7, .av (.val (vi Z.turned))), (.c (8, 0) 8, .av (.val (vi Z.forged))), (.s 8, .av (.ptr (8, 0) 0 0)), (.o (63, 0), .num 9), (.c (63, 0) 0, .av (.val (vi x.1.1.most))), (.c (63, 0) 1, .av (.val (vi x.1.1.bytes))), (.c (63, 0) 2, .av (.ref (63, 3) 0)), (.c (63, 0) 3, .av (.val (vi x.1.1.sent))), (.c (63, 0) 4, .av (.val (vi x.1.1.lost))), (.c (63, 0) 5, .av (.val (vi x.1.1.taken))), (.c (63, 0) 6, .av (.val (vi x.1.1.twins))), (.c (63, 0) 7, .av (.val (vi x.1.1.turned))), (.c (63, 0) 8, .av (.val (vi x.1.1.forged))), (.r (63, 3), .tree (.mp (kvB 9 x.1.1.m))), (.s 11, .av (.ptr (63, 0) 0 0)), (.o (12, 0), .num 9), (.c (12, 0) 0, .av (.val (vi x.1.2.most))), (.c (12, 0) 1, .av (.val (vi x.1.2.bytes))), (.c (12, 0) 2, .av (.val (.lst 3 (x.1.2.l.map oEl)))), (.c (12, 0) 3, .av (.val (vi x.1.2.sent))), (.c (12, 0) 4, .av (.val (vi x.1.2.lost))), (.c (12, 0) 5, .av (.val (vi x.1.2.taken))), (.c (12, 0) 6, .av (.val (vi x.1.2.twins))), (.c (12, 0) 7, .av (.val (vi x.1.2.turned))), (.c (12, 0) 8, .av (.val (vi x.1.2.forged))), (.s 12, .av (.ptr (12, 0) 0 0))]) ?_ (fun x => ?_)
  · refine loop_s (α := {x : Nat × N28 × X28 // x.1 ≤ more.length ∧ x.1 ≤ 15 ∧ Rel x.2.1 x.2.2 (30 + x.1)}) (fun x => [(.s 3, .av (.val (vi most))), (.s 4, .av (.val (vi bytes))), (.s 6, .av (.val (.lst 7 (more.map aEl)))), (.o (28, 0), .num 9), (.c (28, 0) 0, .av (.val (vi N.most))), (.c (28, 0) 1, .av (.val (vi N.bytes))), (.c (28, 0) 2, .av (.ref (28, 3) 0)), (.c (28, 0) 3, .av (.val (vi N.sent))), (.c (28, 0) 4, .av (.val (vi N.lost))), (.c (28, 0) 5, .av (.val (vi N.taken))), (.c (28, 0) 6, .av (.val (vi N.twins))), (.c (28, 0) 7, .av (.val (vi N.turned))), (.c (28, 0) 8, .av (.val (vi N.forged))), (.r (28, 3), .tree (.mp (kvB 9 N.m))), (.s 7, .av (.ptr (28, 0) 0 0)), (.o (8, 0), .num 9), (.c (8, 0) 0, .av (.val (vi Z.most))), (.c (8, 0) 1, .av (.val (vi Z.bytes))), (.c (8, 0) 2, .av (.val (.lst 3 (Z.l.map oEl)))), (.c (8, 0) 3, .av (.val (vi Z.sent))), (.c (8, 0) 4, .av (.val (vi Z.lost))), (.c (8, 0) 5, .av (.val (vi Z.taken))), (.c (8, 0) 6, .av (.val (vi Z.twins))), (.c (8, 0) 7, .av (.val (vi Z.turned))), (.c (8, 0) 8, .av (.val (vi Z.forged))), (.s 8, .av (.ptr (8, 0) 0 0)), (.o (63, 0), .num 9), (.c (63, 0) 0, .av (.val (vi x.1.2.1.most))), (.c (63, 0) 1, .av (.val (vi x.1.2.1.bytes))), (.c (63, 0) 2, .av (.ref (63, 3) 0)), (.c (63, 0) 3, .av (.val (vi x.1.2.1.sent))), (.c (63, 0) 4, .av (.val (vi x.1.2.1.lost))), (.c (63, 0) 5, .av (.val (vi x.1.2.1.taken))), (.c (63, 0) 6, .av (.val (vi x.1.2.1.twins))), (.c (63, 0) 7, .av (.val (vi x.1.2.1.turned))), (.c (63, 0) 8, .av (.val (vi x.1.2.1.forged))), (.r (63, 3), .tree (.mp (kvB 9 x.1.2.1.m))), (.s 11, .av (.ptr (63, 0) 0 0)), (.o (12, 0), .num 9), (.c (12, 0) 0, .av (.val (vi x.1.2.2.most))), (.c (12, 0) 1, .av (.val (vi x.1.2.2.bytes))), (.c (12, 0) 2, .av (.val (.lst 3 (x.1.2.2.l.map oEl)))), (.c (12, 0) 3, .av (.val (vi x.1.2.2.sent))), (.c (12, 0) 4, .av (.val (vi x.1.2.2.lost))), (.c (12, 0) 5, .av (.val (vi x.1.2.2.taken))), (.c (12, 0) 6, .av (.val (vi x.1.2.2.twins))), (.c (12, 0) 7, .av (.val (vi x.1.2.2.turned))), (.c (12, 0) 8, .av (.val (vi x.1.2.2.forged))), (.s 12, .av (.ptr (12, 0) 0 0)), (.s 13, .av (.val (vi x.1.1)))]) (fun x => 15 - x.1.1) ⟨(0, { N with m := m' }, Z), Nat.zero_le _, by simp, hR2⟩ ?_ (fun x => ?_)
    · simp (decide := true) (disch := omega) only [go_sem, ↓reduceIte, ↓put_at]
    · obtain ⟨⟨i, N2, Z2⟩, h1, h2, h6⟩ := x
      dsimp only at h1 h2 h6 ⊢
      by_cases hlt : i < more.length
      · by_cases hlt2 : i < 15
        · have hge : (more.map aEl).getD i [] = aEl more[i] := by simp [hlt]
          obtain ⟨q1, q2⟩ := hb _ (List.getElem_mem hlt)
          have c := do_walk N2 Z2 (30 + i) more[i] h6 (by omega) q1 q2
          have h7 := h6.do more[i]
          generalize doB N2 more[i] = N1 at *
          generalize doZ Z2 more[i] = Z1 at *
          (repeat' ((first | refine sp_ ?_ | exact ex0 | refine call_u Try.call7 (c) [(63, 0)] ex1 ?_ | (refine ret_s [] ?_; simp (decide := true) (disch := omega) only [go_sem, ↓reduceIte, ↓put_at]))))
          refine next_s (α := {x : Nat × N28 × X28 // x.1 ≤ more.length ∧ x.1 ≤ 15 ∧ Rel x.2.1 x.2.2 (30 + x.1)}) ⟨(i + 1, N1, Z1), hlt, hlt2, h7⟩ ⟨?_, by (try dsimp only); omega⟩
          (try dsimp only)
          simp (decide := true) (disch := omega) only [go_sem, ↓reduceIte, ↓put_at]
        · (repeat' ((first | refine sp_ ?_ | exact ex0 | (refine ret_s [] ?_; simp (decide := true) (disch := omega) only [go_sem, ↓reduceIte, ↓put_at]))))
          refine at_meet ⟨(N2, Z2), h6.mono (by omega)⟩ ?_
          simp (decide := true) (disch := omega) only [go_sem, ↓reduceIte, ↓put_at]
      · (repeat' ((first | refine sp_ ?_ | exact ex0 | (refine ret_s [] ?_; simp (decide := true) (disch := omega) only [go_sem, ↓reduceIte, ↓put_at]))))
        refine at_meet ⟨(N2, Z2), h6.mono (by omega)⟩ ?_
        simp (decide := true) (disch := omega) only [go_sem, ↓reduceIte, ↓put_at]
  obtain ⟨⟨N2, Z2⟩, h6⟩ := x
  dsimp only at h6 ⊢
  have c1 := is_walk N Z 30 h3 (by omega)
  have c2 := is_walk N2 Z2 45 h6 (by omega)
  (repeat' ((first | refine sp_ ?_ | exact ex0 | refine call_u Try.call10 (ck) [] ex1 ?_ | refine call_u Try.call8 (c1) [(28, 0)] ex1 ?_ | refine call_u Try.call8 (c2) [(63, 0)] ex1 ?_ | (refine ret_s [] ?_; simp (decide := true) (disch := omega) only [go_sem, ↓reduceIte, ↓put_at]))))
end Go.Proofs.Ytdkgnlmojmafbaa
