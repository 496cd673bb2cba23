
/- The statement BufferRises of layer 24, walked. -/
import Derived.Test.YtekpaepkoeelfaaRisM
import Derived.Test.YtekpaepkoeelfaaSeeU
namespace Go.Proofs.Ytekpaepkoeelfaa
open Go.RowKit
set_option linter.unusedVariables false
set_option linter.unusedSimpArgs false

/-- What is over lies behind the horizon; so does what was played last. -/
structure RisI (K : Int) (b : Bu) (last : Int) (s : List Nat) : Prop where
  ok : b.Ok K
  l0 : -1 ≤ last
  l1 : last ≤ b.hz
  ov : ∀ t ∈ s, (t : Int) ≤ b.hz
set_option maxRecDepth 100000 in
set_option maxHeartbeats 8000000 in
theorem rises24 (a b c : Int) (l : List A24) (hl : l.length ≤ maxLen) (hq : ∀ a ∈ l, a.Ok) : Spec Try.prog 4 [.ca (.val (.agg [vi a, vi b, vi c])), .ca (.val (.lst 8 (l.map a24El)))] [] (.ca (.val (vb true))) [] := by
  unfold maxLen at hl
  have c0 := awake24
  have c1 := buf_new a b c
  have hok := newB24_ok a b c
  have hb0 : (newB24 a b c).hz = -1 := rfl
  generalize newB24 a b c = b0 at *
  refine spec_of Try.func4 rfl Try.ntmps4 Try.results4 ⟨by decide, by simp⟩ fun C hC => ?_
  (repeat' ((fail_if_success (refine stop_reg 9 ?_)); (first | refine sp_ ?_ | exact ex0 | refine call_u Try.call7 (c0) [] ex1 ?_ | refine call_u Try.call8 (c1) [] ex1 ?_ | refine pnil_u (by first | exact .inl rfl | exact .inr rfl) (by simp (decide := true) (disch := omega) only [go_sem, ↓reduceIte, ↓put_at]; first | done | assumption | omega) ?_ | (refine ret_s [] ?_; simp (decide := true) (disch := omega) only [go_sem, ↓reduceIte, ↓put_at]))))
  refine loop_s (α := {x : Nat × Bu × Int × Int × List Nat // x.1 ≤ l.length ∧ x.1 ≤ 60 ∧ 0 ≤ x.2.2.1 ∧ x.2.2.1 ≤ 15 * x.1 ∧ RisI (1025 * x.1) x.2.1 x.2.2.2.1 x.2.2.2.2}) (fun x => bufI 24 x.1.2.1 ++ [(.s 5, .av (.ptr (24, 0) 0 0)), (.s 1, .av (.val (.lst 8 (l.map a24El)))), (.s 6, .av (.val (vi x.1.2.2.1))), (.s 7, .av (.val (vi x.1.2.2.2.1))), (.r (27, 1), .tree (.mp (seenU x.1.2.2.2.2))), (.s 8, .av (.ref (27, 1) 0)), (.s 9, .av (.val (vi x.1.1)))]) (fun x => l.length - x.1.1) ⟨(0, b0, 0, -1, []), Nat.zero_le _, by omega, Int.le_refl _, by simp, by simpa using hok, Int.le_refl _, by dsimp only; omega, by simp⟩ ?_ (fun x => ?_)
  · rw [show seenU [] = [] from rfl]
    simp (decide := true) (disch := omega) only [go_sem, ↓reduceIte, ↓put_at]
  obtain ⟨⟨i, b, now, last, s⟩, h1, h2, h3, h4, h5⟩ := x
  dsimp only at h1 h2 h3 h4 h5 ⊢
  by_cases hlt : i < l.length ∧ i < 60
  · obtain ⟨hlt, hlt2⟩ := hlt
    have hltz : (i : Int) < l.length := by omega
    have ha := hq _ (List.getElem_mem hlt)
    have hge : (l.map a24El).getD i [] = a24El l[i] := by simp [hlt]
    have hla0 := ha.l0
    have hla1 := ha.l1
    have hm0 : 0 ≤ l[i].la % 16 := by omega
    have hm1 : l[i].la % 16 ≤ 15 := by omega
    (repeat' ((fail_if_success (refine stop_reg 13 ?_)); (first | refine sp_ ?_ | exact ex0 | (refine ret_s [] ?_; simp (decide := true) (disch := omega) only [go_sem, ↓reduceIte, ↓put_at]))))
    generalize l[i] = a at *
    obtain ⟨now', hnow⟩ : ∃ n, n = now + a.la % 16 := ⟨_, rfl⟩
    have hn0 : 0 ≤ now' := by omega
    have hn1 : now' ≤ 15 * i + 15 := by omega
    rw [← hnow]
    clear hge
    refine meet_s (α := {x : Bu × Int × List Nat // RisI (1025 * i + 1025) x.1 x.2.1 x.2.2}) (fun x => bufI 24 x.1.1 ++ [(.s 5, .av (.ptr (24, 0) 0 0)), (.s 1, .av (.val (.lst 8 (l.map a24El)))), (.s 6, .av (.val (vi now'))), (.s 7, .av (.val (vi x.1.2.1))), (.r (27, 1), .tree (.mp (seenU x.1.2.2))), (.s 8, .av (.ref (27, 1) 0)), (.s 9, .av (.val (vi i)))]) ?_ (fun x => ?_)
    · obtain ⟨hok5, hl50, hl51, hov⟩ := h5
      cases hp : a.play with
      | true =>
        have hd0 : 0 ≤ a.dl % 32 := by omega
        have hd1 : a.dl % 32 ≤ 31 := by omega
        have he0 : 0 ≤ a.mo % 64 := by omega
        have he1 : a.mo % 64 ≤ 63 := by omega
        have c2 := buf_play b now' (a.dl % 32) (a.mo % 64) (play_prog hok5 (by omega)) (by omega) (by omega) (by omega)
        obtain ⟨q1, q2, q3, q4, q5, q6⟩ := play_ok hok5 now' (a.dl % 32) (a.mo % 64)
        obtain ⟨t1, t2, t3, t4, t5⟩ := play_times (now := now') (delay := a.dl % 32) (most := a.mo % 64) b.l b.hz hok5.so hok5.hl
        clear q6
        have e1 : (playB b now' (a.dl % 32) (a.mo % 64)).2.1 = (playL now' (a.dl % 32) (a.mo % 64) b.l b.hz).out := rfl
        have e2 : (playB b now' (a.dl % 32) (a.mo % 64)).2.2 = (playL now' (a.dl % 32) (a.mo % 64) b.l b.hz).gone := rfl
        have e3 : (playB b now' (a.dl % 32) (a.mo % 64)).1.hz = (playL now' (a.dl % 32) (a.mo % 64) b.l b.hz).hz := rfl
        rw [← e1, ← e3] at t1
        rw [← e2, ← e3] at t2
        rw [← e1] at t3
        rw [← e1, ← e2] at t4
        rw [← e3] at t5
        clear e1 e2 e3
        generalize playB b now' (a.dl % 32) (a.mo % 64) = R at *
        obtain ⟨B, o, g⟩ := R
        dsimp only at *
        (repeat' ((fail_if_success (refine stop_reg 16 ?_)); (first | refine sp_ ?_ | exact ex0 | refine call_u Try.call10 (c2) [(24, 0)] ex1 ?_ | (refine ret_s [] ?_; simp (decide := true) (disch := omega) only [go_sem, ↓reduceIte, ↓put_at]))))
        refine loop_s (α := {x : Nat × Int // x.1 ≤ o.length ∧ (∀ k (h : k < o.length), x.1 ≤ k → x.2 < o[k].1) ∧ -1 ≤ x.2 ∧ x.2 ≤ B.hz}) (fun x => bufI 24 B ++ [(.s 5, .av (.ptr (24, 0) 0 0)), (.s 1, .av (.val (.lst 8 (l.map a24El)))), (.s 6, .av (.val (vi now'))), (.s 8, .av (.ref (27, 1) 0)), (.s 9, .av (.val (vi i))), (.s 7, .av (.val (vi x.1.2))), (.r (27, 1), .tree (.mp (seenU (s ++ (o.take x.1.1).map (·.1))))), (.s 12, .av (.val (.lst 1 (g.map fun t : Nat => [vu t])))), (.s 61, .av (.val (.lst 2 (o.map plE)))), (.s 62, .av (.val (vi o.length))), (.s 63, .av (.val (vi x.1.1)))]) (fun x => o.length - x.1.1) ⟨(0, last), Nat.zero_le _, fun k hk _ => by have := (t1 o[k] (List.getElem_mem hk)).1; dsimp only; omega, hl50, by dsimp only; omega⟩ ?_ (fun x => ?_)
        · rw [List.take_zero, List.map_nil, List.append_nil]
          simp (decide := true) (disch := omega) only [go_sem, ↓reduceIte, ↓put_at]
        obtain ⟨⟨j, la⟩, j1, j2, j3, j4⟩ := x
        dsimp only at j1 j2 j3 j4 ⊢
        by_cases hj : j < o.length
        · have hjz : (j : Int) < o.length := by omega
          have hla := j2 j hj (Nat.le_refl _)
          have h32 := q4 _ (List.getElem_mem hj)
          have htm := t1 _ (List.getElem_mem hj)
          have hno : o[j].1 ∉ s ++ (o.take j).map (·.1) := fun hm => by
            rcases List.mem_append.1 hm with hm | hm
            · have := hov _ hm
              omega
            · obtain ⟨p, hp, he⟩ := List.mem_map.1 hm
              obtain ⟨k, hk, rfl⟩ := List.getElem_of_mem hp
              rw [List.length_take] at hk
              rw [List.getElem_take] at he
              have := List.pairwise_iff_getElem.1 t3 k j (by omega) hj (by omega)
              omega
          have hget := seenU_get (s ++ (o.take j).map (·.1)) o[j].1
          rw [if_neg hno] at hget
          have htk : s ++ (o.take (j + 1)).map (·.1) = s ++ (o.take j).map (·.1) ++ [o[j].1] := by rw [List.take_succ_eq_append_getElem hj, List.map_append, List.append_assoc]; rfl
          have hnx : ∀ k (h : k < o.length), j + 1 ≤ k → (o[j].1 : Int) < o[k].1 := fun k hk h => by
            have := List.pairwise_iff_getElem.1 t3 j k hj hk (by omega)
            omega
          (repeat' ((first | refine sp_ ?_ | exact ex0 | (refine ret_s [] ?_; simp (decide := true) (disch := omega) only [go_sem, ↓reduceIte, ↓put_at]))))
          (try simp only [hget])
          (repeat' ((first | refine sp_ ?_ | exact ex0 | (refine ret_s [] ?_; simp (decide := true) (disch := omega) only [go_sem, ↓reduceIte, ↓put_at]))))
          (try simp only [hget])
          (repeat' ((first | refine sp_ ?_ | exact ex0 | (refine ret_s [] ?_; simp (decide := true) (disch := omega) only [go_sem, ↓reduceIte, ↓put_at]))))
          rw [if_neg hno]
          refine next_s (α := {x : Nat × Int // x.1 ≤ o.length ∧ (∀ k (h : k < o.length), x.1 ≤ k → x.2 < o[k].1) ∧ -1 ≤ x.2 ∧ x.2 ≤ B.hz}) ⟨(j + 1, o[j].1), hj, hnx, by dsimp only; omega, htm.2⟩ ⟨?_, by (try dsimp only); omega⟩
          (try dsimp only)
          rw [htk]
          simp (decide := true) (disch := omega) only [go_sem, ↓reduceIte, ↓put_at]
        · obtain rfl : j = o.length := by omega
          rw [List.take_length]
          (repeat' ((fail_if_success (refine stop_reg 24 ?_)); (first | refine sp_ ?_ | exact ex0 | (refine ret_s [] ?_; simp (decide := true) (disch := omega) only [go_sem, ↓reduceIte, ↓put_at]))))
          refine loop_s (α := {j : Nat // j ≤ g.length}) (fun j => bufI 24 B ++ [(.s 5, .av (.ptr (24, 0) 0 0)), (.s 1, .av (.val (.lst 8 (l.map a24El)))), (.s 6, .av (.val (vi now'))), (.s 8, .av (.ref (27, 1) 0)), (.s 9, .av (.val (vi i))), (.s 7, .av (.val (vi la))), (.r (27, 1), .tree (.mp (seenU (s ++ o.map (·.1) ++ g.take j.1)))), (.s 85, .av (.val (.lst 1 (g.map fun t : Nat => [vu t])))), (.s 86, .av (.val (vi g.length))), (.s 87, .av (.val (vi j.1)))]) (fun j => g.length - j.1) ⟨0, Nat.zero_le _⟩ ?_ (fun j => ?_)
          · rw [List.take_zero, List.append_nil]
            simp (decide := true) (disch := omega) only [go_sem, ↓reduceIte, ↓put_at]
          obtain ⟨j, hj⟩ := j
          dsimp only at hj ⊢
          by_cases hj2 : j < g.length
          · have hjz : (j : Int) < g.length := by omega
            have h32 := q5 _ (List.getElem_mem hj2)
            have htm := t2 _ (List.getElem_mem hj2)
            have hno : g[j] ∉ s ++ o.map (·.1) ++ g.take j := fun hm => by
              rcases List.mem_append.1 hm with hm | hm
              · rcases List.mem_append.1 hm with hm | hm
                · have := hov _ hm
                  omega
                · exact (List.nodup_append.1 t4).2.2 _ hm _ (List.getElem_mem hj2) rfl
              · obtain ⟨k, hk, he⟩ := List.getElem_of_mem hm
                rw [List.length_take] at hk
                rw [List.getElem_take] at he
                have := (List.pairwise_iff_getElem.1 (List.nodup_append.1 t4).2.1) k j (by omega) hj2 (by omega)
                exact this he
            have hget := seenU_get (s ++ o.map (·.1) ++ g.take j) g[j]
            rw [if_neg hno] at hget
            have htk : s ++ o.map (·.1) ++ g.take (j + 1) = s ++ o.map (·.1) ++ g.take j ++ [g[j]] := by rw [List.take_succ_eq_append_getElem hj2, ← List.append_assoc]
            (repeat' ((first | refine sp_ ?_ | exact ex0 | (refine ret_s [] ?_; simp (decide := true) (disch := omega) only [go_sem, ↓reduceIte, ↓put_at]))))
            (try simp only [hget])
            (repeat' ((first | refine sp_ ?_ | exact ex0 | (refine ret_s [] ?_; simp (decide := true) (disch := omega) only [go_sem, ↓reduceIte, ↓put_at]))))
            (try simp only [hget])
            (repeat' ((first | refine sp_ ?_ | exact ex0 | (refine ret_s [] ?_; simp (decide := true) (disch := omega) only [go_sem, ↓reduceIte, ↓put_at]))))
            rw [if_neg hno]
            refine next_s (α := {j : Nat // j ≤ g.length}) ⟨j + 1, hj2⟩ ⟨?_, by (try dsimp only); omega⟩
            (try dsimp only)
            rw [htk]
            simp (decide := true) (disch := omega) only [go_sem, ↓reduceIte, ↓put_at]
          · obtain rfl : j = g.length := by omega
            rw [List.take_length]
            (repeat' ((first | refine sp_ ?_ | exact ex0 | (refine ret_s [] ?_; simp (decide := true) (disch := omega) only [go_sem, ↓reduceIte, ↓put_at]))))
            refine at_meet ⟨(B, la, s ++ o.map (·.1) ++ g), q1, j3, j4, fun t ht => ?_⟩ ?_
            · rcases List.mem_append.1 ht with ht | ht
              · rcases List.mem_append.1 ht with ht | ht
                · have := hov _ ht
                  dsimp only
                  omega
                · obtain ⟨p, hp, rfl⟩ := List.mem_map.1 ht
                  exact (t1 p hp).2
              · exact (t2 t ht).2
            simp (decide := true) (disch := omega) only [go_sem, ↓reduceIte, ↓put_at]
      | false =>
        have c0 := cut24 a.dt 30 (by omega) ha.dt
        have hs : (a.dt.take 30).length ≤ 1048576 := by rw [List.length_take]; omega
        have c2 := buf_put hok5 (by omega) a.tm a.ix a.ct (a.dt.take 30) now' ha.tm hs (by omega) (by omega)
        obtain ⟨q1, q2, q3, q4⟩ := put_ok (i := a.ix) (c := a.ct) (s := a.dt.take 30) (now := now') hok5 ha.tm hs (by omega) (by omega)
        obtain ⟨t1, t2, t3⟩ := put_times (i := a.ix) (c := a.ct) (s := a.dt.take 30) (now := now') hok5 ha.tm hs (by omega) (by omega)
        clear q4
        generalize putB b a.tm a.ix a.ct (a.dt.take 30) now' = R at *
        obtain ⟨B, k, g⟩ := R
        dsimp only at *
        (repeat' ((fail_if_success (refine stop_reg 31 ?_)); (first | refine sp_ ?_ | exact ex0 | refine call_u Try.call12 (c0) [] ex1 ?_ | refine call_u Try.call9 (c2) [(24, 0)] ex1 ?_ | (refine ret_s [] ?_; simp (decide := true) (disch := omega) only [go_sem, ↓reduceIte, ↓put_at]))))
        refine fld_s 22 1 _ [vi k, .lst 1 (g.map fun t : Nat => [vu t])] (.lst 1 (g.map fun t : Nat => [vu t])) (by kernel_rfl) ti22 (by simp (decide := true) (disch := omega) only [go_sem, ↓reduceIte, ↓put_at]) rfl ?_
        (repeat' ((fail_if_success (refine stop_reg 31 ?_)); (first | refine sp_ ?_ | exact ex0 | (refine ret_s [] ?_; simp (decide := true) (disch := omega) only [go_sem, ↓reduceIte, ↓put_at]))))
        refine loop_s (α := {j : Nat // j ≤ g.length}) (fun j => bufI 24 B ++ [(.s 5, .av (.ptr (24, 0) 0 0)), (.s 1, .av (.val (.lst 8 (l.map a24El)))), (.s 6, .av (.val (vi now'))), (.s 8, .av (.ref (27, 1) 0)), (.s 9, .av (.val (vi i))), (.s 7, .av (.val (vi last))), (.r (27, 1), .tree (.mp (seenU (s ++ g.take j.1)))), (.s 110, .av (.val (.lst 1 (g.map fun t : Nat => [vu t])))), (.s 111, .av (.val (vi g.length))), (.s 112, .av (.val (vi j.1)))]) (fun j => g.length - j.1) ⟨0, Nat.zero_le _⟩ ?_ (fun j => ?_)
        · rw [List.take_zero, List.append_nil]
          simp (decide := true) (disch := omega) only [go_sem, ↓reduceIte, ↓put_at]
        obtain ⟨j, hj⟩ := j
        dsimp only at hj ⊢
        by_cases hj2 : j < g.length
        · have hjz : (j : Int) < g.length := by omega
          have h32 := q3 _ (List.getElem_mem hj2)
          have htm := t1 _ (List.getElem_mem hj2)
          have hno : g[j] ∉ s ++ g.take j := fun hm => by
            rcases List.mem_append.1 hm with hm | hm
            · have := hov _ hm
              omega
            · obtain ⟨k, hk, he⟩ := List.getElem_of_mem hm
              rw [List.length_take] at hk
              rw [List.getElem_take] at he
              have := (List.pairwise_iff_getElem.1 t2) k j (by omega) hj2 (by omega)
              exact this he
          have hget := seenU_get (s ++ g.take j) g[j]
          rw [if_neg hno] at hget
          have htk : s ++ g.take (j + 1) = s ++ g.take j ++ [g[j]] := by rw [List.take_succ_eq_append_getElem hj2, ← List.append_assoc]
          (repeat' ((first | refine sp_ ?_ | exact ex0 | (refine ret_s [] ?_; simp (decide := true) (disch := omega) only [go_sem, ↓reduceIte, ↓put_at]))))
          (try simp only [hget])
          (repeat' ((first | refine sp_ ?_ | exact ex0 | (refine ret_s [] ?_; simp (decide := true) (disch := omega) only [go_sem, ↓reduceIte, ↓put_at]))))
          (try simp only [hget])
          (repeat' ((first | refine sp_ ?_ | exact ex0 | (refine ret_s [] ?_; simp (decide := true) (disch := omega) only [go_sem, ↓reduceIte, ↓put_at]))))
          rw [if_neg hno]
          refine next_s (α := {j : Nat // j ≤ g.length}) ⟨j + 1, hj2⟩ ⟨?_, by (try dsimp only); omega⟩
          (try dsimp only)
          rw [htk]
          simp (decide := true) (disch := omega) only [go_sem, ↓reduceIte, ↓put_at]
        · obtain rfl : j = g.length := by omega
          rw [List.take_length]
          (repeat' ((first | refine sp_ ?_ | exact ex0 | (refine ret_s [] ?_; simp (decide := true) (disch := omega) only [go_sem, ↓reduceIte, ↓put_at]))))
          refine at_meet ⟨(B, last, s ++ g), q1, hl50, by dsimp only; omega, fun t ht => ?_⟩ ?_
          · rcases List.mem_append.1 ht with ht | ht
            · have := hov _ ht
              dsimp only
              omega
            · exact (t1 t ht).2
          simp (decide := true) (disch := omega) only [go_sem, ↓reduceIte, ↓put_at]
    · obtain ⟨⟨B, la, s2⟩, hx⟩ := x
      dsimp only at hx ⊢
      have hlen := hx.ok.len
      have c6 := buf_times B hx.ok.fr (by omega)
      have c7 := buf_hor B
      (repeat' ((fail_if_success (refine stop_reg 38 ?_)); (first | refine sp_ ?_ | exact ex0 | refine call_u Try.call13 (c6) [(24, 0)] ex1 ?_ | (refine ret_s [] ?_; simp (decide := true) (disch := omega) only [go_sem, ↓reduceIte, ↓put_at]))))
      refine loop_s (α := {j : Nat // j ≤ B.l.length}) (fun j => bufI 24 B ++ [(.s 5, .av (.ptr (24, 0) 0 0)), (.s 1, .av (.val (.lst 8 (l.map a24El)))), (.s 6, .av (.val (vi now'))), (.s 8, .av (.ref (27, 1) 0)), (.s 9, .av (.val (vi i))), (.s 7, .av (.val (vi la))), (.r (27, 1), .tree (.mp (seenU s2))), (.s 123, .av (.val (.lst 1 (B.l.map fun f => [vu (f.tm : Int)])))), (.s 124, .av (.val (vi B.l.length))), (.s 125, .av (.val (vi j.1)))]) (fun j => B.l.length - j.1) ⟨0, Nat.zero_le _⟩ ?_ (fun j => ?_)
      · simp (decide := true) (disch := omega) only [go_sem, ↓reduceIte, ↓put_at]
      obtain ⟨j, hj⟩ := j
      dsimp only at hj ⊢
      by_cases hj2 : j < B.l.length
      · have hjz : (j : Int) < B.l.length := by omega
        have h32 := (hx.ok.fr _ (List.getElem_mem hj2)).tm
        have hh := hx.ok.hl _ (List.getElem_mem hj2)
        have hno : B.l[j].tm ∉ s2 := fun hm => by
          have := hx.ov _ hm
          omega
        have hget := seenU_get s2 B.l[j].tm
        rw [if_neg hno] at hget
        (repeat' ((first | refine sp_ ?_ | exact ex0 | (refine ret_s [] ?_; simp (decide := true) (disch := omega) only [go_sem, ↓reduceIte, ↓put_at]))))
        (try simp only [hget])
        (repeat' ((first | refine sp_ ?_ | exact ex0 | refine call_u Try.call14 (c7) [(24, 0)] ex1 ?_ | (refine ret_s [] ?_; simp (decide := true) (disch := omega) only [go_sem, ↓reduceIte, ↓put_at]))))
        refine next_s (α := {j : Nat // j ≤ B.l.length}) ⟨j + 1, hj2⟩ ⟨?_, by (try dsimp only); omega⟩
        (try dsimp only)
        simp (decide := true) (disch := omega) only [go_sem, ↓reduceIte, ↓put_at]
      · obtain rfl : j = B.l.length := by omega
        (repeat' ((first | refine sp_ ?_ | exact ex0 | (refine ret_s [] ?_; simp (decide := true) (disch := omega) only [go_sem, ↓reduceIte, ↓put_at]))))
        refine next_s (α := {x : Nat × Bu × Int × Int × List Nat // x.1 ≤ l.length ∧ x.1 ≤ 60 ∧ 0 ≤ x.2.2.1 ∧ x.2.2.1 ≤ 15 * x.1 ∧ RisI (1025 * x.1) x.2.1 x.2.2.2.1 x.2.2.2.2}) ⟨(i + 1, B, now', la, s2), hlt, hlt2, hn0, by dsimp only; omega, by (try dsimp only); rw [show (1025 : Int) * ((i + 1 : Nat) : Int) = 1025 * i + 1025 by omega]; exact hx⟩ ⟨?_, by (try dsimp only); omega⟩
        (try dsimp only)
        simp (decide := true) (disch := omega) only [go_sem, ↓reduceIte, ↓put_at]
  · rcases Nat.lt_or_ge i 60 with h | h
    · have hge : (l.length : Int) ≤ i := by omega
      (repeat' ((first | refine sp_ ?_ | exact ex0 | (refine ret_s [] ?_; simp (decide := true) (disch := omega) only [go_sem, ↓reduceIte, ↓put_at]))))
    · have hge : (60 : Int) ≤ i := by omega
      by_cases hi : (i : Int) < l.length
      · (repeat' ((first | refine sp_ ?_ | exact ex0 | (refine ret_s [] ?_; simp (decide := true) (disch := omega) only [go_sem, ↓reduceIte, ↓put_at]))))
      · (repeat' ((first | refine sp_ ?_ | exact ex0 | (refine ret_s [] ?_; simp (decide := true) (disch := omega) only [go_sem, ↓reduceIte, ↓put_at]))))
end Go.Proofs.Ytekpaepkoeelfaa
