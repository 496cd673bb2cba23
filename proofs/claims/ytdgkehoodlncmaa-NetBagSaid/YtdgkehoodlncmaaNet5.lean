
/- Package net: the law of its bags; walked. -/
import Derived.Test.YtdgkehoodlncmaaNetL
import Derived.Test.YtdgkehoodlncmaaNet4
import Derived.Test.YtdgkehoodlncmaaQRef
namespace Go.Proofs.Ytdgkehoodlncmaa
open Go.RowKit
set_option linter.unusedVariables false
set_option linter.unusedSimpArgs false

theorem u8_of (n : Int) (h : 0 ≤ n ∧ n ≤ 255) : ((UInt8.ofNat n.toNat).toNat : Int) = n := by
  have : (UInt8.ofNat n.toNat).toNat = n.toNat % 256 := by simp
  rw [this]
  omega
theorem key_bytes (wy pt : Int) (h1 : 0 ≤ wy ∧ wy ≤ 1) (h2 : 1 ≤ pt ∧ pt ≤ 4) : (keyL (wy, pt)).map byteEl = [[V.sc (.int .u8 (48 + wy))], [V.sc (.int .u8 (48 + pt))]] := by
  unfold keyL
  simp only [List.map_cons, List.map_nil, byteEl]
  rw [u8_of (48 + wy) (by omega), u8_of (48 + pt) (by omega)]
theorem seenS_nil : seenS [] = [] := rfl
set_option maxRecDepth 100000 in
set_option maxHeartbeats 8000000 in
theorem bag_walk (most : Int) (l : List A28) (hl : l.length ≤ maxLen) (hb : ∀ a ∈ l, a.d.length ≤ maxLen) : Spec Try.prog 11 [.ca (.val (vi most)), .ca (.val (.lst 7 (l.map aEl)))] [] (.ca (.val (vb true))) [] := by
  have c0 := net_awake
  have cn := net_new most 1048576
  have hI := new_I most 1048576
  generalize newB most 1048576 = N0 at *
  refine spec_of Try.func11 rfl Try.ntmps11 Try.results11 ⟨by decide, by simp⟩ fun C hC => ?_
  (repeat' ((fail_if_success (refine stop_reg 4 ?_)); (first | refine sp_ ?_ | exact ex0 | refine call_u Try.call43 (c0) [] ex1 ?_ | refine call_u Try.call44 (cn) [] ex1 ?_ | (refine ret_s [] ?_; simp (decide := true) (disch := omega) only [go_sem, ↓reduceIte, ↓put_at]))))
  (repeat' ((fail_if_success (refine stop_reg 6 ?_)); (first | refine sp_ ?_ | exact ex0 | refine pnil_u (by first | exact .inl rfl | exact .inr rfl) (by simp (decide := true) (disch := omega) only [go_sem, ↓reduceIte, ↓put_at]; first | done | assumption | omega) ?_ | (refine ret_s [] ?_; simp (decide := true) (disch := omega) only [go_sem, ↓reduceIte, ↓put_at]))))
  (repeat' ((fail_if_success (refine stop_reg 9 ?_)); (first | refine sp_ ?_ | exact ex0 | (refine ret_s [] ?_; simp (decide := true) (disch := omega) only [go_sem, ↓reduceIte, ↓put_at]))))
  refine loop_s (α := {x : Nat × N28 × List (List UInt8) × Int // x.1 ≤ l.length ∧ x.1 ≤ 50 ∧ BagI x.2.1 x.2.2.1 x.2.2.2 x.1}) (fun x => [(.s 1, .av (.val (.lst 7 (l.map aEl)))), (.o (23, 0), .num 9), (.c (23, 0) 0, .av (.val (vi x.1.2.1.most))), (.c (23, 0) 1, .av (.val (vi x.1.2.1.bytes))), (.c (23, 0) 2, .av (.ref (23, 3) 0)), (.c (23, 0) 3, .av (.val (vi x.1.2.1.sent))), (.c (23, 0) 4, .av (.val (vi x.1.2.1.lost))), (.c (23, 0) 5, .av (.val (vi x.1.2.1.taken))), (.c (23, 0) 6, .av (.val (vi x.1.2.1.twins))), (.c (23, 0) 7, .av (.val (vi x.1.2.1.turned))), (.c (23, 0) 8, .av (.val (vi x.1.2.1.forged))), (.r (23, 3), .tree (.mp (kvB 9 x.1.2.1.m))), (.s 5, .av (.ptr (23, 0) 0 0)), (.r (26, 1), .tree (.mp (seenS x.1.2.2.1))), (.s 6, .av (.ref (26, 1) 0)), (.s 7, .av (.val (vi x.1.2.2.2))), (.s 8, .av (.val (vi x.1.1)))]) (fun x => 50 - x.1.1) ⟨(0, N0, [], 0), Nat.zero_le _, Nat.zero_le _, hI⟩ ?_ (fun x => ?_)
  · rw [seenS_nil]
    simp (decide := true) (disch := omega) only [go_sem, ↓reduceIte, ↓put_at]
  clear hI cn c0
  obtain ⟨⟨i, N, had, lost⟩, hi1, hi2, hI⟩ := x
  dsimp only at hi1 hi2 hI ⊢
  have hlo := hI.lost
  by_cases hlt : i < l.length
  · by_cases hlt2 : i < 50
    · have hd := hb _ (List.getElem_mem hlt)
      have cc := q_cut l[i].d 40 hd (by decide)
      rw [show (40 : Int).toNat = 40 from rfl] at cc
      have hs : (l[i].d.take 40).length ≤ 40 := by rw [List.length_take]; omega
      generalize l[i].d.take 40 = s at *
      (repeat' ((fail_if_success (first | refine stop_at 14 ?_ | refine stop_l 14 ?_)); (first | refine sp_ ?_ | exact ex0 | refine call_u Try.call45 (cc) [] ex1 ?_ | (refine ret_s [] ?_; simp (decide := true) (disch := omega) only [go_sem, ↓reduceIte, ↓put_at]))))
      clear cc hd
      obtain ⟨wy, hw⟩ : ∃ n, n = l[i].w % 2 := ⟨_, rfl⟩
      obtain ⟨pt, hp⟩ : ∃ n, n = 1 + l[i].p % 4 := ⟨_, rfl⟩
      have hw2 : 0 ≤ wy ∧ wy ≤ 1 := by omega
      have hp2 : 1 ≤ pt ∧ pt ≤ 4 := by omega
      rw [← hw, ← hp]
      clear hw hp
      have hk : (keyL (wy, pt)).map byteEl = [[V.sc (.int .u8 (48 + wy))], [V.sc (.int .u8 (48 + pt))]] := key_bytes wy pt hw2 hp2
      (repeat' ((first | refine sp_ ?_ | exact ex0 | (refine ret_s [] ?_; simp (decide := true) (disch := omega) only [go_sem, ↓reduceIte, ↓put_at]))))
      refine convBS_s (keyL (wy, pt)) (by simp (decide := true) (disch := omega) only [go_sem, ↓reduceIte, ↓put_at]; rw [hk]) (by simp (decide := true) (disch := omega) only [go_sem, ↓reduceIte, ↓put_at]) ⟨by kernel_rfl, by kernel_rfl, by kernel_rfl⟩ ?_
      clear hk
      have hkl : (keyL (wy, pt)).length = 2 := rfl
      have hok := hI.ok
      have q1 := net_send N (wy, pt) s hok (by omega) (by omega)
      have q2 := net_forge N (wy, pt) s hok (by omega) (by omega)
      have q3 := net_take N (wy, pt) l[i].i hok (by omega)
      have q4 := net_lose N (wy, pt) l[i].i hok (by omega)
      have q5 := net_twin N (wy, pt) l[i].i hok (by omega)
      obtain ⟨S1, S2⟩ := send_I hI (l := (wy, pt)) hp2 s
      obtain ⟨F1, F2⟩ := forge_I hI (l := (wy, pt)) hp2 s
      obtain ⟨T1, T2⟩ := take_I hI (wy, pt) l[i].i
      have L1 := lose_I hI (wy, pt) l[i].i
      have W1 := twin_I hI (l := (wy, pt)) hp2 l[i].i
      have atl := atB_len hok (wy, pt) l[i].i
      dsimp only at q1 q2 q3 q4 q5
      clear hok
      generalize keyL (wy, pt) = kk at *
      generalize canB N (wy, pt) s = cb at *
      generalize isB N (wy, pt) l[i].i = ib at *
      generalize atB N (wy, pt) l[i].i = tt at *
      generalize sendB N (wy, pt) s = N1 at *
      generalize forgeB N (wy, pt) s = N2 at *
      generalize takeB N (wy, pt) l[i].i = N3 at *
      generalize loseB N (wy, pt) l[i].i = N4 at *
      generalize twinB N (wy, pt) l[i].i = N5 at *
      (repeat' ((fail_if_success (first | refine stop_at 19 ?_ | refine stop_l 19 ?_)); (first | refine sp_ ?_ | exact ex0 | (refine ret_s [] ?_; simp (decide := true) (disch := omega) only [go_sem, ↓reduceIte, ↓put_at]))))
      refine meetB_s (α := {x : N28 × List (List UInt8) × Int // BagI x.1 x.2.1 x.2.2 (i + 1)}) (fun x => [(.s 1, .av (.val (.lst 7 (l.map aEl)))), (.o (23, 0), .num 9), (.c (23, 0) 0, .av (.val (vi x.1.1.most))), (.c (23, 0) 1, .av (.val (vi x.1.1.bytes))), (.c (23, 0) 2, .av (.ref (23, 3) 0)), (.c (23, 0) 3, .av (.val (vi x.1.1.sent))), (.c (23, 0) 4, .av (.val (vi x.1.1.lost))), (.c (23, 0) 5, .av (.val (vi x.1.1.taken))), (.c (23, 0) 6, .av (.val (vi x.1.1.twins))), (.c (23, 0) 7, .av (.val (vi x.1.1.turned))), (.c (23, 0) 8, .av (.val (vi x.1.1.forged))), (.r (23, 3), .tree (.mp (kvB 9 x.1.1.m))), (.s 5, .av (.ptr (23, 0) 0 0)), (.r (26, 1), .tree (.mp (seenS x.1.2.1))), (.s 6, .av (.ref (26, 1) 0)), (.s 7, .av (.val (vi x.1.2.2))), (.s 8, .av (.val (vi i)))]) ?_ (fun x => ?_)
      · by_cases k0 : l[i].k = 0
        · cases cb with
          | true =>
            (repeat' ((first | refine sp_ ?_ | exact ex0 | refine call_u Try.call46 (q1) [(23, 0)] ex1 ?_ | (refine ret_s [] ?_; simp (decide := true) (disch := omega) only [go_sem, ↓reduceIte, ↓put_at]))))
            refine at_meet ⟨(N1, addH had (kk ++ s), lost), S1 rfl⟩ ?_
            simp (decide := true) (disch := omega) only [go_sem, ↓reduceIte, ↓put_at]
          | false =>
            (repeat' ((first | refine sp_ ?_ | exact ex0 | refine call_u Try.call46 (q1) [(23, 0)] ex1 ?_ | (refine ret_s [] ?_; simp (decide := true) (disch := omega) only [go_sem, ↓reduceIte, ↓put_at]))))
            refine at_meet ⟨(N1, had, lost + 1), S2 rfl⟩ ?_
            simp (decide := true) (disch := omega) only [go_sem, ↓reduceIte, ↓put_at]
        · by_cases k1 : l[i].k = 1
          · cases ib with
            | true =>
              have hg := seenS_get had (kk ++ tt)
              rw [if_pos (T2 rfl)] at hg
              (repeat' ((first | refine sp_ ?_ | exact ex0 | refine call_u Try.call47 (q3) [(23, 0)] ex1 ?_ | (refine ret_s [] ?_; simp (decide := true) (disch := omega) only [go_sem, ↓reduceIte, ↓put_at]))))
              (try simp only [hg])
              (repeat' ((first | refine sp_ ?_ | exact ex0 | refine call_u Try.call47 (q3) [(23, 0)] ex1 ?_ | (refine ret_s [] ?_; simp (decide := true) (disch := omega) only [go_sem, ↓reduceIte, ↓put_at]))))
              refine at_meet ⟨(N3, had, lost), T1⟩ ?_
              simp (decide := true) (disch := omega) only [go_sem, ↓reduceIte, ↓put_at]
            | false =>
              (repeat' ((first | refine sp_ ?_ | exact ex0 | refine call_u Try.call47 (q3) [(23, 0)] ex1 ?_ | (refine ret_s [] ?_; simp (decide := true) (disch := omega) only [go_sem, ↓reduceIte, ↓put_at]))))
              refine at_meet ⟨(N3, had, lost), T1⟩ ?_
              simp (decide := true) (disch := omega) only [go_sem, ↓reduceIte, ↓put_at]
          · by_cases k2 : l[i].k = 2
            · (repeat' ((first | refine sp_ ?_ | exact ex0 | refine call_u Try.call48 (q4) [(23, 0)] ex1 ?_ | (refine ret_s [] ?_; simp (decide := true) (disch := omega) only [go_sem, ↓reduceIte, ↓put_at]))))
              refine at_meet ⟨(N4, had, lost), L1⟩ ?_
              simp (decide := true) (disch := omega) only [go_sem, ↓reduceIte, ↓put_at]
            · by_cases k3 : l[i].k = 3
              · (repeat' ((first | refine sp_ ?_ | exact ex0 | refine call_u Try.call49 (q5) [(23, 0)] ex1 ?_ | (refine ret_s [] ?_; simp (decide := true) (disch := omega) only [go_sem, ↓reduceIte, ↓put_at]))))
                refine at_meet ⟨(N5, had, lost), W1⟩ ?_
                simp (decide := true) (disch := omega) only [go_sem, ↓reduceIte, ↓put_at]
              · cases cb with
                | true =>
                  (repeat' ((first | refine sp_ ?_ | exact ex0 | refine call_u Try.call50 (q2) [(23, 0)] ex1 ?_ | (refine ret_s [] ?_; simp (decide := true) (disch := omega) only [go_sem, ↓reduceIte, ↓put_at]))))
                  refine at_meet ⟨(N2, addH had (kk ++ s), lost), F1 rfl⟩ ?_
                  simp (decide := true) (disch := omega) only [go_sem, ↓reduceIte, ↓put_at]
                | false =>
                  (repeat' ((first | refine sp_ ?_ | exact ex0 | refine call_u Try.call50 (q2) [(23, 0)] ex1 ?_ | (refine ret_s [] ?_; simp (decide := true) (disch := omega) only [go_sem, ↓reduceIte, ↓put_at]))))
                  refine at_meet ⟨(N2, had, lost + 1), F2 rfl⟩ ?_
                  simp (decide := true) (disch := omega) only [go_sem, ↓reduceIte, ↓put_at]
      · clear q1 q2 q3 q4 q5 S1 S2 F1 F2 T1 T2 L1 W1
        obtain ⟨⟨M, hd2, lo2⟩, hM⟩ := x
        dsimp only at hM ⊢
        have hok := hM.ok
        have hlo2 := hM.lost
        have hth := hM.th
        have t0 := th_le hok
        have d1 := net_counts M
        have e1 := hok.c1
        have e2 := hok.c2
        have e3 := hok.c3
        have e4 := hok.c4
        have e6 := hok.c6
        (repeat' ((fail_if_success (refine stop_reg 34 ?_)); (first | refine sp_ ?_ | exact ex0 | refine call_u Try.call51 (d1) [(23, 0)] ex1 ?_ | (refine ret_s [] ?_; simp (decide := true) (disch := omega) only [go_sem, ↓reduceIte, ↓put_at]))))
        refine loop_s (α := {j : Nat // j ≤ 4}) (fun j => [(.s 1, .av (.val (.lst 7 (l.map aEl)))), (.o (23, 0), .num 9), (.c (23, 0) 0, .av (.val (vi M.most))), (.c (23, 0) 1, .av (.val (vi M.bytes))), (.c (23, 0) 2, .av (.ref (23, 3) 0)), (.c (23, 0) 3, .av (.val (vi M.sent))), (.c (23, 0) 4, .av (.val (vi M.lost))), (.c (23, 0) 5, .av (.val (vi M.taken))), (.c (23, 0) 6, .av (.val (vi M.twins))), (.c (23, 0) 7, .av (.val (vi M.turned))), (.c (23, 0) 8, .av (.val (vi M.forged))), (.r (23, 3), .tree (.mp (kvB 9 M.m))), (.s 5, .av (.ptr (23, 0) 0 0)), (.r (26, 1), .tree (.mp (seenS hd2))), (.s 6, .av (.ref (26, 1) 0)), (.s 7, .av (.val (vi lo2))), (.s 8, .av (.val (vi i))), (.o (16, 0), .num 6), (.c (16, 0) 0, .av (.val (vi M.sent))), (.c (16, 0) 1, .av (.val (vi M.lost))), (.c (16, 0) 2, .av (.val (vi M.taken))), (.c (16, 0) 3, .av (.val (vi M.twins))), (.c (16, 0) 4, .av (.val (vi M.turned))), (.c (16, 0) 5, .av (.val (vi M.forged))), (.s 16, .av (.ptr (16, 0) 0 0)), (.s 17, .av (.val (vi (thS M.m j.1)))), (.s 18, .av (.val (vi ((j.1 + 1 : Nat) : Int))))]) (fun j => 4 - j.1) ⟨0, by decide⟩ ?_ (fun j => ?_)
        · simp (decide := true) (disch := omega) only [go_sem, ↓reduceIte, ↓put_at]
          rfl
        · obtain ⟨j, hj⟩ := j
          dsimp only at hj ⊢
          by_cases hj4 : j < 4
          · have g1 := net_len M (0, ((j + 1 : Nat) : Int)) hok
            have g2 := net_len M (1, ((j + 1 : Nat) : Int)) hok
            have h1 := t0 j
            have h2 := t0 (j + 1)
            have hsm : thS M.m (j + 1) = thS M.m j + ((bagB M.m (0, ((j + 1 : Nat) : Int))).length + (bagB M.m (1, ((j + 1 : Nat) : Int))).length) := rfl
            dsimp only at g1 g2
            generalize (bagB M.m (0, ((j + 1 : Nat) : Int))).length = n1 at *
            generalize (bagB M.m (1, ((j + 1 : Nat) : Int))).length = n2 at *
            (repeat' ((first | refine sp_ ?_ | exact ex0 | refine call_u Try.call52 (g1) [(23, 0)] ex1 ?_ | refine call_u Try.call52 (g2) [(23, 0)] ex1 ?_ | (refine ret_s [] ?_; simp (decide := true) (disch := omega) only [go_sem, ↓reduceIte, ↓put_at]))))
            refine next_s (α := {j : Nat // j ≤ 4}) ⟨j + 1, hj4⟩ ⟨?_, by (try dsimp only); omega⟩
            (try dsimp only)
            simp (decide := true) (disch := omega) only [go_sem, ↓reduceIte, ↓put_at]
            rw [hsm]
            omega
          · obtain rfl : j = 4 := by omega
            have h1 := t0 4
            (repeat' ((first | refine sp_ ?_ | exact ex0 | (refine ret_s [] ?_; simp (decide := true) (disch := omega) only [go_sem, ↓reduceIte, ↓put_at]))))
            refine next_s (α := {x : Nat × N28 × List (List UInt8) × Int // x.1 ≤ l.length ∧ x.1 ≤ 50 ∧ BagI x.2.1 x.2.2.1 x.2.2.2 x.1}) ⟨(i + 1, M, hd2, lo2), hlt, hlt2, hM⟩ ⟨?_, by (try dsimp only); omega⟩
            (try dsimp only)
            simp (decide := true) (disch := omega) only [go_sem, ↓reduceIte, ↓put_at]
    · (repeat' ((first | refine sp_ ?_ | exact ex0 | (refine ret_s [] ?_; simp (decide := true) (disch := omega) only [go_sem, ↓reduceIte, ↓put_at]))))
  · (repeat' ((first | refine sp_ ?_ | exact ex0 | (refine ret_s [] ?_; simp (decide := true) (disch := omega) only [go_sem, ↓reduceIte, ↓put_at]))))
end Go.Proofs.Ytdgkehoodlncmaa
