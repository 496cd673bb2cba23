
/- Package net: is a net the document's?; walked. -/
import Derived.Test.YtdkgnlmojmafbaaNetS
namespace Go.Proofs.Ytdkgnlmojmafbaa
open Go.RowKit
set_option linter.unusedVariables false
set_option linter.unusedSimpArgs false

set_option maxRecDepth 100000 in
set_option maxHeartbeats 8000000 in
theorem cmp_counts (a1 b1 : Int) (a2 b2 : Int) (a3 b3 : Int) (a4 b4 : Int) (a5 b5 : Int) (a6 b6 : Int) (w : World) : (binOp .neq 32 (.agg [.int .i64 a1, .int .i64 a2, .int .i64 a3, .int .i64 a4, .int .i64 a5, .int .i64 a6].toArray) (.agg [.int .i64 b1, .int .i64 b2, .int .i64 b3, .int .i64 b4, .int .i64 b5, .int .i64 b6].toArray)).run Try.prog w = .ok (.bool (!decide (a1 = b1 ∧ a2 = b2 ∧ a3 = b3 ∧ a4 = b4 ∧ a5 = b5 ∧ a6 = b6))) w := by
  by_cases h1 : a1 = b1
  · by_cases h2 : a2 = b2
    · by_cases h3 : a3 = b3
      · by_cases h4 : a4 = b4
        · by_cases h5 : a5 = b5
          · by_cases h6 : a6 = b6
            · subst h1 h2 h3 h4 h5 h6; simp [go_sem]
            · simp [go_sem, h1, h2, h3, h4, h5, h6]
          · simp [go_sem, h1, h2, h3, h4, h5]
        · simp [go_sem, h1, h2, h3, h4]
      · simp [go_sem, h1, h2, h3]
    · simp [go_sem, h1, h2]
  · simp [go_sem, h1]
theorem Rel.z {N : N28} {Z : X28} {k : Nat} (h : Rel N Z k) : Z = ⟨N.most, N.bytes, Z.l, N.sent, N.lost, N.taken, N.twins, N.turned, N.forged⟩ := by
  have h1 := h.most; have h2 := h.bytes; have h3 := h.e1; have h4 := h.e2; have h5 := h.e3; have h6 := h.e4; have h7 := h.e5; have h8 := h.e6
  cases Z
  dsimp only at *
  subst h1 h2 h3 h4 h5 h6 h7 h8
  rfl
/-- The paths of a direction on which any are, up to one. -/
def upP (N : N28) (w : Int) : Nat → List Int
  | 0 => []
  | j + 1 => upP N w j ++ (if bagB N.m (w, (j : Int)) = [] then [] else [(j : Int)])
theorem upP_len (N : N28) (w : Int) : ∀ j : Nat, (upP N w j).length ≤ j
  | 0 => by simp [upP]
  | j + 1 => by have := upP_len N w j; unfold upP; rw [List.length_append]; split <;> simp <;> omega
theorem upP_mem (N : N28) (w : Int) (x : Int) : ∀ j : Nat, x ∈ upP N w j ↔ (0 ≤ x ∧ x < (j : Int) ∧ bagB N.m (w, x) ≠ [])
  | 0 => by simp [upP]; omega
  | j + 1 => by
    unfold upP
    rw [List.mem_append, upP_mem N w x j]
    by_cases h : bagB N.m (w, (j : Int)) = []
    · rw [if_pos h]
      simp only [List.not_mem_nil, or_false]
      constructor
      · rintro ⟨a, b, c⟩; exact ⟨a, by omega, c⟩
      · rintro ⟨a, b, c⟩
        refine ⟨a, ?_, c⟩
        by_cases e : x = (j : Int)
        · subst e; exact absurd h c
        · omega
    · rw [if_neg h, List.mem_singleton]
      constructor
      · rintro (⟨a, b, c⟩ | rfl)
        · exact ⟨a, by omega, c⟩
        · exact ⟨by omega, by omega, h⟩
      · rintro ⟨a, b, c⟩
        by_cases e : x = (j : Int)
        · exact .inr e
        · exact .inl ⟨a, by omega, c⟩
theorem upP_lt (N : N28) (w : Int) : ∀ j : Nat, (upP N w j).Pairwise (fun a b => a < b)
  | 0 => by simp [upP]
  | j + 1 => by
    unfold upP
    rw [List.pairwise_append]
    refine ⟨upP_lt N w j, ?_, fun a ha b hb => ?_⟩
    · split <;> simp
    · have h1 := ((upP_mem N w a j).1 ha).2.1
      split at hb
      · cases hb
      · rw [List.mem_singleton] at hb; omega
theorem srt_eq {l l' : List Int} (hp : l.Perm l') (hs : l'.Pairwise (fun a b => a < b)) : srt l = l' := by
  have tr : ∀ a b c : Int, (decide (a ≤ b)) = true → (decide (b ≤ c)) = true → (decide (a ≤ c)) = true := by intro a b c h1 h2; simp only [decide_eq_true_eq] at *; omega
  have tt : ∀ a b : Int, (decide (a ≤ b) || decide (b ≤ a)) = true := by intro a b; simp only [Bool.or_eq_true, decide_eq_true_eq]; omega
  exact List.Perm.eq_of_pairwise (le := fun a b => decide (a ≤ b) = true) (fun a b _ _ h1 h2 => by simp only [decide_eq_true_eq] at h1 h2; omega) (List.pairwise_mergeSort tr tt l) (hs.imp fun {a b} h => by simp only [decide_eq_true_eq]; omega) ((List.mergeSort_perm l _).trans hp)
theorem getB_of {p : Ln × List (List UInt8)} : ∀ {m : Bags}, (m.map (·.1)).Nodup → p ∈ m → getB m p.1 = some p.2
  | [], _, h => by cases h
  | q :: m, hnd, hp => by
    rw [List.map_cons, List.nodup_cons] at hnd
    unfold getB
    rcases List.mem_cons.1 hp with rfl | hp
    · rw [if_pos rfl]
    · rw [if_neg (fun e => hnd.1 (by rw [e]; exact List.mem_map_of_mem hp))]
      exact getB_of hnd.2 hp
theorem bag_key {N : N28} {K : Int} (h : N.Ok K) (l : Ln) : l ∈ N.m.map (·.1) ↔ bagB N.m l ≠ [] := by
  constructor
  · intro hl
    obtain ⟨p, hp, rfl⟩ := List.mem_map.1 hl
    have h1 := (h.bags p hp).2.1
    have this := getB_of h.nd hp
    unfold bagB
    rw [this]
    exact h1
  · intro hb
    unfold bagB at hb
    cases hg : getB N.m l with
    | none => rw [hg] at hb; exact absurd rfl hb
    | some b => exact List.mem_map.2 ⟨_, getB_mem hg, rfl⟩
theorem paths_up {N : N28} {K : Int} (h : N.Ok K) (w : Int) : pathsB N w = upP N w 17 := by
  have hmem : ∀ x, x ∈ pkL w (N.m.map (·.1)) ↔ (w, x) ∈ N.m.map (·.1) := fun x => by
    unfold pkL
    rw [List.mem_map]
    constructor
    · rintro ⟨⟨a, b⟩, hp, rfl⟩
      rw [List.mem_filter] at hp
      have : a = w := by simpa using hp.2
      subst this
      exact hp.1
    · intro hp
      exact ⟨(w, x), List.mem_filter.2 ⟨hp, by simp⟩, rfl⟩
  have hnd : (pkL w (N.m.map (·.1))).Nodup := by
    unfold pkL
    refine List.pairwise_map.2 ((h.nd.filter _).imp_of_mem fun {a b} ha hb hab e => hab ?_)
    rw [List.mem_filter] at ha hb
    have h1 : a.1 = w := by simpa using ha.2
    have h2 : b.1 = w := by simpa using hb.2
    exact Prod.ext (h1.trans h2.symm) e
  refine srt_eq ((List.perm_ext_iff_of_nodup hnd ((upP_lt N w 17).imp fun {a b} h => by omega)).2 fun x => ?_) (upP_lt N w 17)
  rw [hmem, upP_mem, bag_key h]
  constructor
  · intro hb
    have hk := (bag_key h (w, x)).2 hb
    obtain ⟨p, hp, he⟩ := List.mem_map.1 hk
    have := (h.bags p hp).1
    rw [he] at this
    unfold lnOk at this
    rw [decide_eq_true_eq] at this
    dsimp only at this
    exact ⟨by omega, by omega, hb⟩
  · rintro ⟨_, _, hb⟩
    exact hb
/-- There are few lanes. -/
theorem net_keys {N : N28} {K : Int} (h : N.Ok K) : N.m.length ≤ 1000000000 := by
  have h1 : (N.m.map (·.1)).Sublist (N.m.map (·.1)) := List.Sublist.refl _
  have h2 : (N.m.map (fun p => p.1.1.toNat * 16 + p.1.2.toNat)).Nodup := by
    have := h.nd
    rw [List.Nodup, List.pairwise_map] at this ⊢
    refine this.imp_of_mem fun {a b} ha hb hab e => hab ?_
    have q1 := (h.bags a ha).1
    have q2 := (h.bags b hb).1
    unfold lnOk at q1 q2
    rw [decide_eq_true_eq] at q1 q2
    exact Prod.ext (by omega) (by omega)
  have h3 := nodup_len 32 _ h2 (fun i hi => by
    obtain ⟨p, hp, rfl⟩ := List.mem_map.1 hi
    have q1 := (h.bags p hp).1
    unfold lnOk at q1
    rw [decide_eq_true_eq] at q1
    omega)
  rw [List.length_map] at h3
  omega
set_option maxRecDepth 100000 in
set_option maxHeartbeats 8000000 in
theorem is_walk (N : N28) (Z : X28) (k : Nat) (h : Rel N Z k) (hk : k ≤ 1000) : Spec Try.prog 8 [.ptr 0 0, .ca (.val (xV Z))] [netO N] (.ca (.val (vb true))) [netO N] := by
  have hf := h.fit hk
  have hz := h.z
  obtain ⟨L, hL⟩ : ∃ L, L = Z.l := ⟨_, rfl⟩
  rw [← hL] at hz
  subst hz
  have hnm := net_keys h.ok
  have c1 := net_counts N
  have hcm := cmp_counts N.sent N.sent N.lost N.lost N.taken N.taken N.twins N.twins N.turned N.turned N.forged N.forged
  rw [show decide (N.sent = N.sent ∧ N.lost = N.lost ∧ N.taken = N.taken ∧ N.twins = N.twins ∧ N.turned = N.turned ∧ N.forged = N.forged) = true by simp, show (!true) = false from rfl] at hcm
  refine spec_of Try.func8 rfl Try.ntmps8 Try.results8 ⟨by decide, by simp⟩ fun C hC => ?_
  (repeat' ((fail_if_success (refine stop_reg 2 ?_)); (first | refine sp_ ?_ | exact ex0 | refine call_u Try.call25 (c1) [(1000, 0)] ex1 ?_ | (refine ret_s [] ?_; simp (decide := true) (disch := omega) only [go_sem, ↓reduceIte, ↓put_at]))))
  refine cmpA_s _ _ _ (.inr rfl) (by simp (decide := true) (disch := omega) only [go_sem, ↓reduceIte, ↓put_at]) (by simp (decide := true) (disch := omega) only [go_sem, ↓reduceIte, ↓put_at]) (by kernel_rfl) hcm ?_
  (repeat' ((fail_if_success (refine stop_reg 4 ?_)); (first | refine sp_ ?_ | exact ex0 | (refine ret_s [] ?_; simp (decide := true) (disch := omega) only [go_sem, ↓reduceIte, ↓put_at]))))
  clear c1 hcm
  refine loop_s (α := {w : Int // -1 ≤ w ∧ w ≤ 3}) (fun w => [(.o (1000, 0), .num 9), (.c (1000, 0) 0, .av (.val (vi N.most))), (.c (1000, 0) 1, .av (.val (vi N.bytes))), (.c (1000, 0) 2, .av (.ref (1000, 3) 0)), (.c (1000, 0) 3, .av (.val (vi N.sent))), (.c (1000, 0) 4, .av (.val (vi N.lost))), (.c (1000, 0) 5, .av (.val (vi N.taken))), (.c (1000, 0) 6, .av (.val (vi N.twins))), (.c (1000, 0) 7, .av (.val (vi N.turned))), (.c (1000, 0) 8, .av (.val (vi N.forged))), (.r (1000, 3), .tree (.mp (kvB 9 N.m))), (.s 0, .av (.ptr (1000, 0) 0 0)), (.o (3, 0), .num 9), (.c (3, 0) 0, .av (.val (vi N.most))), (.c (3, 0) 1, .av (.val (vi N.bytes))), (.c (3, 0) 2, .av (.val (.lst 3 (List.map oEl L)))), (.c (3, 0) 3, .av (.val (vi N.sent))), (.c (3, 0) 4, .av (.val (vi N.lost))), (.c (3, 0) 5, .av (.val (vi N.taken))), (.c (3, 0) 6, .av (.val (vi N.twins))), (.c (3, 0) 7, .av (.val (vi N.turned))), (.c (3, 0) 8, .av (.val (vi N.forged))), (.s 3, .av (.ptr (3, 0) 0 0)), (.s 5, .av (.val (vi w.1)))]) (fun w => (3 - w.1).toNat) ⟨-1, by decide, by decide⟩ ?_ (fun w => ?_)
  · simp (decide := true) (disch := omega) only [go_sem, ↓reduceIte, ↓put_at]
  obtain ⟨w, hw1, hw2⟩ := w
  dsimp only at hw1 hw2 ⊢
  by_cases hw3 : w ≤ 2
  · (repeat' ((fail_if_success (first | refine stop_at 7 ?_ | refine stop_l 7 ?_)); (first | refine sp_ ?_ | exact ex0 | (refine ret_s [] ?_; simp (decide := true) (disch := omega) only [go_sem, ↓reduceIte, ↓put_at]))))
    refine own_s 6 (6, 9) 3 1 ?_
    simp (decide := true) (disch := omega) only [go_sem, ↓reduceIte, ↓put_at]
    (repeat' ((fail_if_success (refine stop_reg 8 ?_)); (first | refine sp_ ?_ | exact ex0 | (refine ret_s [] ?_; simp (decide := true) (disch := omega) only [go_sem, ↓reduceIte, ↓put_at]))))
    refine loop_s (α := {p : Nat // p ≤ 17}) (fun p => [(.o (1000, 0), .num 9), (.c (1000, 0) 0, .av (.val (vi N.most))), (.c (1000, 0) 1, .av (.val (vi N.bytes))), (.c (1000, 0) 2, .av (.ref (1000, 3) 0)), (.c (1000, 0) 3, .av (.val (vi N.sent))), (.c (1000, 0) 4, .av (.val (vi N.lost))), (.c (1000, 0) 5, .av (.val (vi N.taken))), (.c (1000, 0) 6, .av (.val (vi N.twins))), (.c (1000, 0) 7, .av (.val (vi N.turned))), (.c (1000, 0) 8, .av (.val (vi N.forged))), (.r (1000, 3), .tree (.mp (kvB 9 N.m))), (.s 0, .av (.ptr (1000, 0) 0 0)), (.o (3, 0), .num 9), (.c (3, 0) 0, .av (.val (vi N.most))), (.c (3, 0) 1, .av (.val (vi N.bytes))), (.c (3, 0) 2, .av (.val (.lst 3 (List.map oEl L)))), (.c (3, 0) 3, .av (.val (vi N.sent))), (.c (3, 0) 4, .av (.val (vi N.lost))), (.c (3, 0) 5, .av (.val (vi N.taken))), (.c (3, 0) 6, .av (.val (vi N.twins))), (.c (3, 0) 7, .av (.val (vi N.turned))), (.c (3, 0) 8, .av (.val (vi N.forged))), (.s 3, .av (.ptr (3, 0) 0 0)), (.s 5, .av (.val (vi w))), (.k (6, 9), .row 3 1 (upP N w p.1).length), (.s 6, .av (.own (6, 9) 0 3 1 ((upP N w p.1).map nEl))), (.s 7, .av (.val (vi p.1)))]) (fun p => 17 - p.1) ⟨0, by decide⟩ ?_ (fun p => ?_)
    · rw [show upP N w 0 = [] from rfl]
      simp (decide := true) (disch := omega) only [go_sem, ↓reduceIte, ↓put_at]
    obtain ⟨p, hp⟩ := p
    dsimp only at hp ⊢
    have hul := upP_len N w p
    by_cases hp2 : p < 17
    · have q1 := net_all N (w, (p : Int)) h.ok
      have q2 := rx_all ⟨N.most, N.bytes, L, N.sent, N.lost, N.taken, N.twins, N.turned, N.forged⟩ (w, (p : Int)) hf.len
      have q3 := net_len N (w, (p : Int)) h.ok
      have hbb := h.bag (w, (p : Int))
      have hsm := (bagB_small h.ok (w, (p : Int))).1
      have hmo := h.ok.most
      have hus : upP N w (p + 1) = upP N w p ++ (if bagB N.m (w, (p : Int)) = [] then [] else [(p : Int)]) := rfl
      dsimp only at q1 q2 q3 hbb
      rw [← hbb] at q2
      generalize bagB N.m (w, (p : Int)) = B at *
      (repeat' ((fail_if_success (refine stop_reg 11 ?_)); (first | refine sp_ ?_ | exact ex0 | refine call_u Try.call26 (q1) [(1000, 0)] ex1 ?_ | refine call_u Try.call27 (q2) [] ex1 ?_ | (refine ret_s [] ?_; simp (decide := true) (disch := omega) only [go_sem, ↓reduceIte, ↓put_at]))))
      (repeat' ((fail_if_success (refine stop_reg 14 ?_)); (first | refine sp_ ?_ | exact ex0 | refine call_u Try.call14 (q3) [(1000, 0)] ex1 ?_ | (refine ret_s [] ?_; simp (decide := true) (disch := omega) only [go_sem, ↓reduceIte, ↓put_at]))))
      refine loop_s (α := {i : Nat // i ≤ B.length}) (fun i => [(.o (1000, 0), .num 9), (.c (1000, 0) 0, .av (.val (vi N.most))), (.c (1000, 0) 1, .av (.val (vi N.bytes))), (.c (1000, 0) 2, .av (.ref (1000, 3) 0)), (.c (1000, 0) 3, .av (.val (vi N.sent))), (.c (1000, 0) 4, .av (.val (vi N.lost))), (.c (1000, 0) 5, .av (.val (vi N.taken))), (.c (1000, 0) 6, .av (.val (vi N.twins))), (.c (1000, 0) 7, .av (.val (vi N.turned))), (.c (1000, 0) 8, .av (.val (vi N.forged))), (.r (1000, 3), .tree (.mp (kvB 9 N.m))), (.s 0, .av (.ptr (1000, 0) 0 0)), (.o (3, 0), .num 9), (.c (3, 0) 0, .av (.val (vi N.most))), (.c (3, 0) 1, .av (.val (vi N.bytes))), (.c (3, 0) 2, .av (.val (.lst 3 (List.map oEl L)))), (.c (3, 0) 3, .av (.val (vi N.sent))), (.c (3, 0) 4, .av (.val (vi N.lost))), (.c (3, 0) 5, .av (.val (vi N.taken))), (.c (3, 0) 6, .av (.val (vi N.twins))), (.c (3, 0) 7, .av (.val (vi N.turned))), (.c (3, 0) 8, .av (.val (vi N.forged))), (.s 3, .av (.ptr (3, 0) 0 0)), (.s 5, .av (.val (vi w))), (.k (6, 9), .row 3 1 (upP N w p).length), (.s 6, .av (.own (6, 9) 0 3 1 ((upP N w p).map nEl))), (.s 7, .av (.val (vi p))), (.r (27, 1), .tree (.rw 9 1 (B.map fun s => [vs s]))), (.s 8, .av (.ref (27, 1) 0)), (.s 9, .av (.val (.lst 1 (B.map fun s => [vs s])))), (.s 47, .av (.val (vi B.length))), (.s 48, .av (.val (vi i.1)))]) (fun i => B.length - i.1) ⟨0, Nat.zero_le _⟩ ?_ (fun i => ?_)
      · simp (decide := true) (disch := omega) only [go_sem, ↓reduceIte, ↓put_at]
      obtain ⟨i, hi⟩ := i
      dsimp only at hi ⊢
      clear q1 q2 q3
      by_cases hi2 : i < B.length
      · have hge : (B.map fun s => [vs s]).getD i [] = [vs B[i]] := by simp [hi2]
        have hbe : (B[i] == B[i]) = true := by simp
        (repeat' ((first | refine sp_ ?_ | exact ex0 | (refine ret_s [] ?_; simp (decide := true) (disch := omega) only [go_sem, ↓reduceIte, ↓put_at]))))
        (try simp only [hge, hbe])
        (repeat' ((first | refine sp_ ?_ | exact ex0 | (refine ret_s [] ?_; simp (decide := true) (disch := omega) only [go_sem, ↓reduceIte, ↓put_at]))))
        (try simp only [hge, hbe])
        (repeat' ((first | refine sp_ ?_ | exact ex0 | (refine ret_s [] ?_; simp (decide := true) (disch := omega) only [go_sem, ↓reduceIte, ↓put_at]))))
        refine next_s (α := {i : Nat // i ≤ B.length}) ⟨i + 1, hi2⟩ ⟨?_, by (try dsimp only); omega⟩
        (try dsimp only)
        simp (decide := true) (disch := omega) only [go_sem, ↓reduceIte, ↓put_at]
      · obtain rfl : i = B.length := by omega
        by_cases hB : B = []
        · rw [if_pos hB, List.append_nil] at hus
          subst hB
          (repeat' ((first | refine sp_ ?_ | exact ex0 | (refine ret_s [] ?_; simp (decide := true) (disch := omega) only [go_sem, ↓reduceIte, ↓put_at]))))
          refine next_s (α := {p : Nat // p ≤ 17}) ⟨p + 1, hp2⟩ ⟨?_, by (try dsimp only); omega⟩
          (try dsimp only)
          rw [hus]
          simp (decide := true) (disch := omega) only [go_sem, ↓reduceIte, ↓put_at]
        · have hBl : 0 < B.length := List.length_pos_iff.2 hB
          rw [if_neg hB] at hus
          (repeat' ((first | refine sp_ ?_ | exact ex0 | (refine ret_s [] ?_; simp (decide := true) (disch := omega) only [go_sem, ↓reduceIte, ↓put_at]))))
          refine next_s (α := {p : Nat // p ≤ 17}) ⟨p + 1, hp2⟩ ⟨?_, by (try dsimp only); omega⟩
          (try dsimp only)
          rw [hus]
          simp (decide := true) (disch := omega) only [go_sem, ↓reduceIte, ↓put_at]
          rw [List.map_append]
          rfl
    · obtain rfl : p = 17 := by omega
      have q4 := net_paths N w hnm
      rw [paths_up h.ok] at q4
      have q5 : Spec Try.prog 28 [.ca (.val (.lst 1 ((upP N w 17).map nEl))), .ca (.val (.lst 1 ((upP N w 17).map nEl)))] [] (.ca (.val (vb true))) [] := by
        have q := q_same (upP N w 17) (upP N w 17) (by unfold maxLen; omega) (by unfold maxLen; omega)
        rw [show decide (upP N w 17 = upP N w 17) = true by simp] at q
        exact q
      (repeat' ((first | refine sp_ ?_ | exact ex0 | refine call_u Try.call29 (q4) [(1000, 0)] ex1 ?_ | refine pcall_u Try.call28 (q5) ex1 ?_ | (refine ret_s [] ?_; simp (decide := true) (disch := omega) only [go_sem, ↓reduceIte, ↓put_at]))))
      refine next_s (α := {w : Int // -1 ≤ w ∧ w ≤ 3}) ⟨w + 1, by omega, by omega⟩ ⟨?_, by (try dsimp only); omega⟩
      (try dsimp only)
      simp (decide := true) (disch := omega) only [go_sem, ↓reduceIte, ↓put_at]
  · (repeat' ((first | refine sp_ ?_ | exact ex0 | (refine ret_s [] ?_; simp (decide := true) (disch := omega) only [go_sem, ↓reduceIte, ↓put_at]))))
end Go.Proofs.Ytdkgnlmojmafbaa
