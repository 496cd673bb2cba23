
/- Adverts read from their piece; walked. -/
import Derived.Test.YtdgkehoodlncmaaMrg4
namespace Go.Proofs.Ytdgkehoodlncmaa
open Go.RowKit
set_option linter.unusedVariables false
set_option linter.unusedSimpArgs false

set_option maxRecDepth 100000 in
theorem nep_ (a1 b1 : Int) (a2 b2 : Int) (a3 b3 : List UInt8) (w : World) : (binOp .neq 74 (.agg [.int .i64 a1, .int .i64 a2, str a3].toArray) (.agg [.int .i64 b1, .int .i64 b2, str b3].toArray)).run Try.prog w = .ok (.bool (!decide (a1 = b1 ∧ a2 = b2 ∧ a3 = b3))) w := by
  by_cases h1 : a1 = b1
  · by_cases h2 : a2 = b2
    · by_cases h3 : a3 = b3
      · subst h1 h2 h3; simp [go_sem]
      · have e : (a3 == b3) = false := by simpa using h3
        simp [go_sem, h1, h2, h3, e]
    · simp [go_sem, h1, h2]
  · simp [go_sem, h1]
set_option maxRecDepth 100000 in
set_option maxHeartbeats 4000000 in
theorem sf_to (src : Int) (hs : 0 ≤ src ∧ src < 4294967296) (l : List En) (hu : Up16 l) (ho : ∀ e ∈ l, okE e) (hl : l.length ≤ 15) :
    Spec Try.prog 31 [.ca (.val (.agg [vi 2, vi 211, vs (adsB src l)]))] [] (.ca (.val (.tup [.agg (adV src l), vi 0]))) [] := by
  have hal := adsB_len src l
  have c0 := pen_of (adsB src l)
  have hsp := raw_put src 4 (l.flatMap adB) (by omega)
  have c1 := in_u32 (adsB src l) 0 (by unfold maxLen; omega)
  have hB : adsB src l = putZ src 4 ++ l.flatMap adB := rfl
  rw [← hB] at hsp
  obtain ⟨p1, p2, p3⟩ := hsp
  change Spec Try.prog 84 _ _ (.ca (.val (vu (getN (rawT (adsB src l) (4 : Nat)))))) [inO (rawL (adsB src l) 0 (4 : Nat)) (rawE (adsB src l) 0 (4 : Nat))] at c1
  rw [p1, p2, p3] at c1
  have cp := sf_piece src hs l hu ho (by omega)
  clear p1 p2 p3 hB
  generalize adsB src l = BB at *
  refine spec_of Try.func31 rfl Try.ntmps31 Try.results31 ⟨by decide, by simp⟩ fun C hC => ?_
  (repeat' ((fail_if_success (refine stop_reg 5 ?_)); (first | refine aw_seq ?_ | refine aw_block ?_ | refine aw_reg hC (by kernel_rfl) ?_ | refine aw_regd hC Try.checked.mixed (by kernel_rfl) ?_ | refine chk_and (by kernel_rfl) ?_ | refine aw_skip ?_ | refine aw_if ?_ | refine And.intro (by first | omega | with_reducible assumption) ?_ | refine aw_exit ?_ | refine aw_ret ?_ | (simp (decide := true) (disch := omega) only [go_sem, ↓reduceIte, ↓put_at]) | refine call_u Try.call83 (c0) [] (by simp (decide := true) (disch := omega) only [go_sem, ↓reduceIte, ↓put_at]; first | done | assumption | omega) ?_ | refine call_u Try.call84 (c1) [(17, 0)] (by simp (decide := true) (disch := omega) only [go_sem, ↓reduceIte, ↓put_at]; first | done | assumption | omega) ?_ | (refine ret_s [] ?_; simp (decide := true) (disch := omega) only [go_sem, ↓reduceIte, ↓put_at]))))
  refine own_c (5, 0) 1 (5, 2) 159 3 ?_
  simp (decide := true) (disch := omega) only [go_sem, ↓reduceIte, ↓put_at]
  refine loop_s (α := {j : Nat // j ≤ l.length}) (fun j => [(.o (1, 0), .num 3), (.c (1, 0) 0, .av (.val (vi 2))), (.c (1, 0) 1, .av (.val (vi 211))), (.c (1, 0) 2, .av (.val (vs BB))), (.s 1, .av (.ptr (1, 0) 0 0)), (.o (2, 0), .num 2), (.c (2, 0) 0, .av (.val (vu 0))), (.c (2, 0) 1, .av (.val (.sc (.slice none 0 0)))), (.s 2, .av (.ptr (2, 0) 0 0)), (.s 3, .av (.val (vi 0))), (.o (17, 0), .num 2), (.c (17, 0) 0, .av (.val (vs ((l.drop j.1).flatMap adB)))), (.c (17, 0) 1, .av (.val (vi 0))), (.s 4, .av (.ptr (17, 0) 0 0)), (.o (5, 0), .num 2), (.c (5, 0) 0, .av (.val (vu src))), (.k (5, 2), .row 159 3 (l.take j.1).length), (.c (5, 0) 1, .av (.own (5, 2) 0 159 3 ((l.take j.1).map enEl))), (.s 5, .av (.ptr (5, 0) 0 0))]) (fun j => l.length - j.1) ⟨0, Nat.zero_le _⟩ ?_ (fun j => ?_)
  · simp (decide := true) (disch := omega) only [go_sem, ↓reduceIte, ↓put_at]
  · obtain ⟨j, hj⟩ := j
    dsimp only at hj ⊢
    have hfl : ∀ k : List En, (k.flatMap adB).length = 4 * k.length := fun k => by
      induction k with
      | nil => rfl
      | cons y ys ih => simp [adB_len, ih]; omega
    have hlen := hfl (l.drop j)
    rw [List.length_drop] at hlen
    have ctk : (l.take j).length = j := by rw [List.length_take]; omega
    by_cases hlt : j < l.length
    · have hok := ho _ (List.getElem_mem hlt)
      have hd : (l.drop j).flatMap adB = putZ l[j].id 1 ++ (putZ (upZ l[j].up) 1 ++ (putZ l[j].rate 2 ++ (l.drop (j + 1)).flatMap adB)) := by
        rw [List.drop_eq_getElem_cons hlt, List.flatMap_cons]
        simp only [adB, List.append_assoc]
      have hsn : l.take (j + 1) = l.take j ++ [l[j]] := (List.take_append_getElem hlt).symm
      have hlen2 := hfl (l.drop (j + 1))
      rw [List.length_drop] at hlen2
      generalize l[j] = w at *
      obtain ⟨k1, k2, k3, k4⟩ := hok
      have hup : 0 ≤ upZ w.up ∧ upZ w.up < 256 := by unfold upZ; split <;> omega
      obtain ⟨R3, hR3⟩ : ∃ R3, R3 = (l.drop (j + 1)).flatMap adB := ⟨_, rfl⟩
      rw [← hR3] at hd hlen2
      have cl := in_left ((l.drop j).flatMap adB) 0
      generalize (l.drop j).flatMap adB = R0 at *
      obtain ⟨R2, hR2⟩ : ∃ R2, R2 = putZ w.rate 2 ++ R3 := ⟨_, rfl⟩
      obtain ⟨R1, hR1⟩ : ∃ R1, R1 = putZ (upZ w.up) 1 ++ R2 := ⟨_, rfl⟩
      rw [← hR2, ← hR1] at hd
      have l2 : R2.length = 2 + R3.length := by rw [hR2, List.length_append, putZ_length]
      have l1 : R1.length = 1 + R2.length := by rw [hR1, List.length_append, putZ_length]
      have s1 := raw_put w.id 1 R1 (by omega)
      have s2 := raw_put (upZ w.up) 1 R2 (by omega)
      have s3 := raw_put w.rate 2 R3 (by omega)
      rw [← hd] at s1
      rw [← hR1] at s2
      rw [← hR2] at s3
      have u1 := in_u8 R0 0 (by unfold maxLen; omega)
      have u2 := in_u8 R1 0 (by unfold maxLen; omega)
      have u3 := in_u16 R2 0 (by unfold maxLen; omega)
      change Spec Try.prog 86 _ _ (.ca (.val (vi (getN (rawT R0 (1 : Nat)))))) [inO (rawL R0 0 (1 : Nat)) (rawE R0 0 (1 : Nat))] at u1
      change Spec Try.prog 86 _ _ (.ca (.val (vi (getN (rawT R1 (1 : Nat)))))) [inO (rawL R1 0 (1 : Nat)) (rawE R1 0 (1 : Nat))] at u2
      change Spec Try.prog 87 _ _ (.ca (.val (vi (getN (rawT R2 (2 : Nat)))))) [inO (rawL R2 0 (2 : Nat)) (rawE R2 0 (2 : Nat))] at u3
      rw [s1.1, s1.2.1, s1.2.2] at u1
      rw [s2.1, s2.2.1, s2.2.2] at u2
      rw [s3.1, s3.2.1, s3.2.2] at u3
      clear s1 s2 s3 hd hR1 hR2
      obtain ⟨wi, wu, wr⟩ := w
      (try dsimp only at *)
      cases wu with
      | true =>
        simp only [upZ, if_true] at u2
        (repeat' ((first | refine aw_seq ?_ | refine aw_block ?_ | refine aw_reg hC (by kernel_rfl) ?_ | refine aw_regd hC Try.checked.mixed (by kernel_rfl) ?_ | refine chk_and (by kernel_rfl) ?_ | refine aw_skip ?_ | refine aw_if ?_ | refine And.intro (by first | omega | with_reducible assumption) ?_ | refine aw_exit ?_ | refine aw_ret ?_ | (simp (decide := true) (disch := omega) only [go_sem, ↓reduceIte, ↓put_at]) | refine call_u Try.call85 (cl) [(17, 0)] (by simp (decide := true) (disch := omega) only [go_sem, ↓reduceIte, ↓put_at]; first | done | assumption | omega) ?_ | refine call_u Try.call86 (u1) [(17, 0)] (by simp (decide := true) (disch := omega) only [go_sem, ↓reduceIte, ↓put_at]; first | done | assumption | omega) ?_ | refine call_u Try.call86 (u2) [(17, 0)] (by simp (decide := true) (disch := omega) only [go_sem, ↓reduceIte, ↓put_at]; first | done | assumption | omega) ?_ | refine call_u Try.call87 (u3) [(17, 0)] (by simp (decide := true) (disch := omega) only [go_sem, ↓reduceIte, ↓put_at]; first | done | assumption | omega) ?_ | (refine ret_s [] ?_; simp (decide := true) (disch := omega) only [go_sem, ↓reduceIte, ↓put_at]))))
        refine next_s (α := {j : Nat // j ≤ l.length}) ⟨j + 1, hlt⟩ ⟨?_, ?_⟩
        · (try dsimp only)
          rw [hsn, ← hR3]
          simp (decide := true) (disch := omega) only [go_sem, ↓reduceIte, ↓put_at]
          rw [List.map_append]; rfl
        · (try dsimp only)
          omega
      | false =>
        simp only [upZ, Bool.false_eq_true, if_false] at u2
        (repeat' ((first | refine aw_seq ?_ | refine aw_block ?_ | refine aw_reg hC (by kernel_rfl) ?_ | refine aw_regd hC Try.checked.mixed (by kernel_rfl) ?_ | refine chk_and (by kernel_rfl) ?_ | refine aw_skip ?_ | refine aw_if ?_ | refine And.intro (by first | omega | with_reducible assumption) ?_ | refine aw_exit ?_ | refine aw_ret ?_ | (simp (decide := true) (disch := omega) only [go_sem, ↓reduceIte, ↓put_at]) | refine call_u Try.call85 (cl) [(17, 0)] (by simp (decide := true) (disch := omega) only [go_sem, ↓reduceIte, ↓put_at]; first | done | assumption | omega) ?_ | refine call_u Try.call86 (u1) [(17, 0)] (by simp (decide := true) (disch := omega) only [go_sem, ↓reduceIte, ↓put_at]; first | done | assumption | omega) ?_ | refine call_u Try.call86 (u2) [(17, 0)] (by simp (decide := true) (disch := omega) only [go_sem, ↓reduceIte, ↓put_at]; first | done | assumption | omega) ?_ | refine call_u Try.call87 (u3) [(17, 0)] (by simp (decide := true) (disch := omega) only [go_sem, ↓reduceIte, ↓put_at]; first | done | assumption | omega) ?_ | (refine ret_s [] ?_; simp (decide := true) (disch := omega) only [go_sem, ↓reduceIte, ↓put_at]))))
        refine next_s (α := {j : Nat // j ≤ l.length}) ⟨j + 1, hlt⟩ ⟨?_, ?_⟩
        · (try dsimp only)
          rw [hsn, ← hR3]
          simp (decide := true) (disch := omega) only [go_sem, ↓reduceIte, ↓put_at]
          rw [List.map_append]; rfl
        · (try dsimp only)
          omega
    · obtain rfl : j = l.length := by omega
      have cl := in_left ((l.drop l.length).flatMap adB) 0
      rw [List.drop_length, List.take_length] at *
      (repeat' ((first | refine aw_seq ?_ | refine aw_block ?_ | refine aw_reg hC (by kernel_rfl) ?_ | refine aw_regd hC Try.checked.mixed (by kernel_rfl) ?_ | refine chk_and (by kernel_rfl) ?_ | refine aw_skip ?_ | refine aw_if ?_ | refine And.intro (by first | omega | with_reducible assumption) ?_ | refine aw_exit ?_ | refine aw_ret ?_ | (simp (decide := true) (disch := omega) only [go_sem, ↓reduceIte, ↓put_at]) | refine call_u Try.call85 (cl) [(17, 0)] (by simp (decide := true) (disch := omega) only [go_sem, ↓reduceIte, ↓put_at]; first | done | assumption | omega) ?_ | refine call_u Try.call33 (cp) [] (by simp (decide := true) (disch := omega) only [go_sem, ↓reduceIte, ↓put_at]; first | done | assumption | omega) ?_ | (refine ret_s [] ?_; simp (decide := true) (disch := omega) only [go_sem, ↓reduceIte, ↓put_at]))))
      refine cmpA_s _ _ _ (.inr rfl) (by simp (decide := true) (disch := omega) only [go_sem, ↓reduceIte, ↓put_at]) (by simp (decide := true) (disch := omega) only [go_sem, ↓reduceIte, ↓put_at]) (by kernel_rfl) (nep_ 2 2 211 211 BB BB) ?_
      (repeat' ((first | refine aw_seq ?_ | refine aw_block ?_ | refine aw_reg hC (by kernel_rfl) ?_ | refine aw_regd hC Try.checked.mixed (by kernel_rfl) ?_ | refine chk_and (by kernel_rfl) ?_ | refine aw_skip ?_ | refine aw_if ?_ | refine And.intro (by first | omega | with_reducible assumption) ?_ | refine aw_exit ?_ | refine aw_ret ?_ | (simp (decide := true) (disch := omega) only [go_sem, ↓reduceIte, ↓put_at]) | (refine ret_s [] ?_; simp (decide := true) (disch := omega) only [go_sem, ↓reduceIte, ↓put_at]))))
end Go.Proofs.Ytdgkehoodlncmaa
