
/- Package net: some of the bits of one are turned; walked. -/
import Derived.Test.YtdkgnlmojmafbaaNet3
import Derived.Test.YtdkgnlmojmafbaaCrc2
namespace Go.Proofs.Ytdkgnlmojmafbaa
open Go.RowKit
set_option linter.unusedVariables false
set_option linter.unusedSimpArgs false

def turnB (N : N28) (l : Ln) (i a : Int) (m : Nat) : N28 := if isB N l i = true then { N with m := setB N.m l ((bagB N.m l).set i.toNat (turnS (atB N l i) a m)), turned := N.turned + 1 } else N
theorem sumB_set : ∀ (b : List (List UInt8)) (k : Nat) (x : List UInt8) (h : k < b.length), x.length = b[k].length → sumB (b.set k x) = sumB b
  | s :: b, 0, x, _, hx => by simp at hx; simp [sumB, hx]
  | s :: b, k + 1, x, h, hx => by
    simp at hx
    simp only [List.set_cons_succ, sumB]
    rw [sumB_set b k x (by simpa using h) hx]
theorem atB_get {N : N28} {l : Ln} {i : Int} (hi : isB N l i = true) : ∃ h : i.toNat < (bagB N.m l).length, atB N l i = (bagB N.m l)[i.toNat] := by
  have h0 := hi
  unfold isB at hi
  rw [decide_eq_true_eq] at hi
  have hlt : i.toNat < (bagB N.m l).length := by omega
  refine ⟨hlt, ?_⟩
  unfold atB
  rw [if_pos h0]
  simp [hlt]
theorem bag_mem0 {m : Bags} {l : Ln} {s : List UInt8} (h : s ∈ bagB m l) : ∃ b, (l, b) ∈ m ∧ s ∈ b ∧ bagB m l = b := by
  unfold bagB at h ⊢
  cases hg : getB m l with
  | none => rw [hg] at h; cases h
  | some b => rw [hg] at h; exact ⟨b, getB_mem hg, h, rfl⟩
theorem turn_ok {N : N28} {K : Int} (h : N.Ok K) (l : Ln) (i a : Int) (m : Nat) : (turnB N l i a m).Ok (K + 1) := by
  unfold turnB
  split
  · rename_i hc
    have g : ({ N with m := setB N.m l ((bagB N.m l).set i.toNat (turnS (atB N l i) a m)) } : N28).Ok K := by
      refine ⟨h.most, h.bytes, setB_nodup h.nd, fun p hp => ?_, h.c1, h.c2, h.c3, h.c4, h.c5, h.c6⟩
      dsimp only at hp
      rcases setB_mem hp with rfl | hp
      · obtain ⟨hlt, hat⟩ := atB_get hc
        obtain ⟨b, hb, _, hbe⟩ := bag_mem0 (List.getElem_mem hlt)
        obtain ⟨a1, a2, a3, a4⟩ := h.bags _ hb
        dsimp only at a1 a2 a3 a4
        rw [← hbe] at a2 a3 a4
        refine ⟨a1, fun e => ?_, ?_, ?_⟩
        · have := congrArg List.length e
          dsimp only at this
          rw [List.length_set] at this
          exact a2 (List.length_eq_zero_iff.1 this)
        · dsimp only; rw [List.length_set]; exact a3
        · dsimp only; rw [sumB_set _ _ _ hlt (by rw [turnS_len, hat])]; exact a4
      · exact h.bags p hp
    exact Ok.turned g
  · exact h.mono (by omega)
set_option maxRecDepth 100000 in
set_option maxHeartbeats 8000000 in
theorem net_turn (N : N28) (l : Ln) (i a : Int) (m : Nat) {K : Int} (h : N.Ok K) (hK : K ≤ 1099511627776) (hm : m < 4294967296) : Spec Try.prog 22 [.ptr 0 0, .ca (.val (vi l.1)), .ca (.val (vi l.2)), .ca (.val (vi i)), .ca (.val (vi a)), .ca (.val (vu m))] [netO N] (.ca (.val (vb (isB N l i)))) [netO (turnB N l i a m)] := by
  have c1 := net_at N l i h
  have hl := atB_len h l i
  have hnd := h.nd
  have hc5 := h.c5
  by_cases hi : isB N l i = true
  · obtain ⟨hlt, hat⟩ := atB_get hi
    have c2 := crc_turn (atB N l i) a m (by omega) hm
    cases hg : getB N.m l with
    | none =>
      have hbag : bagB N.m l = [] := by unfold bagB; rw [hg]; rfl
      rw [hbag] at hlt
      simp at hlt
    | some b =>
      obtain ⟨B1, B2⟩ := bagB_small h l
      have hm := h.most
      clear h
      obtain ⟨j, hj⟩ := getB_at 9 l b N.m hg
      have hbag : bagB N.m l = b := by unfold bagB; rw [hg]; rfl
      obtain ⟨o1, o2, o3, o4, o5⟩ := kv_over (kvB_nodup 9 hnd) (a := .av .any) hj
      have hi0 := hi
      unfold isB at hi0
      rw [decide_eq_true_eq] at hi0
      rw [turnB, if_pos hi, hi]
      rw [hi] at c1
      rw [hbag] at B1 B2 hi0 hlt ⊢
      obtain ⟨k, rfl⟩ : ∃ k : Nat, i = k := ⟨i.toNat, by omega⟩
      rw [Int.toNat_natCast] at hlt ⊢
      generalize turnS (atB N l k) a m = s' at *
      generalize atB N l k = s at *
      have hset : ((kvB 9 N.m).set j (lnV l, .av .any)).set j (lnV l, .rw 9 1 ((b.map fun s => [vs s]).set k [vs s'])) = kvB 9 (setB N.m l (b.set k s')) := by
        rw [List.set_set, ← kv_set]
        obtain ⟨_, a2, _⟩ := kv_at (kvB_nodup 9 hnd) hj
        rw [a2]
        unfold rowB
        rw [List.map_set]
      generalize (setB N.m l (b.set k s')) = m2 at *
      refine spec_of Try.func22 rfl Try.ntmps22 Try.results22 ⟨by decide, by simp⟩ fun C hC => ?_
      (repeat' ((first | refine sp_ ?_ | exact ex0 | refine call_u Try.call33 (c1) [(1000, 0)] ex1 ?_ | (refine ret_s [] ?_; simp (decide := true) (disch := omega) only [go_sem, ↓reduceIte, ↓put_at]))))
      refine lkR_s (1000, 3) (kvB 9 N.m) j (lnV l) (lnE l) 9 1 (b.map fun s => [vs s]) _ _ ln_map (by simp (decide := true) (disch := omega) only [go_sem, ↓reduceIte, ↓put_at]) (ln_val l) (ln_keys l _) hj (by decide) ?_
      generalize (kvB 9 N.m).set j (lnV l, .av .any) = M1 at *
      (repeat' ((fail_if_success (first | refine stop_at 5 ?_ | refine stop_l 5 ?_)); (first | refine sp_ ?_ | exact ex0 | refine call_u Try.call39 (c2) [] ex1 ?_ | (refine ret_s [] ?_; simp (decide := true) (disch := omega) only [go_sem, ↓reduceIte, ↓put_at]))))
      refine bck_s (1000, 3) (32, 1) M1 (kvB 9 m2) j (lnV l) .any 9 1 ((b.map fun s => [vs s]).set k [vs s']) o4 hset ⟨by simp (decide := true) (disch := omega) only [go_sem, ↓reduceIte, ↓put_at], ?_⟩
      (repeat' ((first | refine sp_ ?_ | exact ex0 | (refine ret_s [] ?_; simp (decide := true) (disch := omega) only [go_sem, ↓reduceIte, ↓put_at]))))
  · rw [Bool.not_eq_true] at hi
    have ha : atB N l i = [] := by rw [atB, hi, if_neg (by decide)]
    rw [turnB, hi, if_neg (by decide)]
    rw [hi, ha] at c1
    refine spec_of Try.func22 rfl Try.ntmps22 Try.results22 ⟨by decide, by simp⟩ fun C hC => ?_
    (repeat' ((first | refine sp_ ?_ | exact ex0 | refine call_u Try.call33 (c1) [(1000, 0)] ex1 ?_ | (refine ret_s [] ?_; simp (decide := true) (disch := omega) only [go_sem, ↓reduceIte, ↓put_at]))))
end Go.Proofs.Ytdkgnlmojmafbaa
