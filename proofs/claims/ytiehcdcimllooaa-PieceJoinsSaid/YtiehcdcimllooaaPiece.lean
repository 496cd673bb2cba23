/- What each function of package piece does. -/
import Derived.Test.YtiehcdcimllooaaPenRef
import Derived.Test.YtiehcdcimllooaaPieceM
import Derived.Test.YtiehcdcimllooaaOpen
namespace Go.Proofs.Ytiehcdcimllooaa
open Go.RowKit
set_option linter.unusedVariables false
set_option linter.unusedSimpArgs false

/-- A struct of two numbers and a text, as a value and as cells. -/
abbrev tri (p : Pc) : Value := .agg #[.int .i64 p.1, .int .i64 p.2.1, str p.2.2]
def triCells (p : Pc) : List Value := [.int .i64 p.1, .int .i64 p.2.1, str p.2.2]

theorem kind_yes (k : Int) (w : World) (h0 : 192 ≤ k) (h1 : k ≤ 223) : Calls Try.prog 77 #[.int .i64 k] w fun e w' => e = .returned (.bool true) ∧ w = w' := by
  go_enter Try.func77, Try.ntmps77
  go_wp2
  go_ret
  exact ⟨rfl, rfl⟩
theorem kind_no (k : Int) (w : World) (h : ¬ (192 ≤ k ∧ k ≤ 223)) : Calls Try.prog 77 #[.int .i64 k] w fun e w' => e = .returned (.bool false) ∧ w = w' := by
  by_cases h0 : 192 ≤ k
  · have h1 : 223 < k := by omega
    clear h
    go_enter Try.func77, Try.ntmps77
    go_wp2
    go_ret
    exact ⟨ret_bool (by simp; omega), rfl⟩
  · have h1 : k < 192 := by omega
    clear h
    go_enter Try.func77, Try.ntmps77
    go_wp2
    go_ret
    exact ⟨rfl, rfl⟩

set_option maxRecDepth 100000 in
theorem piece_check (p : Pc) (w : World) (hl : p.2.2.length ≤ maxLen) : Calls Try.prog 52 #[tri p] w fun e w' => e = .returned (.int .i64 (checkE p)) ∧ Chg Nothing w w' := by
  obtain ⟨c, k, b⟩ := p
  simp only at hl
  unfold maxLen at hl
  have hcl : ∀ (x : Int), x = checkE (c, k, b) → Ending.returned (.int .i64 x) = .returned (.int .i64 (checkE (c, k, b))) := fun x h => by rw [h]
  have HC := Lib.hid hcl
  clear hcl
  by_cases h0 : c < 0
  · go_enter Try.func52, Try.ntmps52
    go_wp2
    go_ret
    exact ⟨HC.out 6 (by rw [checkE, if_neg (by rw [mayP_iff]; simp only; omega)]), (Chg.refl _ _).alloc _⟩
  by_cases h1 : 31 < c
  · have h0' : 0 ≤ c := by omega
    go_enter Try.func52, Try.ntmps52
    go_wp2
    go_ret
    exact ⟨HC.out 6 (by rw [checkE, if_neg (by rw [mayP_iff]; simp only; omega)]), (Chg.refl _ _).alloc _⟩
  have h0' : 0 ≤ c := by omega
  have h1' : c ≤ 31 := by omega
  clear h0 h1
  by_cases hk : 192 ≤ k ∧ k ≤ 223
  · obtain ⟨k0, k1⟩ := hk
    by_cases hm : b.length % 4 = 0
    · have hm' : ((b.length : Int) % 4 != 0) = false := by simp; omega
      have HM := Lib.hid hm
      clear hm
      by_cases hb : 262140 < (b.length : Int)
      · go_enter Try.func52, Try.ntmps52
        go_wp2_with (go_at_call 77; refine (kind_yes k _ k0 k1).mono ?_; rintro e w' ⟨rfl, rfl⟩)
        go_ret
        exact ⟨HC.out 6 (by rw [checkE, if_neg (by rw [mayP_iff]; simp only; omega)]), (Chg.refl _ _).alloc _⟩
      · have hb' : (b.length : Int) ≤ 262140 := by omega
        clear hb
        go_enter Try.func52, Try.ntmps52
        go_wp2_with (go_at_call 77; refine (kind_yes k _ k0 k1).mono ?_; rintro e w' ⟨rfl, rfl⟩)
        go_ret
        exact ⟨HC.out 0 (by rw [checkE, if_pos (by rw [mayP_iff]; simp only; have := HM.out; omega)]), (Chg.refl _ _).alloc _⟩
    · have hm' : ((b.length : Int) % 4 != 0) = true := by simp; omega
      have HM := Lib.hid hm
      clear hm
      go_enter Try.func52, Try.ntmps52
      go_wp2_with (go_at_call 77; refine (kind_yes k _ k0 k1).mono ?_; rintro e w' ⟨rfl, rfl⟩)
      go_ret
      exact ⟨HC.out 6 (by rw [checkE, if_neg (by rw [mayP_iff]; simp only; have := HM.out; omega)]), (Chg.refl _ _).alloc _⟩
  · have HK := Lib.hid hk
    clear hk
    go_enter Try.func52, Try.ntmps52
    go_wp2_with (go_at_call 77; refine (kind_no k _ HK.out).mono ?_; rintro e w' ⟨rfl, rfl⟩)
    go_ret
    exact ⟨HC.out 6 (by rw [checkE, if_neg (by rw [mayP_iff]; simp only; have := HK.out; omega)]), (Chg.refl _ _).alloc _⟩

theorem tri_at {w : World} {A : Option Addr} {n k : Nat} {xs : List Pc} (h : ArgRows w A 3 n (xs.map triCells)) (hk : k < xs.length) :
    ∃ b o, A = some ⟨b, o, none⟩ ∧ b < w.heap.size ∧ w.cell? ⟨b, o + k * 3, none⟩ = some (.int .i64 xs[k].1) ∧ w.cell? ⟨b, o + k * 3 + 1, none⟩ = some (.int .i64 xs[k].2.1) ∧ w.cell? ⟨b, o + k * 3 + 2, none⟩ = some (str xs[k].2.2) := by
  obtain ⟨b, o, hA, hb, hc⟩ := h.2.2 k (by simpa using hk)
  refine ⟨b, o, hA, hb, ?_, ?_, ?_⟩
  · simpa [triCells] using hc 0 (.int .i64 xs[k].1) (by simp [triCells])
  · simpa [triCells, Nat.add_assoc] using hc 1 (.int .i64 xs[k].2.1) (by simp [triCells])
  · simpa [triCells, Nat.add_assoc] using hc 2 (str xs[k].2.2) (by simp [triCells])

theorem or128 (c : Int) (h0 : 0 ≤ c) (h1 : c ≤ 31) : bits .or .i64 128 c = 128 + c := i64_join 5 128 c (by decide) (by decide) (by decide) h0 (by omega) (by omega)
theorem all_take {xs : List Pc} {k : Nat} (h : k < xs.length) (ht : (xs.take k).all mayP = true) (hp : mayP xs[k] = true) : (xs.take (k + 1)).all mayP = true := by
  rw [List.take_succ_eq_append_getElem h, List.all_append]; simp [ht, hp]
theorem packP_bad {xs : List Pc} {k : Nat} (h : k < xs.length) (hp : mayP xs[k] ≠ true) : packP xs = [] := by
  unfold packP
  rw [if_neg]
  intro ha
  rw [List.all_eq_true] at ha
  exact hp (ha _ (List.getElem_mem h))

theorem pack_len {xs : List Pc} (h : ∀ x ∈ xs, x.2.2.length ≤ 262144 ∧ (-9223372036854775807 ≤ x.1 + 1 ∧ x.1 ≤ 9223372036854775807)) (k : Nat) (hk : k ≤ 65536) : ((xs.take k).flatMap packOne).length ≤ 65536 * 262148 := by
  have hg : ∀ ys : List Pc, (∀ y ∈ ys, y.2.2.length ≤ 262144) → (ys.flatMap packOne).length ≤ ys.length * 262148 := by
    intro ys
    induction ys with
    | nil => intro _; simp
    | cons y ys ih =>
      intro hy
      have h1 := hy y List.mem_cons_self
      have h2 := ih fun z hz => hy z (List.mem_cons_of_mem _ hz)
      rw [List.flatMap_cons, List.length_append, packOne_length, List.length_cons, Nat.add_mul]
      omega
  refine Nat.le_trans (hg _ fun y hy => (h y (List.mem_of_mem_take hy)).1) ?_
  exact Nat.mul_le_mul_right _ (Nat.le_trans (by rw [List.length_take]; exact Nat.min_le_left _ _) hk)

set_option maxRecDepth 100000 in
set_option maxHeartbeats 8000000 in
theorem piece_pack (A : Option Addr) (n c : Nat) (xs : List Pc) (w : World) (hrows : ArgRows w A 3 n (xs.map triCells)) (hlen : xs.length = n) (hn : n ≤ 65536) (hb : ∀ x ∈ xs, x.2.2.length ≤ 262144 ∧ (-9223372036854775807 ≤ x.1 + 1 ∧ x.1 ≤ 9223372036854775807)) :
    Calls Try.prog 50 #[.slice A n c] w fun e w' => e = .returned (str (packP xs)) ∧ Chg Nothing w w' := by
  have HB := Lib.hid hb
  have HLEN := Lib.hid hlen
  clear hb
  go_enter Try.func50, Try.ntmps50
  go_wp2_with fail
  go_loopw [8] (fun i wr => ∃ (k : Nat), k ≤ n ∧ i = .int .i64 k ∧ (xs.take k).all mayP = true ∧ FreshOut w w.heap.size ((xs.take k).flatMap packOne) wr) (fun i _ => n - (intOf i).toNat)
  case atStart => exact ⟨0, Nat.zero_le _, rfl, by simp, fresh_new w⟩
  case round =>
    obtain ⟨k, hk, rfl, hall, hfo⟩ := hrel
    by_cases hlt : k < n
    · have i1 : (k : Int) < n := by omega
      have hka : k < xs.length := by omega
      obtain ⟨b, o, rfl, hbl, c0, c1, c2⟩ := tri_at (hrows.keep hfo.chg) hka
      obtain ⟨⟨ct, kd, t⟩, ha⟩ : ∃ a, a = xs[k] := ⟨_, rfl⟩
      rw [← ha] at c0 c1 c2
      have hakt := HB.out _ (ha ▸ List.getElem_mem hka)
      simp only at c0 c1 c2 hakt
      have HA := Lib.hid ha
      clear ha
      obtain ⟨ht, ct0, ct1⟩ := hakt
      go_wp2_with fail
      refine (piece_check (ct, kd, t) _ (by unfold maxLen; simp only; omega)).mono ?_
      rintro e w1 ⟨rfl, h1⟩
      by_cases hm : mayP (ct, kd, t) = true
      · rw [show checkE (ct, kd, t) = 0 from by rw [checkE, if_pos hm]]
        have hp5 := (Blk.new wr 85 #[.int .i64 ct, .int .i64 kd, str t]).chg h1 id
        have hfo1 := (hfo.keep ((Chg.refl _ _).alloc (.cells #[.int .i64 ct, .int .i64 kd, str t] 85))).keep h1
        have q0 : w1.cell? ⟨wr.heap.size, 0, none⟩ = some (.int .i64 ct) := hp5.cell 0
        have q1 : w1.cell? ⟨wr.heap.size, 1, none⟩ = some (.int .i64 kd) := hp5.cell 1
        have q2 : w1.cell? ⟨wr.heap.size, 2, none⟩ = some (str t) := hp5.cell 2
        have hm' := (mayP_iff _).1 hm
        have hor := or128 ct hm'.1 hm'.2.1
        go_wp2_with fail
        obtain ⟨q, hq1, hq2, hq3⟩ : ∃ q : Nat, (t.length : Int).tdiv 4 = q ∧ IntKind.i64.wrap (q : Int) = q ∧ q = t.length / 4 :=
          ⟨t.length / 4, by rw [Int.tdiv_eq_ediv_of_nonneg (by omega)]; omega, IntWalk.i64_in _ (by omega), rfl⟩
        have HQ := Lib.hid hq3
        clear hq3
        have hL0 := pack_len HB.out k (by omega)
        obtain ⟨L, hL⟩ : ∃ L, L = (xs.take k).flatMap packOne := ⟨_, rfl⟩
        rw [← hL] at hL0 hfo1
        have HL := Lib.hid hL
        have HFL := Lib.hid hL0
        clear hL hL0
        have HEQ : Hid (L ++ [128 + ct, kd].flatMap (putZ · 1) ++ [(q : Int)].flatMap (putZ · 2) ++ [t].flatMap id = (xs.take (k + 1)).flatMap packOne) := by
          show _ = _
          rw [flat_step packOne xs k hka, ← HA.out, ← HL.out]
          simp [packOne, HQ.out]
        have HALL : Hid ((xs.take (k + 1)).all mayP = true) := all_take hka hall (by rw [← HA.out]; exact hm)
        go_region_held3 (fun w' => w'.cell? ⟨wr.heap.size, 0, none⟩ = some (.int .i64 ct) ∧ w'.cell? ⟨wr.heap.size, 1, none⟩ = some (.int .i64 kd) ∧ w'.cell? ⟨wr.heap.size, 2, none⟩ = some (str t))
          ((refine cells3 85 ?_; repeat (first | with_reducible exact hp5 | with_reducible exact p2 | with_reducible exact p3 | with_reducible exact p4 | with_reducible refine Blk.drew ?_ | with_reducible refine Blk.alloc ?_ _)))
          (first
            | (go_at_call 30
               refine (fresh_u8' (w0 := w) (l := L) ?_ _ [128 + ct, kd] 2 #[.int .i64 (128 + ct), .int .i64 kd] rfl ?_ (by simp) (by have := HFL.out; omega)).mono ?_
               · repeat (first | with_reducible exact hfo1 | with_reducible refine FreshOut.drew ?_ | with_reducible refine FreshOut.alloc ?_ _)
               · repeat (first | (with_reducible refine Blk.new' _ _ _ ?_; simp; done) | with_reducible refine Blk.drew ?_ | with_reducible refine Blk.alloc ?_ _)
               rintro e w2 ⟨rfl, f2, g2⟩
               have p2 := g2 wr.heap.size 85 #[.int .i64 ct, .int .i64 kd, str t] (by repeat (first | with_reducible exact hp5 | with_reducible refine Blk.drew ?_ | with_reducible refine Blk.alloc ?_ _)) (by decide) (by decide))
            | (go_at_call 32
               refine (fresh_u16' (w0 := w) (l := L ++ [128 + ct, kd].flatMap (putZ · 1)) ?_ _ [(q : Int)] 1 #[.int .i64 (q : Int)] rfl ?_ (by simp) (by have := HFL.out; simp [putZ]; omega)).mono ?_
               · repeat (first | with_reducible exact f2 | with_reducible refine FreshOut.drew ?_ | with_reducible refine FreshOut.alloc ?_ _)
               · repeat (first | (with_reducible refine Blk.new' _ _ _ ?_; simp; done) | with_reducible refine Blk.drew ?_ | with_reducible refine Blk.alloc ?_ _ | with_reducible refine OutFrame.blk g2 ?_ (by decide) (by decide))
               rintro e w3 ⟨rfl, f3, g3⟩
               have p3 := g3 wr.heap.size 85 #[.int .i64 ct, .int .i64 kd, str t] (by repeat (first | with_reducible exact p2 | with_reducible refine Blk.drew ?_ | with_reducible refine Blk.alloc ?_ _)) (by decide) (by decide))
            | (go_at_call 35
               refine (fresh_raw' (w0 := w) (l := L ++ [128 + ct, kd].flatMap (putZ · 1) ++ [(q : Int)].flatMap (putZ · 2)) ?_ _ [t] 1 #[str t] rfl ?_ (by simp) (by simp; omega) (by have := HFL.out; simp [putZ]; omega)).mono ?_
               · repeat (first | with_reducible exact f3 | with_reducible refine FreshOut.drew ?_ | with_reducible refine FreshOut.alloc ?_ _)
               · repeat (first | (with_reducible refine Blk.new' _ _ _ ?_; simp; done) | with_reducible refine Blk.drew ?_ | with_reducible refine Blk.alloc ?_ _ | with_reducible refine OutFrame.blk g3 ?_ (by decide) (by decide) | with_reducible refine OutFrame.blk g2 ?_ (by decide) (by decide))
               rintro e w4 ⟨rfl, f4, g4⟩
               have p4 := g4 wr.heap.size 85 #[.int .i64 ct, .int .i64 kd, str t] (by repeat (first | with_reducible exact p3 | with_reducible refine Blk.drew ?_ | with_reducible refine Blk.alloc ?_ _)) (by decide) (by decide)))
        all_goals
          go_wp2
          go_roundw
          case rel => exact ⟨k + 1, by omega, by go_num, HALL.out, by rw [← HEQ.out]; exact f4⟩
          case measure => simp [intOf]; omega
      · rw [show checkE (ct, kd, t) = 6 from by rw [checkE, if_neg hm]]
        go_wp2
        go_ret
        exact ⟨ret_str (packP_bad hka (by rw [← HA.out]; exact hm)).symm, (hfo.chg.alloc _).trans h1⟩
    · have i1 : (n : Int) ≤ k := by omega
      have e1 : xs.take k = xs := List.take_of_length_le (by omega)
      have e2 : packP xs = (xs.take k).flatMap packOne := by unfold packP; rw [e1] at hall ⊢; rw [if_pos hall]
      have HE := Lib.hid e2
      clear e1 e2
      go_wp2_with fail
      refine (fresh_bytes hfo).mono ?_
      rintro e w' ⟨rfl, rfl⟩
      go_wp2
      go_ret
      exact ⟨ret_str HE.out.symm, hfo.chg⟩
end Go.Proofs.Ytiehcdcimllooaa
