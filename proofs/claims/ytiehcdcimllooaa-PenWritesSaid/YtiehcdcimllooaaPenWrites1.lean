/- The walk of PenWrites. -/
import Derived.Test.YtiehcdcimllooaaPenReads1
namespace Go.Proofs.Ytiehcdcimllooaa
open Go.RowKit
set_option linter.unusedVariables false
set_option linter.unusedSimpArgs false

set_option maxRecDepth 100000 in
set_option maxHeartbeats 4000000 in
theorem penWrites_walk (A : Option Addr) (n c : Nat) (xs : List (Int × Int × List UInt8)) (w : World) (hrows : ArgRows w A 3 n (xs.map actCells)) (hlen : xs.length = n) (hok : ∀ a ∈ xs, ActOk a) :
    Calls Try.prog 5 #[.slice A n c] w fun e w' => e = .returned (.bool true) ∧ Chg Nothing w w' := by
  have hnm : n ≤ maxLen := hrows.2.1
  unfold maxLen at hnm
  have HOK := Lib.hid hok
  have HLEN := Lib.hid hlen
  clear hok
  go_enter Try.func5, Try.ntmps5
  go_wp2_with fail
  refine (awake3 _).mono ?_
  rintro e w1 ⟨rfl, h1⟩
  have h1s := h1.size
  go_wp2_with fail
  go_loopw [4, 5] (fun s i wr => ∃ (k : Nat) (L : List UInt8), k ≤ n ∧ k ≤ 20 ∧ i = .int .i64 k ∧ s = str L ∧ L.length ≤ 40 * k ∧ FreshOut w1 w1.heap.size L wr) (fun _ i _ => n - (intOf i).toNat)
  case atStart => exact ⟨0, [], Nat.zero_le _, Nat.zero_le _, rfl, rfl, by simp, fresh_new w1⟩
  case round =>
    obtain ⟨k, L, hk, hk20, rfl, rfl, hL, hfo⟩ := hrel
    by_cases hlt : k < n ∧ k < 20
    · obtain ⟨hlt, hlt20⟩ := hlt
      have i1 : (k : Int) < n := by omega
      have i2 : (k : Int) < 20 := by omega
      have hka : k < xs.length := by omega
      obtain ⟨b, o, rfl, hb, c0, c1, c2⟩ := acts_at (hrows.keep (h1.trans hfo.chg)) hka
      obtain ⟨⟨kd, N, t⟩, ha⟩ : ∃ a, a = xs[k] := ⟨_, rfl⟩
      rw [← ha] at c0 c1 c2
      have hakt := HOK.out _ (ha ▸ List.getElem_mem hka)
      simp only at c0 c1 c2
      clear ha
      obtain ⟨⟨kd0, kd1⟩, ⟨N0, N1⟩, ht⟩ := hakt
      simp only at kd0 kd1 N0 N1 ht
      have hL800 : L.length ≤ 800 := by omega
      have p1 := putZ_length N 1
      have p2 := putZ_length N 2
      have p3 := putZ_length N 3
      have p4 := putZ_length N 4
      go_upto_block 2 with (fail)
      have hfo1 := hfo.keep ((Chg.refl _ _).alloc (.cells #[.int .i64 kd, .int .i64 N, str t] 35))
      have hA := Blk.new wr 35 #[.int .i64 kd, .int .i64 N, str t]
      have hws := hfo.chg.size
      go_cut [4, 7] (fun s4 s7 wx => ∃ (L' : List UInt8), s4 = str L' ∧ s7 = .pointer (some ⟨w1.heap.size, 0, none⟩) ∧ L'.length ≤ 40 * (k + 1) ∧ FreshOut w1 w1.heap.size L' wx)
      case first =>
        by_cases hk0 : kd = 0
        · subst hk0
          go_wp2_with fail
          have hfo2 := hfo1.keep ((Chg.refl _ _).alloc (.cells #[.int .i64 N, .int .i64 7] 3))
          have hA2 := hA.alloc (.cells #[.int .i64 N, .int .i64 7] 3)
          refine (fresh_u8 hfo2 _ [N, 7] 2 (Blk.new' (wr.alloc _) 3 #[.int .i64 N, .int .i64 7] (by simp)) (by simp) (by omega)).mono ?_
          rintro r w2 ⟨rfl, h2, f2⟩
          have hA3 := f2 _ _ _ hA2 (by decide) (by decide)
          have a1 : w2.cell? ⟨wr.heap.size, 1, none⟩ = some (.int .i64 N) := hA3.cell 1
          go_wp2_with fail
          refine (put_any N 1 _ N0 N1 (by decide)).mono ?_
          rintro r w3 ⟨rfl, h3⟩
          go_wp2_with fail
          go_meet
          case rel => exact ⟨L ++ (putZ N 1 ++ [7]), rfl, rfl, by simp; omega, by have := h2.keep h3; simpa [putZ] using this⟩
        by_cases hk1 : kd = 1
        · subst hk1
          go_wp2_with fail
          have hfo2 := hfo1.keep ((Chg.refl _ _).alloc (.cells #[.int .i64 N] 3))
          have hA2 := hA.alloc (.cells #[.int .i64 N] 3)
          refine (fresh_u16 hfo2 _ [N] 1 (Blk.new' (wr.alloc _) 3 #[.int .i64 N] (by simp)) (by simp) (by omega)).mono ?_
          rintro r w2 ⟨rfl, h2, f2⟩
          have hA3 := f2 _ _ _ hA2 (by decide) (by decide)
          have a1 : w2.cell? ⟨wr.heap.size, 1, none⟩ = some (.int .i64 N) := hA3.cell 1
          go_wp2_with fail
          refine (put_any N 2 _ N0 N1 (by decide)).mono ?_
          rintro r w3 ⟨rfl, h3⟩
          go_wp2_with fail
          go_meet
          case rel => exact ⟨L ++ putZ N 2, rfl, rfl, by simp; omega, by have := h2.keep h3; simpa [putZ] using this⟩
        by_cases hk2 : kd = 2
        · subst hk2
          go_wp2_with fail
          have hfo2 := hfo1.keep ((Chg.refl _ _).alloc (.cells #[.int .i64 N, .int .i64 N] 3))
          have hA2 := hA.alloc (.cells #[.int .i64 N, .int .i64 N] 3)
          refine (fresh_u24 hfo2 _ [N, N] 2 (Blk.new' (wr.alloc _) 3 #[.int .i64 N, .int .i64 N] (by simp)) (by simp) (by omega)).mono ?_
          rintro r w2 ⟨rfl, h2, f2⟩
          have hA3 := f2 _ _ _ hA2 (by decide) (by decide)
          have a1 : w2.cell? ⟨wr.heap.size, 1, none⟩ = some (.int .i64 N) := hA3.cell 1
          go_wp2_with fail
          have hlt2 := hA3.lt
          have hcat : ∀ W : World, (Op.stringOp .add ⟨L.toArray⟩ ⟨(putZ N 3 ++ putZ N 3).toArray⟩).run Try.prog W = .ok (str (L ++ (putZ N 3 ++ putZ N 3))) W := fun W => by
            rw [run_string_add_sum _ _ _ (by simp; omega), append_mk]
          go_region_held3 (fun w' => w'.cell? ⟨wr.heap.size, 1, none⟩ = some (.int .i64 N))
            (first | go_keep | exact ((h3.cell (by simpa using hlt2) id).trans a1) | exact ((h4.cell (by have := h3.size; simp at this; simp; omega) id).trans ((h3.cell (by simpa using hlt2) id).trans a1)))
            (first | (go_at_call 31; refine (put_any N 3 w2.drew N0 N1 (by decide)).mono ?_; rintro r w3 ⟨rfl, h3⟩) | (go_at_call 31; refine (put_any N 3 _ N0 N1 (by decide)).mono ?_; rintro r w4 ⟨rfl, h4⟩))
          go_wp2_with fail
          go_meet
          case rel => exact ⟨L ++ (putZ N 3 ++ putZ N 3), rfl, rfl, by simp; omega, by have := (h2.keep ((Chg.refl _ _).drew.trans h3)).keep h4; simpa using this⟩
        by_cases hk3 : kd = 3
        · subst hk3
          go_wp2_with fail
          have hfo2 := hfo1.keep ((Chg.refl _ _).alloc (.cells #[.int .u32 (N % 4294967296)] 38))
          have hA2 := hA.alloc (.cells #[.int .u32 (N % 4294967296)] 38)
          refine (fresh_u32 hfo2 _ [N % 4294967296] 1 (Blk.new' (wr.alloc _) 38 #[.int .u32 (N % 4294967296)] (by simp)) (by simp; omega) (by simp) (by omega)).mono ?_
          rintro r w2 ⟨rfl, h2, f2⟩
          have hA3 := f2 _ _ _ hA2 (by decide) (by decide)
          have a1 : w2.cell? ⟨wr.heap.size, 1, none⟩ = some (.int .i64 N) := hA3.cell 1
          go_wp2_with fail
          refine (put_any N 4 _ N0 N1 (by decide)).mono ?_
          rintro r w3 ⟨rfl, h3⟩
          go_wp2_with fail
          go_meet
          case rel => exact ⟨L ++ putZ N 4, rfl, rfl, by simp; omega, by have := h2.keep h3; simpa [putZ32] using this⟩
        have hb0 : (kd == 0) = false := by simpa using hk0
        have hb1 : (kd == 1) = false := by simpa using hk1
        have hb2 : (kd == 2) = false := by simpa using hk2
        have hb3 : (kd == 3) = false := by simpa using hk3
        go_wp2_with fail
        refine (cut_any t 20 _ ht (by decide)).mono ?_
        rintro e w' ⟨rfl, rfl⟩
        obtain ⟨s, hs, hsl⟩ : ∃ s, s = t.take (20 : Int).toNat ∧ s.length ≤ 20 := ⟨_, rfl, by rw [List.length_take]; exact Nat.min_le_left _ _⟩
        rw [← hs]
        clear hs
        go_wp2_with fail
        have hfo2 := hfo1.keep ((Chg.refl _ _).alloc (.cells #[str s, str [], str s] 9))
        refine (fresh_raw hfo2 _ [s, [], s] 3 (Blk.new' (wr.alloc _) 9 #[str s, str [], str s] (by simp)) (by simp) (by simp; omega) (by omega)).mono ?_
        rintro r w2 ⟨rfl, h2, f2⟩
        go_wp2_with fail
        go_meet
        case rel => exact ⟨L ++ (s ++ s), rfl, rfl, by simp; omega, by simpa using h2⟩
      case rest =>
        obtain ⟨L', rfl, rfl, hL', hfoc⟩ := hcut
        have hp : ∀ W : World, (binOp .neq 48 (.pointer (some ⟨w1.heap.size, 0, none⟩)) (.pointer (some ⟨w1.heap.size, 0, none⟩))).run Try.prog W = .ok (.bool false) W := fun W => run_neq_ptr_same W _ Try.underlying48 (by kernel_rfl)
        go_wp2_with fail
        refine (fresh_bytes hfoc).mono ?_
        rintro e w' ⟨rfl, rfl⟩
        go_wp2
        go_roundw
        case rel => exact ⟨k + 1, L', by omega, by omega, by go_num, rfl, hL', hfoc⟩
        case measure => simp [intOf]; omega
    · by_cases hkn : k < n
      · have i1 : (k : Int) < n := by omega
        have i2 : (20 : Int) ≤ k := by omega
        go_wp2
        go_ret
        exact ⟨rfl, h1.trans hfo.chg⟩
      · have i1 : (n : Int) ≤ k := by omega
        go_wp2
        go_ret
        exact ⟨rfl, h1.trans hfo.chg⟩
end Go.Proofs.Ytiehcdcimllooaa
