/- What the reference of layer 3 and the cutting of texts do. -/
import Derived.Test.YtiehcdcimllooaaPen
namespace Go.Proofs.Ytiehcdcimllooaa
open Go.RowKit
set_option linter.unusedVariables false
set_option linter.unusedSimpArgs false

theorem src_own {P : Program} {w : World} {base : Nat} {e : TypeId} {size n : Nat} {v : Value} {xs : List Value} {t e' : TypeId} (hk : P.underlying t = some (.slice e')) (h : w.ownsRow base e size v n xs)
    (h1 : ∀ u ∈ xs, u.oneCell' = true) : Src P size t v n xs w := by
  obtain ⟨A, c, rfl, _⟩ := own_form h
  cases A with
  | none =>
    rcases h.2 with ⟨hv, hn⟩ | ⟨g, cap, cur, hv, _⟩
    · subst hn
      have : xs = [] := List.eq_nil_of_length_eq_zero (by simpa using h.1)
      subst this
      exact Src.ofNil _ hk _
    · cases hv
  | some a =>
    refine Src.ofSlice _ hk a n c xs h.1 ?_ h1
    rcases h.2 with ⟨hv, hn⟩ | ⟨g, cap, cur, hv, _⟩
    · cases hv
    · injection hv with h1
      injection h1 with h1
      subst h1
      exact h.cells rfl
theorem bv_one (l : List UInt8) : ∀ u ∈ l.map bv, u.oneCell' = true := by
  intro u hu
  obtain ⟨b, _, rfl⟩ := List.mem_map.1 hu
  rfl

theorem cut_any (l : List UInt8) (n : Int) (w : World) (hl : l.length ≤ maxLen) (hn0 : 0 ≤ n) :
    Calls Try.prog 16 #[str l, .int .i64 n] w fun e w' => e = .returned (str (l.take n.toNat)) ∧ w = w' := by
  unfold maxLen at hl
  by_cases h : n < l.length
  · go_enter Try.func16, Try.ntmps16
    go_wp2
    go_ret
    exact ⟨ret_str (by simp), rfl⟩
  · have h' : (l.length : Int) ≤ n := by omega
    go_enter Try.func16, Try.ntmps16
    go_wp2
    go_ret
    exact ⟨ret_str (by rw [List.take_of_length_le (by omega)]), rfl⟩

theorem get_any (l : List UInt8) (w : World) (hl : l.length ≤ 1099511627776) (hg : getN l < 9223372036854775808) :
    Calls Try.prog 68 #[str l] w fun e w' => e = .returned (.int .i64 (getN l)) ∧ w = w' := by
  go_enter Try.func68, Try.ntmps68
  go_wp2_with fail
  go_loop [3, 4] (fun n i => ∃ j : Nat, j ≤ l.length ∧ i = .int .i64 j ∧ n = .int .i64 (getN (l.take j))) (fun _ i => l.length - (intOf i).toNat)
  case atStart => exact ⟨0, Nat.zero_le _, rfl, rfl⟩
  case round =>
    obtain ⟨j, hj, rfl, rfl⟩ := hrel
    by_cases hlt : j < l.length
    · have hlt' : (j : Int) < l.length := by omega
      have hbt := l[j].toNat_lt
      have hs : Hid (l.take (j + 1) = l.take j ++ [l[j]]) := List.take_succ_eq_append_getElem hlt
      have hb : 256 * getN (l.take j) + l[j].toNat < 9223372036854775808 := by
        have := getN_take_le l (j + 1)
        rw [hs.out, getN_snoc] at this
        omega
      go_wp2
      go_round
      case rel => exact ⟨j + 1, by omega, by go_num, by rw [hs.out, getN_snoc]; go_num⟩
      case measure => simp [intOf]; omega
    · have hge : (l.length : Int) ≤ j := by omega
      go_wp2
      go_ret
      exact ⟨ret_int (by rw [List.take_of_length_le (by omega)]), rfl⟩

theorem tmod_neg' (x : Int) (h : x < 0) : x.tmod 256 = -((-x) % 256) := by
  obtain ⟨y, rfl⟩ : ∃ y, x = -y := ⟨-x, by omega⟩
  rw [Int.neg_tmod, Int.tmod_eq_emod_of_nonneg (by omega), Int.neg_neg]
theorem tdiv_neg' (x : Int) (h : x ≤ 0) : x.tdiv 256 = -((-x) / 256) := by
  obtain ⟨y, rfl⟩ : ∃ y, x = -y := ⟨-x, by omega⟩
  rw [Int.neg_tdiv, Int.tdiv_eq_ediv_of_nonneg (by omega), Int.neg_neg]
theorem put_neg0 (x : Int) (h : x < 0) (h0 : -9223372036854775807 ≤ x + 1) (hr : 0 ≤ x.tmod 256) : wrap64 ((wrap64 (x - x.tmod 256)).tdiv 256) = x / 256 := by
  have e := tmod_neg' x h
  rw [IntWalk.wrap64_in (x - x.tmod 256) ⟨by omega, by omega⟩, tdiv_neg' _ (by omega), IntWalk.wrap64_in _ ⟨by omega, by omega⟩]
  omega
theorem put_neg1 (x : Int) (h : x < 0) (h0 : -9223372036854775807 ≤ x + 1) (hr : x.tmod 256 < 0) : wrap64 (wrap64 ((wrap64 (x - x.tmod 256)).tdiv 256) - 1) = x / 256 := by
  have e := tmod_neg' x h
  rw [IntWalk.wrap64_in (x - x.tmod 256) ⟨by omega, by omega⟩, tdiv_neg' _ (by omega), IntWalk.wrap64_in (-((-(x - x.tmod 256)) / 256)) ⟨by omega, by omega⟩, IntWalk.wrap64_in _ ⟨by omega, by omega⟩]
  omega
theorem div_pow_succ (n : Int) (k : Nat) : n / 256 ^ (k + 1) = n / 256 ^ k / 256 := by
  have := pow_pos' k
  rw [Int.pow_succ, Int.ediv_ediv_of_nonneg (by omega)]
theorem put_round {w2 : World} {e : TypeId} {v : Value} {k : Nat} {n x b : Int} (hown2 : w2.ownsRow 0 e 1 v (1 + k) ([Value.int .u8 b] ++ (putZ n k).map bv)) (hb : b = x % 256) (hx : x = n / 256 ^ k) :
    w2.ownsRow 0 e 1 v (k + 1) ((putZ n (k + 1)).map bv) := by
  have h : [Value.int .u8 b] ++ (putZ n k).map bv = (putZ n (k + 1)).map bv := by
    rw [putZ, List.map_cons, bv, toNat_byte, hb, hx, Int.toNat_of_nonneg (Int.emod_nonneg _ (by decide))]; rfl
  rw [h, Nat.add_comm 1 k] at hown2
  exact hown2
theorem pow_range (n : Int) (k : Nat) (h0 : -9223372036854775807 ≤ n + 1) (h1 : n ≤ 9223372036854775807) : -9223372036854775807 ≤ n / 256 ^ k + 1 ∧ n / 256 ^ k ≤ 9223372036854775807 := by
  induction k with
  | zero => simp; omega
  | succ k ih => rw [div_pow_succ]; omega

set_option maxRecDepth 100000 in
theorem put_any (n : Int) (size : Nat) (w : World) (h0 : -9223372036854775807 ≤ n + 1) (h1 : n ≤ 9223372036854775807) (hs : size ≤ 8) :
    Calls Try.prog 31 #[.int .i64 n, .int .i64 size] w fun e w' => e = .returned (str (putZ n size)) ∧ Chg Nothing w w' := by
  obtain ⟨i0, hi, hz0, hz1, hz2⟩ := info_parts info_u8
  go_enter Try.func31, Try.ntmps31
  go_wp2_with fail
  go_loopw [0, 5, 6] (fun x v i wr => ∃ k : Nat, k ≤ size ∧ i = .int .i64 k ∧ x = .int .i64 (n / 256 ^ k) ∧ wr.ownsRow 0 5 1 v k ((putZ n k).map bv) ∧ Chg Nothing w wr) (fun _ _ i _ => size - (intOf i).toNat)
  case atStart => exact ⟨0, Nat.zero_le _, rfl, by simp, ⟨by simp [putZ], .inr ⟨w.heap.size, 0, #[], rfl, Nat.zero_le _, heap_alloc_new w _, Nat.le_refl _, by unfold maxLen; omega, rfl, by simp [putZ]⟩⟩, (Chg.refl _ _).alloc _⟩
  case round =>
    obtain ⟨k, hk, rfl, rfl, hown, hchg⟩ := hrel
    by_cases hlt : k < size
    · have hlt' : (k : Int) < size := by omega
      obtain ⟨x, hx⟩ : ∃ x, x = n / 256 ^ k := ⟨_, rfl⟩
      have hx0 : -9223372036854775807 ≤ x + 1 := hx ▸ (pow_range n k h0 h1).1
      have hx1 : x ≤ 9223372036854775807 := hx ▸ (pow_range n k h0 h1).2
      rw [← hx]
      have Hx := Lib.hid hx
      clear hx
      have H0 := Lib.hid h0
      have H1 := Lib.hid h1
      clear h0 h1
      by_cases hn : 0 ≤ x
      · go_wp2_with (at_builtin; refine wpList_append_src _ (by rfl) (.tmp 28) (.tmp 29) _ _ (by rfl) 5 i0 _ 1 1 Try.underlying45 hi hz0 hz1 hz2 rfl (by omega) _ 1 _ (by rfl) (World.ownsRow_lit wr #[_] 1 (Nat.zero_le _) (by unfold maxLen; omega) rfl) _ _ _ (by rfl) (src_own Try.underlying45 (hown.alloc _) (bv_one _)) (by unfold maxLen; omega) (by omega) ?_; intro A2 c2 w2 hown2 hgrow hat _)
        have hch := (hchg.alloc (.cells #[Value.int .u8 (x % 256)] 5)).grown hgrow (fun q hq hq' => by have := hchg.size; simp [Value.ownBlock] at hq; omega)
        go_roundw
        case rel => exact ⟨k + 1, by omega, by go_num, val_int (by rw [div_pow_succ, ← Hx.out]; omega), put_round hown2 (by omega) Hx.out, hch⟩
        case measure => simp [intOf]; omega
      · have hn : x < 0 := by omega
        go_wp2_with (at_builtin; refine wpList_append_src _ (by rfl) (.tmp 28) (.tmp 29) _ _ (by rfl) 5 i0 _ 1 1 Try.underlying45 hi hz0 hz1 hz2 rfl (by omega) _ 1 _ (by rfl) (World.ownsRow_lit wr #[_] 1 (Nat.zero_le _) (by unfold maxLen; omega) rfl) _ _ _ (by rfl) (src_own Try.underlying45 (hown.alloc _) (bv_one _)) (by unfold maxLen; omega) (by omega) ?_; intro A2 c2 w2 hown2 hgrow hat _)
        all_goals have hch := (hchg.alloc _).grown hgrow (fun q hq hq' => by have := hchg.size; simp [Value.ownBlock] at hq; omega)
        · have hr : x.tmod 256 < 0 := by assumption
          have e := tmod_neg' x hn
          have e2 := put_neg1 x hn hx0 hr
          have e3 := IntWalk.wrap64_in (x.tmod 256 + 256) ⟨by omega, by omega⟩
          go_roundw
          case rel => exact ⟨k + 1, by omega, by go_num, val_int (by rw [div_pow_succ, ← Hx.out]; exact e2), put_round hown2 (by omega) Hx.out, hch⟩
          case measure => simp [intOf]; omega
        · have hr : 0 ≤ x.tmod 256 := by assumption
          have e := tmod_neg' x hn
          have e2 := put_neg0 x hn hx0 hr
          go_roundw
          case rel => exact ⟨k + 1, by omega, by go_num, val_int (by rw [div_pow_succ, ← Hx.out]; exact e2), put_round hown2 (by omega) Hx.out, hch⟩
          case measure => simp [intOf]; omega
    · have hge : (size : Int) ≤ k := by omega
      obtain rfl : k = size := by omega
      have hr := run_string_own Try.prog wr 45 9 5 u5 (putZ n k) Try.underlying45 Try.underlying5 Try.underlying9 (by rw [putZ_length]; exact hown)
      go_wp2
      go_ret
      exact ⟨rfl, hchg⟩

/-- The reference's state, as a value. -/
abbrev inv (l : List UInt8) (e : Int) : Value := .agg #[str l, .int .i64 e]

set_option maxRecDepth 100000 in
theorem ref_raw (l : List UInt8) (e n : Int) (w : World) (he : e ≠ 0 → l = []) (hl : l.length ≤ 1099511627776) :
    Calls Try.prog 27 #[inv l e, .int .i64 n] w fun r w' => r = .returned (.tuple #[inv (rawL l n) (rawE l e n), str (rawT l n)]) ∧ Chg Nothing w w' := by
  by_cases hn : n ≤ l.length
  · by_cases h0 : e = 0
    · subst h0
      by_cases hp : 0 < n
      · obtain ⟨k, rfl⟩ := Int.eq_ofNat_of_zero_le (show 0 ≤ n by omega)
        go_enter Try.func27, Try.ntmps27
        go_wp2
        go_region
        all_goals go_wp2
        all_goals refine bodyPost_ret (v := .tuple #[inv (l.drop k) 0, str (l.take k)]) (by simp [results, Try.results27, go_sem]) rfl ⟨by simp [rawL, rawE, rawT, hn], ?_⟩
        all_goals (repeat (first | exact Chg.refl _ _ | apply Chg.drew | apply Chg.alloc))
      · have hn0 : n.toNat = 0 := by omega
        go_enter Try.func27, Try.ntmps27
        go_wp2
        go_region
        all_goals go_wp2
        all_goals refine bodyPost_ret (v := .tuple #[inv l 0, str []]) (by simp [results, Try.results27, go_sem]; try rfl) rfl ⟨by simp [rawL, rawE, rawT, hn, hn0], ?_⟩
        all_goals (repeat (first | exact Chg.refl _ _ | apply Chg.drew | apply Chg.alloc))
    · obtain rfl := he h0
      have hb : (e != 0) = true := by simpa using h0
      have hb2 : (e == 0) = false := by simpa using h0
      go_enter Try.func27, Try.ntmps27
      go_wp2
      all_goals refine bodyPost_ret (v := .tuple #[inv [] e, str []]) (by simp [results, Try.results27, go_sem]; try rfl) rfl ⟨by simp [rawL, rawE, rawT, h0], ?_⟩
      all_goals (repeat (first | exact Chg.refl _ _ | apply Chg.drew | apply Chg.alloc))
  · have hlt : (l.length : Int) < n := by omega
    have hp : 0 < n := by omega
    by_cases h0 : e = 0
    · subst h0
      go_enter Try.func27, Try.ntmps27
      go_wp2
      all_goals refine bodyPost_ret (v := .tuple #[inv [] 2, str []]) (by simp [results, Try.results27, go_sem]; try rfl) rfl ⟨by simp [rawL, rawE, rawT, show ¬ n ≤ l.length from by omega], ?_⟩
      all_goals (repeat (first | exact Chg.refl _ _ | apply Chg.drew | apply Chg.alloc))
    · obtain rfl := he h0
      have hb : (e != 0) = true := by simpa using h0
      have hb2 : (e == 0) = false := by simpa using h0
      go_enter Try.func27, Try.ntmps27
      go_wp2
      all_goals refine bodyPost_ret (v := .tuple #[inv [] e, str []]) (by simp [results, Try.results27, go_sem]; try rfl) rfl ⟨by have : ¬ n ≤ (([] : List UInt8).length : Int) := (by simp; omega); simp only [rawL, rawE, rawT, if_neg this, if_neg h0], ?_⟩
      all_goals (repeat (first | exact Chg.refl _ _ | apply Chg.drew | apply Chg.alloc))

set_option maxRecDepth 100000 in
theorem ref_num (l : List UInt8) (e : Int) (k : Nat) (w : World) (he : e ≠ 0 → l = []) (hl : l.length ≤ 1099511627776) (hk : k ≤ 7) :
    Calls Try.prog 23 #[inv l e, .int .i64 k] w fun r w' => r = .returned (.tuple #[inv (rawL l k) (rawE l e k), .int .i64 (getN (rawT l k))]) ∧ Chg Nothing w w' := by
  have htl : (rawT l k).length ≤ 7 := Nat.le_trans (rawT_length l k k (Int.le_refl _)) hk
  have hg : getN (rawT l k) < 9223372036854775808 := by
    have h1 := getN_lt (rawT l k)
    have h3 : 256 ^ (rawT l k).length ≤ 256 ^ 7 := Nat.pow_le_pow_right (by decide) htl
    omega
  have HG := Lib.hid hg
  clear hg
  go_enter Try.func23, Try.ntmps23
  go_wp2_with (go_at_call 27; refine (ref_raw l e k _ he hl).mono ?_; rintro r w1 ⟨rfl, h1⟩)
  have hm : w.heap.size + 1 < w1.heap.size := by have := h1.size; simp at this; omega
  have hB : Blk w1 (w.heap.size + 1) 33 #[str [], .int .i64 0] := by
    have := (Blk.new (w.alloc (.cells #[str l, .int .i64 e] 33)) 33 #[str [], .int .i64 0]).chg h1 id
    simpa using this
  have c0 := hB.cell 0
  have c1 := hB.cell 1
  have f0 := hB.frozen 0
  have f1 := hB.frozen 1
  have hB2 : Blk ((w1.setCell ⟨w.heap.size + 1, 0, none⟩ (str (rawL l k))).setCell ⟨w.heap.size + 1, 1, none⟩ (.int .i64 (rawE l e k))) (w.heap.size + 1) 33 #[str (rawL l k), .int .i64 (rawE l e k)] := (hB.set_ 0 _).set_ 1 _
  have hC : Chg Nothing w w1 := (((Chg.refl _ _).alloc _).alloc _).trans h1
  go_region_with ((go_at_call 68; refine (get_any _ _ (by omega) HG.out).mono ?_; rintro e w' ⟨rfl, rfl⟩))
  all_goals go_wp2
  all_goals refine bodyPost_ret (v := .tuple #[inv (rawL l k) (rawE l e k), .int .i64 (getN (rawT l k))]) (res2 rfl (res_cell _ _ rfl ((hB2.alloc _).drew) (Try.underlying33) rfl rfl) (res_tmp _)) rfl ⟨rfl, ?_⟩
  all_goals (repeat (first | exact hC | apply Chg.drew | apply Chg.alloc | (refine Chg.setCell ?_ _ _ (fun h => absurd h (by simp)))))

theorem ref_end (l : List UInt8) (e : Int) (w : World) (he : e ≠ 0 → l = []) :
    Calls Try.prog 29 #[inv l e] w fun r w' => r = .returned (.int .i64 (endE l e)) ∧ Chg Nothing w w' := by
  by_cases hl : l = []
  · subst hl
    by_cases h0 : e = 0
    · subst h0
      go_enter Try.func29, Try.ntmps29
      go_wp2
      go_ret
      exact ⟨rfl, by repeat (first | exact Chg.refl _ _ | apply Chg.drew | apply Chg.alloc)⟩
    · have hb2 : (e == 0) = false := by simpa using h0
      go_enter Try.func29, Try.ntmps29
      go_wp2
      go_ret
      exact ⟨rfl, by repeat (first | exact Chg.refl _ _ | apply Chg.drew | apply Chg.alloc)⟩
  · have hb : (!l.isEmpty) = true := by simpa using hl
    by_cases h0 : e = 0
    · subst h0
      go_enter Try.func29, Try.ntmps29
      go_wp2
      go_ret
      exact ⟨ret_int (by simp [endE, hl]), by repeat (first | exact Chg.refl _ _ | apply Chg.drew | apply Chg.alloc)⟩
    · have hb2 : (e == 0) = false := by simpa using h0
      exact absurd (he h0) hl
end Go.Proofs.Ytiehcdcimllooaa
