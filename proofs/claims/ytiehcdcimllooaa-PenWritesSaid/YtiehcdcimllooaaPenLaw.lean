/- The statements of layer 3: what the code of each law returns, called with anything. -/
import Derived.Test.YtiehcdcimllooaaPenRef
namespace Go.Proofs.Ytiehcdcimllooaa
open Go.RowKit
set_option linter.unusedVariables false
set_option linter.unusedSimpArgs false

theorem out_new (w : World) : OutIs (w.alloc (.cells #[.slice none 0 0] 47)) w.heap.size (.slice none 0 0) [] :=
  ⟨Blk.new _ _ _, World.ownsRow_nil _ _ _ _⟩

set_option maxRecDepth 100000 in
theorem awake3 (w : World) : Calls Try.prog 15 #[] w fun e w' => e = .returned (.bool true) ∧ Chg Nothing w w' := by
  go_enter Try.func15, Try.ntmps15
  go_wp2_with fail
  refine (pen_of [1, 2] _).mono ?_
  rintro e w1 ⟨rfl, rfl⟩
  go_wp2_with fail
  have hc1 : Chg Nothing w (((w.alloc (.cells #[.slice none 0 0] 47)).alloc (.cells #[str [1, 2], .int .i64 0] 118)).alloc (.cells #[.int .i64 1, .int .i64 258] 3)) := (((Chg.refl _ _).alloc _).alloc _).alloc _
  have ho := (out_new w).chg (((Chg.refl Nothing _).alloc (.cells #[str [1, 2], .int .i64 0] 118)).alloc (.cells #[.int .i64 1, .int .i64 258] 3)) id (fun _ _ => id)
  have hin := (pen_new [1, 2] (w.alloc (.cells #[.slice none 0 0] 47)) (by decide)).chg ((Chg.refl Nothing _).alloc (.cells #[.int .i64 1, .int .i64 258] 3)) id
  have hb := Blk.new ((w.alloc (.cells #[.slice none 0 0] 47)).alloc (.cells #[str [1, 2], .int .i64 0] 118)) 3 #[.int .i64 1, .int .i64 258]
  simp only [size_alloc] at hin hb
  refine (out_u8 _ _ [] _ [1, 258] 2 _ ho hb (by decide) (by decide)).mono ?_
  rintro e w2 ⟨rfl, v2, h2⟩
  have hin := hin.chg h2.chg (ho.notMay hin.blk (by decide) (by decide))
  clear hb
  go_wp2_with fail
  have ho := h2.is.chg ((Chg.refl Nothing _).alloc (.cells #[.int .i64 3] 3)) id (fun _ _ => id)
  have hin := hin.chg ((Chg.refl Nothing _).alloc (.cells #[.int .i64 3] 3)) id
  refine (out_u16 _ _ _ _ [3] 1 _ ho (Blk.new w2 3 #[.int .i64 3]) (by decide) (by decide)).mono ?_
  rintro e w3 ⟨rfl, v3, h3⟩
  have hin := hin.chg h3.chg (ho.notMay hin.blk (by decide) (by decide))
  go_wp2_with fail
  refine (out_bytes _ _ _ _ h3.is).mono ?_
  rintro e w' ⟨rfl, rfl⟩
  rw [show ([] ++ ([1, 258] : List Int).flatMap (putZ · 1) ++ ([3] : List Int).flatMap (putZ · 2)) = [1, 2, 0, 3] from by decide]
  go_wp2_with fail
  refine (in_u16 _ _ _ _ hin).mono ?_
  rintro e w4 ⟨rfl, h4⟩
  rw [show (getN (rawT [1, 2] 2) : Int) = 258 from by decide]
  go_wp2_with fail
  refine (in_end _ _ _ _ h4.is).mono ?_
  rintro e w' ⟨rfl, rfl⟩
  rw [show endE (rawL [1, 2] 2) (rawE [1, 2] 0 2) = 0 from by decide]
  go_wp2
  go_ret
  refine ⟨rfl, ?_⟩
  have h2m : Moved _ _ _ := h2.mov
  refine ((hc1.step h2.chg ?_).alloc _ |>.step h3.chg ?_).step h4.chg ?_
  · rintro i hi (rfl | h)
    · omega
    · cases h
  · rintro i hi (rfl | h)
    · omega
    · have := h2m.old (k := i) (by simp; omega) h
      cases this
  · rintro i hi rfl
    omega

set_option maxRecDepth 100000 in
theorem penTakes_walk (l : List UInt8) (n : Int) (w : World) (hl : l.length ≤ maxLen) (hn0 : -9223372036854775807 ≤ n + 1) (hn1 : n ≤ 9223372036854775807) :
    Calls Try.prog 3 #[str l, .int .i64 n] w fun e w' => e = .returned (.bool true) ∧ Chg Nothing w w' := by
  go_enter Try.func3, Try.ntmps3
  go_wp2_with fail
  refine (awake3 _).mono ?_
  rintro e w1 ⟨rfl, h1⟩
  go_wp2_with fail
  refine (cut_any l 40 _ hl (by decide)).mono ?_
  rintro e w' ⟨rfl, rfl⟩
  obtain ⟨s, hs, hsl⟩ : ∃ s, s = l.take (40 : Int).toNat ∧ s.length ≤ 40 := ⟨_, rfl, by rw [List.length_take]; exact Nat.min_le_left _ _⟩
  rw [← hs]
  clear hs
  go_wp2_with fail
  refine (pen_of s _).mono ?_
  rintro e w' ⟨rfl, rfl⟩
  have hin := pen_new s w1 (by omega)
  have h2 := h1.alloc (.cells #[str s, .int .i64 0] 118)
  go_wp2_with fail
  refine (in_raw _ _ _ n _ hin).mono ?_
  rintro e w2 ⟨rfl, h3⟩
  have hc : Chg Nothing w w2 := h2.step h3.chg (fun i hi e => by have := h1.size; subst e; omega)
  by_cases hn : n ≤ s.length
  · have H : ∃ k : Nat, k ≤ s.length ∧ ((0 < n ∧ n = k) ∨ (n ≤ 0 ∧ k = 0)) := by
      by_cases hp : 0 < n
      · exact ⟨n.toNat, by omega, .inl ⟨hp, by omega⟩⟩
      · exact ⟨0, by omega, .inr ⟨by omega, rfl⟩⟩
    obtain ⟨k, hks, hnk⟩ := H
    have e1 : rawT s n = s.take k := by
      rcases hnk with ⟨_, h⟩ | ⟨h, h'⟩
      · simp [rawT, h, hks]
      · simp [rawT, hn, h', show n.toNat = 0 from by omega]
    have e2 : rawL s n = s.drop k := by
      rcases hnk with ⟨_, h⟩ | ⟨h, h'⟩
      · simp [rawL, h, hks]
      · simp [rawL, hn, h', show n.toNat = 0 from by omega]
    have e3 : rawE s 0 n = 0 := by simp [rawE, hn]
    rw [e1]
    rw [e2, e3] at h3
    clear e1 e2 e3
    have hlen : ((s.drop k).length : Int) = s.length - k := by rw [List.length_drop]; omega
    have HE : ∃ b : Bool, ((k : Int) == s.length) = b ∧ ((0 : Int) = endE (s.drop k) 0 ∧ b = true ∨ (1 : Int) = endE (s.drop k) 0 ∧ b = false) := by
      by_cases h : k = s.length
      · refine ⟨true, by simp [h], .inl ⟨?_, rfl⟩⟩
        unfold endE; rw [if_pos (by rw [h]; exact List.drop_length)]
      · refine ⟨false, by simp; omega, .inr ⟨?_, rfl⟩⟩
        unfold endE; rw [if_neg (by rw [List.drop_eq_nil_iff]; omega)]
    obtain ⟨b, hb, HE⟩ := HE
    have HB := Lib.hid hb
    clear hb
    have HL := Lib.hid hlen
    clear hlen
    rcases HE with ⟨HE, rfl⟩ | ⟨HE, rfl⟩
    all_goals
      replace HE := Lib.hid HE
      rcases hnk with ⟨hp, rfl⟩ | ⟨hp, rfl⟩
    all_goals
      go_wp2_with fail
      refine (in_left _ _ _ _ h3.is).mono ?_
      rintro e w' ⟨rfl, rfl⟩
      rw [HL.out]
      go_wp2_with fail
      refine (in_err _ _ _ _ h3.is).mono ?_
      rintro e w' ⟨rfl, rfl⟩
      go_wp2_with fail
      refine (in_end _ _ _ _ h3.is).mono ?_
      rintro e w' ⟨rfl, rfl⟩
      rw [← HE.out]
      have hb := HB.out
      try simp only [Int.natCast_zero] at hb
      go_wp2
      go_ret
      exact ⟨rfl, hc⟩
  · have e1 : rawT s n = [] := by simp [rawT, hn]
    have e2 : rawL s n = [] := by simp [rawL, hn]
    have e3 : rawE s 0 n = 2 := by simp [rawE, hn]
    rw [e1]
    rw [e2, e3] at h3
    clear e1 e2 e3
    have hlt : (s.length : Int) < n := by omega
    go_wp2_with fail
    refine (in_left _ _ _ _ h3.is).mono ?_
    rintro e w' ⟨rfl, rfl⟩
    go_wp2_with fail
    refine (in_err _ _ _ _ h3.is).mono ?_
    rintro e w' ⟨rfl, rfl⟩
    go_wp2_with fail
    refine (in_end _ _ _ _ h3.is).mono ?_
    rintro e w' ⟨rfl, rfl⟩
    rw [show endE [] 2 = 2 from rfl]
    go_wp2_with fail
    refine (in_u8 _ _ _ _ h3.is).mono ?_
    rintro e w4 ⟨rfl, h4⟩
    rw [show (getN (rawT [] 1) : Int) = 0 from rfl]
    go_wp2
    go_ret
    exact ⟨rfl, hc.step h4.chg (fun i hi e => by have := h1.size; subst e; omega)⟩

set_option maxRecDepth 100000 in
theorem penBack_walk (n m : Int) (l : List UInt8) (w : World) (hl : l.length ≤ maxLen) (hm : 0 ≤ m ∧ m < 4294967296) :
    Calls Try.prog 6 #[.int .i64 n, .int .u32 m, str l] w fun e w' => e = .returned (.bool true) ∧ Chg Nothing w w' := by
  have HM := Lib.hid hm
  clear hm
  go_enter Try.func6, Try.ntmps6
  go_wp2_with fail
  refine (awake3 _).mono ?_
  rintro e w1 ⟨rfl, h1⟩
  go_wp2_with fail
  refine (cut_any l 20 _ hl (by decide)).mono ?_
  rintro e w' ⟨rfl, rfl⟩
  obtain ⟨s, hs, hsl⟩ : ∃ s, s = l.take (20 : Int).toNat ∧ s.length ≤ 20 := ⟨_, rfl, by rw [List.length_take]; exact Nat.min_le_left _ _⟩
  rw [← hs]
  clear hs
  go_wp2_with fail
  have ho := (fresh_new w1).keep ((Chg.refl _ _).alloc (.cells #[.int .i64 n] 3))
  refine (fresh_u8 ho _ [n] 1 (Blk.new' (w1.alloc _) 3 #[.int .i64 n] (by simp)) (by simp) (by simp)).mono ?_
  rintro e w2 ⟨rfl, h2, _⟩
  clear ho
  go_wp2_with fail
  have ho := h2.keep ((Chg.refl _ _).alloc (.cells #[.int .i64 n] 3))
  refine (fresh_u16 ho _ [n] 1 (Blk.new w2 3 #[.int .i64 n]) (by simp) (by simp [putZ])).mono ?_
  rintro e w3 ⟨rfl, h3, _⟩
  clear ho h2
  go_wp2_with fail
  have ho := h3.keep ((Chg.refl _ _).alloc (.cells #[.int .i64 n] 3))
  refine (fresh_u24 ho _ [n] 1 (Blk.new w3 3 #[.int .i64 n]) (by simp) (by simp [putZ])).mono ?_
  rintro e w4 ⟨rfl, h4, _⟩
  clear ho h3
  go_wp2_with fail
  have ho := h4.keep ((Chg.refl _ _).alloc (.cells #[.int .u32 m] 38))
  refine (fresh_u32 ho _ [m] 1 (Blk.new w4 38 #[.int .u32 m]) (by simpa using HM.out) (by simp) (by simp [putZ])).mono ?_
  rintro e w5 ⟨rfl, h5, _⟩
  clear ho h4
  go_wp2_with fail
  have ho := h5.keep ((Chg.refl _ _).alloc (.cells #[str s] 9))
  refine (fresh_raw ho _ [s] 1 (Blk.new w5 9 #[str s]) (by simp) (by simp; omega) (by simp [putZ])).mono ?_
  rintro e w6 ⟨rfl, h6, _⟩
  clear ho h5
  obtain ⟨B, hB⟩ : ∃ B, B = putZ n 1 ++ (putZ n 2 ++ (putZ n 3 ++ (putZ m 4 ++ s))) := ⟨_, rfl⟩
  have e6 : ([] ++ ([n] : List Int).flatMap (putZ · 1) ++ ([n] : List Int).flatMap (putZ · 2) ++ ([n] : List Int).flatMap (putZ · 3) ++ ([m] : List Int).flatMap (putZ · 4) ++ ([s] : List (List UInt8)).flatMap id) = B := by
    rw [hB]; simp
  rw [e6] at h6
  clear e6
  have HBl : Hid (B.length ≤ 1099511627776) := by show B.length ≤ _; rw [hB]; simp [putZ]; omega
  have HB := Lib.hid hB
  clear hB
  go_wp2_with fail
  refine (fresh_bytes h6).mono ?_
  rintro e w' ⟨rfl, rfl⟩
  go_wp2_with fail
  refine (pen_of B _).mono ?_
  rintro e w' ⟨rfl, rfl⟩
  have hin : InIs (w6.alloc (.cells #[str B, .int .i64 0] 118)) w6.heap.size (putZ n 1 ++ (putZ n 2 ++ (putZ n 3 ++ (putZ m 4 ++ s)))) 0 := by rw [← HB.out]; exact pen_new B w6 HBl.out
  have hc := (h1.trans h6.chg).alloc (.cells #[str B, .int .i64 0] 118)
  go_wp2_with fail
  refine (app_u8 hin (putZ_length _ _)).mono ?_
  rintro e w7 ⟨rfl, h7⟩
  rw [getN_putZ]
  go_wp2_with fail
  refine (app_u16 h7.is (putZ_length _ _)).mono ?_
  rintro e w8 ⟨rfl, h8⟩
  rw [getN_putZ]
  go_wp2_with fail
  refine (app_u24 h8.is (putZ_length _ _)).mono ?_
  rintro e w9 ⟨rfl, h9⟩
  rw [getN_putZ]
  go_wp2_with fail
  refine (app_u32 h9.is (putZ_length _ _)).mono ?_
  rintro e w10 ⟨rfl, h10⟩
  rw [getN_putZ, Int.emod_eq_of_lt HM.out.1 (by have := HM.out.2; omega)]
  have h10' : InIs w10 w6.heap.size (s ++ []) 0 := by rw [List.append_nil]; exact h10.is
  go_wp2_with fail
  refine (app_raw h10' _ rfl).mono ?_
  rintro e w11 ⟨rfl, h11⟩
  go_wp2_with fail
  refine (in_end _ _ _ _ h11.is).mono ?_
  rintro e w' ⟨rfl, rfl⟩
  rw [show endE [] 0 = 0 from rfl]
  go_wp2
  go_ret
  have hs := (h1.trans h6.chg).size
  exact ⟨rfl, hc.step ((((h7.trans h8).trans h9).trans h10).trans h11).chg (fun i hi e => by subst e; omega)⟩
end Go.Proofs.Ytiehcdcimllooaa
