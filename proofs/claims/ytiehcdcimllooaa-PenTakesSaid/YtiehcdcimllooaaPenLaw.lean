/- The statements of layer 3: what the code of each law returns, called with anything. -/
import Derived.Test.YtiehcdcimllooaaPenRef
namespace Go.Proofs.Ytiehcdcimllooaa
open Go.RowKit
set_option linter.unusedVariables false
set_option linter.unusedSimpArgs false

theorem out_new (w : World) : OutIs (w.alloc (.cells #[.slice none 0 0] 47)) w.heap.size (.slice none 0 0) [] :=
  ⟨Blk.new _ _ _, World.ownsRow_nil _ _ _ _⟩

set_option maxRecDepth 100000 in
theorem awake3 (w : World) : Calls Try.prog 15 #[] w fun e w' => e = .returned (.bool true) ∧ Chg Nothing w w' := by
  go_enter Try.func15, Try.ntmps15
  go_wp2_with fail
  refine (pen_of [1, 2] _).mono ?_
  rintro e w1 ⟨rfl, rfl⟩
  go_wp2_with fail
  have hc1 : Chg Nothing w (((w.alloc (.cells #[.slice none 0 0] 47)).alloc (.cells #[str [1, 2], .int .i64 0] 118)).alloc (.cells #[.int .i64 1, .int .i64 258] 3)) := (((Chg.refl _ _).alloc _).alloc _).alloc _
  have ho := (out_new w).chg (((Chg.refl Nothing _).alloc (.cells #[str [1, 2], .int .i64 0] 118)).alloc (.cells #[.int .i64 1, .int .i64 258] 3)) id (fun _ _ => id)
  have hin := (pen_new [1, 2] (w.alloc (.cells #[.slice none 0 0] 47)) (by decide)).chg ((Chg.refl Nothing _).alloc (.cells #[.int .i64 1, .int .i64 258] 3)) id
  have hb := Blk.new ((w.alloc (.cells #[.slice none 0 0] 47)).alloc (.cells #[str [1, 2], .int .i64 0] 118)) 3 #[.int .i64 1, .int .i64 258]
  simp only [size_alloc] at hin hb
  refine (out_u8 _ _ [] _ [1, 258] 2 _ ho hb (by decide) (by decide)).mono ?_
  rintro e w2 ⟨rfl, v2, h2⟩
  have hin := hin.chg h2.chg (ho.notMay hin.blk (by decide) (by decide))
  clear hb
  go_wp2_with fail
  have ho := h2.is.chg ((Chg.refl Nothing _).alloc (.cells #[.int .i64 3] 3)) id (fun _ _ => id)
  have hin := hin.chg ((Chg.refl Nothing _).alloc (.cells #[.int .i64 3] 3)) id
  refine (out_u16 _ _ _ _ [3] 1 _ ho (Blk.new w2 3 #[.int .i64 3]) (by decide) (by decide)).mono ?_
  rintro e w3 ⟨rfl, v3, h3⟩
  have hin := hin.chg h3.chg (ho.notMay hin.blk (by decide) (by decide))
  go_wp2_with fail
  refine (out_bytes _ _ _ _ h3.is).mono ?_
  rintro e w' ⟨rfl, rfl⟩
  rw [show ([] ++ ([1, 258] : List Int).flatMap (putZ · 1) ++ ([3] : List Int).flatMap (putZ · 2)) = [1, 2, 0, 3] from by decide]
  go_wp2_with fail
  refine (in_u16 _ _ _ _ hin).mono ?_
  rintro e w4 ⟨rfl, h4⟩
  rw [show (getN (rawT [1, 2] 2) : Int) = 258 from by decide]
  go_wp2_with fail
  refine (in_end _ _ _ _ h4.is).mono ?_
  rintro e w' ⟨rfl, rfl⟩
  rw [show endE (rawL [1, 2] 2) (rawE [1, 2] 0 2) = 0 from by decide]
  go_wp2
  go_ret
  refine ⟨rfl, ?_⟩
  have h2m : Moved _ _ _ := h2.mov
  refine ((hc1.step h2.chg ?_).alloc _ |>.step h3.chg ?_).step h4.chg ?_
  · rintro i hi (rfl | h)
    · omega
    · cases h
  · rintro i hi (rfl | h)
    · omega
    · have := h2m.old (k := i) (by simp; omega) h
      cases this
  · rintro i hi rfl
    omega

set_option maxRecDepth 100000 in
theorem penTakes_walk (l : List UInt8) (n : Int) (w : World) (hl : l.length ≤ maxLen) (hn0 : -9223372036854775807 ≤ n + 1) (hn1 : n ≤ 9223372036854775807) :
    Calls Try.prog 3 #[str l, .int .i64 n] w fun e w' => e = .returned (.bool true) ∧ Chg Nothing w w' := by
  go_enter Try.func3, Try.ntmps3
  go_wp2_with fail
  refine (awake3 _).mono ?_
  rintro e w1 ⟨rfl, h1⟩
  go_wp2_with fail
  refine (cut_any l 40 _ hl (by decide)).mono ?_
  rintro e w' ⟨rfl, rfl⟩
  obtain ⟨s, hs, hsl⟩ : ∃ s, s = l.take (40 : Int).toNat ∧ s.length ≤ 40 := ⟨_, rfl, by rw [List.length_take]; exact Nat.min_le_left _ _⟩
  rw [← hs]
  clear hs
  go_wp2_with fail
  refine (pen_of s _).mono ?_
  rintro e w' ⟨rfl, rfl⟩
  have hin := pen_new s w1 (by omega)
  have h2 := h1.alloc (.cells #[str s, .int .i64 0] 118)
  go_wp2_with fail
  refine (in_raw _ _ _ n _ hin).mono ?_
  rintro e w2 ⟨rfl, h3⟩
  have hc : Chg Nothing w w2 := h2.step h3.chg (fun i hi e => by have := h1.size; subst e; omega)
  by_cases hn : n ≤ s.length
  · have H : ∃ k : Nat, k ≤ s.length ∧ ((0 < n ∧ n = k) ∨ (n ≤ 0 ∧ k = 0)) := by
      by_cases hp : 0 < n
      · exact ⟨n.toNat, by omega, .inl ⟨hp, by omega⟩⟩
      · exact ⟨0, by omega, .inr ⟨by omega, rfl⟩⟩
    obtain ⟨k, hks, hnk⟩ := H
    have e1 : rawT s n = s.take k := by
      rcases hnk with ⟨_, h⟩ | ⟨h, h'⟩
      · simp [rawT, h, hks]
      · simp [rawT, hn, h', show n.toNat = 0 from by omega]
    have e2 : rawL s n = s.drop k := by
      rcases hnk with ⟨_, h⟩ | ⟨h, h'⟩
      · simp [rawL, h, hks]
      · simp [rawL, hn, h', show n.toNat = 0 from by omega]
    have e3 : rawE s 0 n = 0 := by simp [rawE, hn]
    rw [e1]
    rw [e2, e3] at h3
    clear e1 e2 e3
    have hlen : ((s.drop k).length : Int) = s.length - k := by rw [List.length_drop]; omega
    have HE : ∃ b : Bool, ((k : Int) == s.length) = b ∧ ((0 : Int) = endE (s.drop k) 0 ∧ b = true ∨ (1 : Int) = endE (s.drop k) 0 ∧ b = false) := by
      by_cases h : k = s.length
      · refine ⟨true, by simp [h], .inl ⟨?_, rfl⟩⟩
        unfold endE; rw [if_pos (by rw [h]; exact List.drop_length)]
      · refine ⟨false, by simp; omega, .inr ⟨?_, rfl⟩⟩
        unfold endE; rw [if_neg (by rw [List.drop_eq_nil_iff]; omega)]
    obtain ⟨b, hb, HE⟩ := HE
    have HB := Lib.hid hb
    clear hb
    have HL := Lib.hid hlen
    clear hlen
    rcases HE with ⟨HE, rfl⟩ | ⟨HE, rfl⟩
    all_goals
      replace HE := Lib.hid HE
      rcases hnk with ⟨hp, rfl⟩ | ⟨hp, rfl⟩
    all_goals
      go_wp2_with fail
      refine (in_left _ _ _ _ h3.is).mono ?_
      rintro e w' ⟨rfl, rfl⟩
      rw [HL.out]
      go_wp2_with fail
      refine (in_err _ _ _ _ h3.is).mono ?_
      rintro e w' ⟨rfl, rfl⟩
      go_wp2_with fail
      refine (in_end _ _ _ _ h3.is).mono ?_
      rintro e w' ⟨rfl, rfl⟩
      rw [← HE.out]
      have hb := HB.out
      try simp only [Int.natCast_zero] at hb
      go_wp2
      go_ret
      exact ⟨rfl, hc⟩
  · have e1 : rawT s n = [] := by simp [rawT, hn]
    have e2 : rawL s n = [] := by simp [rawL, hn]
    have e3 : rawE s 0 n = 2 := by simp [rawE, hn]
    rw [e1]
    rw [e2, e3] at h3
    clear e1 e2 e3
    have hlt : (s.length : Int) < n := by omega
    go_wp2_with fail
    refine (in_left _ _ _ _ h3.is).mono ?_
    rintro e w' ⟨rfl, rfl⟩
    go_wp2_with fail
    refine (in_err _ _ _ _ h3.is).mono ?_
    rintro e w' ⟨rfl, rfl⟩
    go_wp2_with fail
    refine (in_end _ _ _ _ h3.is).mono ?_
    rintro e w' ⟨rfl, rfl⟩
    rw [show endE [] 2 = 2 from rfl]
    go_wp2_with fail
    refine (in_u8 _ _ _ _ h3.is).mono ?_
    rintro e w4 ⟨rfl, h4⟩
    rw [show (getN (rawT [] 1) : Int) = 0 from rfl]
    go_wp2
    go_ret
    exact ⟨rfl, hc.step h4.chg (fun i hi e => by have := h1.size; subst e; omega)⟩
end Go.Proofs.Ytiehcdcimllooaa
