/- What each function of package pen does, called with anything that a law gives it. -/
import Derived.Test.YtiehcdcimllooaaKit
import Derived.Test.YtiehcdcimllooaaByte
namespace Go.Proofs.Ytiehcdcimllooaa
open Go.RowKit
set_option linter.unusedVariables false
set_option linter.unusedSimpArgs false

/-! ### In -/
/-- Block g is an In: what is left, the first error. -/
structure InIs (w : World) (g : Nat) (l : List UInt8) (e : Int) : Prop where
  blk : Blk w g 118 #[str l, .int .i64 e]
  ok : e ≠ 0 → l = []
  len : l.length ≤ 1099511627776
/-- Block g has become this In, nothing else has turned. -/
structure InStep (g : Nat) (w : World) (l : List UInt8) (e : Int) (w' : World) : Prop where
  is : InIs w' g l e
  chg : Chg (· = g) w w'

theorem InIs.c0 {w : World} {g : Nat} {l : List UInt8} {e : Int} (h : InIs w g l e) : w.cell? ⟨g, 0, none⟩ = some (str l) := h.blk.cell 0
theorem InIs.c1 {w : World} {g : Nat} {l : List UInt8} {e : Int} (h : InIs w g l e) : w.cell? ⟨g, 1, none⟩ = some (.int .i64 e) := h.blk.cell 1
theorem InIs.f0 {w : World} {g : Nat} {l : List UInt8} {e : Int} (h : InIs w g l e) : w.frozen? ⟨g, 0, none⟩ = false := h.blk.frozen 0
theorem InIs.f1 {w : World} {g : Nat} {l : List UInt8} {e : Int} (h : InIs w g l e) : w.frozen? ⟨g, 1, none⟩ = false := h.blk.frozen 1
theorem InIs.chg {w w' : World} {g : Nat} {l : List UInt8} {e : Int} {S : Nat → Prop} (h : InIs w g l e) (hc : Chg S w w') (hn : ¬ S g) : InIs w' g l e :=
  ⟨h.blk.chg hc hn, h.ok, h.len⟩
theorem InIs.drew {w : World} {g : Nat} {l : List UInt8} {e : Int} (h : InIs w g l e) : InIs w.drew g l e := ⟨h.blk, h.ok, h.len⟩
theorem InIs.drewN {w : World} {g : Nat} {l : List UInt8} {e : Int} (h : InIs w g l e) (n : Nat) : InIs (w.drewN n) g l e := ⟨h.blk, h.ok, h.len⟩
theorem InStep.refl {w : World} {g : Nat} {l : List UInt8} {e : Int} (h : InIs w g l e) : InStep g w l e w := ⟨h, Chg.refl _ _⟩
theorem InStep.trans {w w1 w2 : World} {g : Nat} {l m : List UInt8} {e f : Int} (h : InStep g w l e w1) (k : InStep g w1 m f w2) : InStep g w m f w2 :=
  ⟨k.is, h.chg.trans k.chg⟩

/-- Behind Fail. -/
def failL (l : List UInt8) (e f : Int) : List UInt8 := if e = 0 ∧ f ≠ 0 then [] else l
def failE (e f : Int) : Int := if e = 0 ∧ f ≠ 0 then f else e
/-- What Raw gives, and leaves. -/
def rawT (l : List UInt8) (n : Int) : List UInt8 := if n ≤ l.length then l.take n.toNat else []
def rawL (l : List UInt8) (n : Int) : List UInt8 := if n ≤ l.length then l.drop n.toNat else []
def rawE (l : List UInt8) (e n : Int) : Int := if n ≤ l.length then e else if e = 0 then 2 else e
def endE (l : List UInt8) (e : Int) : Int := if l = [] then e else 1
theorem rawT_length (l : List UInt8) (n : Int) (k : Nat) (hn : n ≤ k) : (rawT l n).length ≤ k := by
  unfold rawT; split
  · rw [List.length_take]; omega
  · simp

theorem pen_of (l : List UInt8) (w : World) : Calls Try.prog 17 #[str l] w fun r w' => r = .returned (.pointer (some ⟨w.heap.size, 0, none⟩)) ∧ w.alloc (.cells #[str l, .int .i64 0] 118) = w' := by
  go_enter Try.func17, Try.ntmps17
  go_wp2
  go_ret
  exact ⟨rfl, rfl⟩
theorem pen_new (l : List UInt8) (w : World) (hl : l.length ≤ 1099511627776) : InIs (w.alloc (.cells #[str l, .int .i64 0] 118)) w.heap.size l 0 :=
  ⟨Blk.new _ _ _, fun h => absurd rfl h, hl⟩

theorem in_fail (g : Nat) (l : List UInt8) (e f : Int) (w : World) (h : InIs w g l e) :
    Calls Try.prog 28 #[.pointer (some ⟨g, 0, none⟩), .int .i64 f] w fun r w' => r = .returned (.tuple #[]) ∧ InStep g w (failL l e f) (failE e f) w' := by
  have h0 := h.c0
  have h1 := h.c1
  have f0 := h.f0
  have f1 := h.f1
  by_cases he : e = 0
  · subst he
    by_cases hf : f = 0
    · subst hf
      go_enter Try.func28, Try.ntmps28
      go_wp2
      go_end0
      exact ⟨rfl, by simpa [failL, failE] using InStep.refl h⟩
    · have hb : (f != 0) = true := by simpa using hf
      go_enter Try.func28, Try.ntmps28
      go_wp2
      go_end0
      refine ⟨rfl, ⟨?_, ?_, ?_⟩, ?_⟩
      · simp only [failL, failE, hf, and_true, if_true, not_false_eq_true, ne_eq]
        exact (h.blk.set_ 0 _).set_ 1 _
      · simp [failL, hf]
      · simp [failL, hf]
      · exact ((Chg.refl (· = g) _).setCell _ _ (fun _ => rfl)).setCell _ _ (fun _ => rfl)
  · have hb : (e == 0) = false := by simpa using he
    go_enter Try.func28, Try.ntmps28
    go_wp2
    go_end0
    exact ⟨rfl, by simpa [failL, failE, he] using InStep.refl h⟩

theorem in_left (g : Nat) (l : List UInt8) (e : Int) (w : World) (h : InIs w g l e) :
    Calls Try.prog 19 #[.pointer (some ⟨g, 0, none⟩)] w fun r w' => r = .returned (.int .i64 l.length) ∧ w = w' := by
  have h0 := h.c0
  go_enter Try.func19, Try.ntmps19
  go_wp2
  go_ret
  exact ⟨rfl, rfl⟩
theorem in_err (g : Nat) (l : List UInt8) (e : Int) (w : World) (h : InIs w g l e) :
    Calls Try.prog 20 #[.pointer (some ⟨g, 0, none⟩)] w fun r w' => r = .returned (.int .i64 e) ∧ w = w' := by
  have h1 := h.c1
  go_enter Try.func20, Try.ntmps20
  go_wp2
  go_ret
  exact ⟨rfl, rfl⟩
theorem in_end (g : Nat) (l : List UInt8) (e : Int) (w : World) (h : InIs w g l e) :
    Calls Try.prog 21 #[.pointer (some ⟨g, 0, none⟩)] w fun r w' => r = .returned (.int .i64 (endE l e)) ∧ w = w' := by
  have h0 := h.c0
  have h1 := h.c1
  by_cases hl : l = []
  · subst hl
    go_enter Try.func21, Try.ntmps21
    go_wp2
    go_ret
    exact ⟨rfl, rfl⟩
  · have hb : (!l.isEmpty) = true := by simpa using hl
    go_enter Try.func21, Try.ntmps21
    go_wp2
    go_ret
    exact ⟨by simp [endE, hl], rfl⟩

theorem in_raw (g : Nat) (l : List UInt8) (e n : Int) (w : World) (h : InIs w g l e) :
    Calls Try.prog 18 #[.pointer (some ⟨g, 0, none⟩), .int .i64 n] w fun r w' => r = .returned (str (rawT l n)) ∧ InStep g w (rawL l n) (rawE l e n) w' := by
  have h0 := h.c0
  have f0 := h.f0
  have hlen := h.len
  by_cases hn : n ≤ l.length
  · by_cases hp : 0 < n
    · obtain ⟨k, rfl⟩ := Int.eq_ofNat_of_zero_le (show 0 ≤ n by omega)
      go_enter Try.func18, Try.ntmps18
      go_wp2
      go_ret
      refine ⟨by simp [rawT, hn], ⟨?_, ?_, ?_⟩, ?_⟩
      · simp only [rawL, rawE, hn, if_true]
        exact h.blk.set_ 0 _
      · simp only [rawL, rawE, hn, if_true]
        intro he; rw [h.ok he]; simp
      · simp only [rawL, hn, if_true, List.length_drop]; omega
      · exact (Chg.refl (· = g) _).setCell _ _ (fun _ => rfl)
    · have hn0 : n.toNat = 0 := by omega
      go_enter Try.func18, Try.ntmps18
      go_wp2
      go_ret
      refine ⟨by simp [rawT, hn, hn0, str]; rfl, ⟨?_, ?_, ?_⟩, ?_⟩
      · simp only [rawL, rawE, hn, if_true, hn0, List.drop_zero]
        exact h.blk.set_ 0 _
      · simp only [rawL, rawE, hn, if_true, hn0, List.drop_zero]
        exact h.ok
      · simp only [rawL, hn, if_true, List.length_drop]; omega
      · exact (Chg.refl (· = g) _).setCell _ _ (fun _ => rfl)
  · have hp : 0 < n := by omega
    have hlt : (l.length : Int) < n := by omega
    go_enter Try.func18, Try.ntmps18
    go_wp2_with (go_at_call 28; refine (in_fail g l e 2 _ h).mono ?_; rintro r w1 ⟨rfl, h1⟩)
    go_ret
    have hn : ¬ n ≤ l.length := by omega
    refine ⟨by simp [rawT, hn], ?_⟩
    have e1 : failL l e 2 = rawL l n := by
      unfold failL rawL; rw [if_neg hn]; split
      · rfl
      · exact h.ok (by rename_i hh; intro h0; exact hh ⟨h0, by decide⟩)
    have e2 : failE e 2 = rawE l e n := by
      unfold failE rawE; rw [if_neg hn]; by_cases he : e = 0 <;> simp [he]
    rw [← e1, ← e2]
    exact h1

theorem in_number (g : Nat) (l : List UInt8) (e : Int) (k : Nat) (w : World) (h : InIs w g l e) (hk : k ≤ 4) :
    Calls Try.prog 67 #[.pointer (some ⟨g, 0, none⟩), .int .i64 k] w fun r w' => r = .returned (.int .u32 (getN (rawT l k))) ∧ InStep g w (rawL l k) (rawE l e k) w' := by
  obtain ⟨t, ht⟩ : ∃ t, t = rawT l k := ⟨_, rfl⟩
  have htl : t.length ≤ 4 := by rw [ht]; exact Nat.le_trans (rawT_length l k k (Int.le_refl _)) hk
  rw [← ht]
  have HT := Lib.hid ht
  clear ht
  go_enter Try.func67, Try.ntmps67
  go_wp2_with (go_at_call 18; refine (in_raw g l e k _ h).mono ?_; rintro r w1 ⟨rfl, h1⟩; rw [← HT.out])
  go_loop [5, 13] (fun n i => ∃ j : Nat, j ≤ t.length ∧ i = .int .i64 j ∧ n = .int .u32 (getN (t.take j))) (fun _ i => t.length - (intOf i).toNat)
  case atStart => exact ⟨0, Nat.zero_le _, rfl, rfl⟩
  case round =>
    obtain ⟨j, hj, rfl, rfl⟩ := hrel
    by_cases hlt : j < t.length
    · have hlt' : (j : Int) < t.length := by omega
      have hb : getN (t.take j) < 16777216 := by
        have h1 := getN_lt (t.take j)
        have h2 : (t.take j).length ≤ 3 := by rw [List.length_take]; omega
        have h3 : 256 ^ (t.take j).length ≤ 256 ^ 3 := Nat.pow_le_pow_right (by decide) h2
        omega
      have hbt := t[j].toNat_lt
      have hs : Hid (t.take (j + 1) = t.take j ++ [t[j]]) := List.take_succ_eq_append_getElem hlt
      go_wp2
      go_round
      case rel => exact ⟨j + 1, by omega, by go_num, by rw [hs.out, getN_snoc, u32_byte_join _ _ hb hbt]⟩
      case measure => simp [intOf]; omega
    · go_wp2
      go_ret
      exact ⟨ret_int (by rw [List.take_of_length_le (by omega)]), h1⟩

theorem num_lt (l : List UInt8) (k m : Nat) (h : 256 ^ k ≤ m) : (getN (rawT l k) : Int) < m := by
  have h1 := getN_lt (rawT l k)
  have h2 := rawT_length l k k (Int.le_refl _)
  have h3 : 256 ^ (rawT l k).length ≤ 256 ^ k := Nat.pow_le_pow_right (by decide) h2
  omega
theorem in_u8 (g : Nat) (l : List UInt8) (e : Int) (w : World) (h : InIs w g l e) :
    Calls Try.prog 22 #[.pointer (some ⟨g, 0, none⟩)] w fun r w' => r = .returned (.int .i64 (getN (rawT l 1))) ∧ InStep g w (rawL l 1) (rawE l e 1) w' := by
  have hlt : (getN (rawT l 1) : Int) < 256 := num_lt l 1 256 (by decide)
  go_enter Try.func22, Try.ntmps22
  go_wp2_with (go_at_call 67; refine (in_number g l e 1 _ h (by decide)).mono ?_; rintro r w1 ⟨rfl, h1⟩)
  go_ret
  exact ⟨rfl, h1⟩
theorem in_u16 (g : Nat) (l : List UInt8) (e : Int) (w : World) (h : InIs w g l e) :
    Calls Try.prog 24 #[.pointer (some ⟨g, 0, none⟩)] w fun r w' => r = .returned (.int .i64 (getN (rawT l 2))) ∧ InStep g w (rawL l 2) (rawE l e 2) w' := by
  have hlt : (getN (rawT l 2) : Int) < 65536 := num_lt l 2 65536 (by decide)
  go_enter Try.func24, Try.ntmps24
  go_wp2_with (go_at_call 67; refine (in_number g l e 2 _ h (by decide)).mono ?_; rintro r w1 ⟨rfl, h1⟩)
  go_ret
  exact ⟨rfl, h1⟩
theorem in_u24 (g : Nat) (l : List UInt8) (e : Int) (w : World) (h : InIs w g l e) :
    Calls Try.prog 25 #[.pointer (some ⟨g, 0, none⟩)] w fun r w' => r = .returned (.int .i64 (getN (rawT l 3))) ∧ InStep g w (rawL l 3) (rawE l e 3) w' := by
  have hlt : (getN (rawT l 3) : Int) < 16777216 := num_lt l 3 16777216 (by decide)
  go_enter Try.func25, Try.ntmps25
  go_wp2_with (go_at_call 67; refine (in_number g l e 3 _ h (by decide)).mono ?_; rintro r w1 ⟨rfl, h1⟩)
  go_ret
  exact ⟨rfl, h1⟩
theorem in_u32 (g : Nat) (l : List UInt8) (e : Int) (w : World) (h : InIs w g l e) :
    Calls Try.prog 26 #[.pointer (some ⟨g, 0, none⟩)] w fun r w' => r = .returned (.int .u32 (getN (rawT l 4))) ∧ InStep g w (rawL l 4) (rawE l e 4) w' := by
  go_enter Try.func26, Try.ntmps26
  go_wp2_with (go_at_call 67; refine (in_number g l e 4 _ h (by decide)).mono ?_; rintro r w1 ⟨rfl, h1⟩)
  go_ret
  exact ⟨rfl, h1⟩

/-! ### Out -/
theorem info_u8 : (Try.prog.info? 5).map (fun i => (i.zero, i.size, i.bytes)) = some (some (.int .u8 0), 1, 1) := by kernel_rfl
/-- Block g is an Out whose slice is v; so many bytes were written. -/
structure OutIs (w : World) (g : Nat) (v : Value) (l : List UInt8) : Prop where
  blk : Blk w g 47 #[v]
  own : w.ownsRow 0 5 1 v l.length (l.map bv)
/-- What a writing call may change. -/
def OutMay (g : Nat) (v : Value) (k : Nat) : Prop := k = g ∨ v.ownBlock = some k
structure OutStep (g : Nat) (v : Value) (w : World) (l : List UInt8) (v' : Value) (w' : World) : Prop where
  is : OutIs w' g v' l
  chg : Chg (OutMay g v) w w'
  mov : Moved w v v'
/-- The same, whatever the new slice. -/
def Out1 (g : Nat) (v : Value) (w : World) (l : List UInt8) (w' : World) : Prop := ∃ v', OutStep g v w l v' w'
theorem OutIs.c0 {w : World} {g : Nat} {v : Value} {l : List UInt8} (h : OutIs w g v l) : w.cell? ⟨g, 0, none⟩ = some v := h.blk.cell 0
theorem OutIs.f0 {w : World} {g : Nat} {v : Value} {l : List UInt8} (h : OutIs w g v l) : w.frozen? ⟨g, 0, none⟩ = false := h.blk.frozen 0
theorem OutIs.row {w : World} {g : Nat} {v : Value} {l : List UInt8} (h : OutIs w g v l) : v.ownBlock ≠ some g := own_blk_ne h.own h.blk (by decide)
theorem OutIs.chg {w w' : World} {g : Nat} {v : Value} {l : List UInt8} {S : Nat → Prop} (h : OutIs w g v l) (hc : Chg S w w') (hn : ¬ S g) (hv : ∀ k, v.ownBlock = some k → ¬ S k) : OutIs w' g v l :=
  ⟨h.blk.chg hc hn, own_chg h.own hc hv⟩
theorem OutStep.refl {w : World} {g : Nat} {v : Value} {l : List UInt8} (h : OutIs w g v l) : OutStep g v w l v w := ⟨h, Chg.refl _ _, Moved.refl _ _⟩
theorem OutStep.trans {w w1 w2 : World} {g : Nat} {v v1 v2 : Value} {l m : List UInt8} (h : OutStep g v w l v1 w1) (k : OutStep g v1 w1 m v2 w2) : OutStep g v w m v2 w2 :=
  ⟨k.is, h.chg.step k.chg (fun i hi t => t.elim .inl fun t => .inr (h.mov.old hi t)), h.mov.trans k.mov h.chg.size⟩
/-- The world may first grow beside it. -/
theorem OutStep.ahead {w w0 w1 : World} {g : Nat} {v v1 : Value} {m : List UInt8} (hc : Chg Nothing w w0) (k : OutStep g v w0 m v1 w1) : OutStep g v w m v1 w1 :=
  ⟨k.is, (hc.mono (fun _ _ t => t.elim)).trans k.chg, by
    rcases k.mov with h | ⟨r, h1, h2⟩
    · exact .inl h
    · exact .inr ⟨r, h1, Nat.le_trans hc.size h2⟩⟩

/-- Behind an append to its slice and the store of the new one. -/
theorem OutIs.push {wr wx w2 : World} {g : Nat} {v v' : Value} {l m : List UInt8} {n : Nat} {news : List Value} (h : OutIs wr g v l) (hc : Chg Nothing wr wx)
    (hown : w2.ownsRow 0 5 1 v' n (l.map bv ++ news)) (hn : n = (l ++ m).length) (hnews : news = m.map bv) (hgrow : wx.grownBy w2 v.ownBlock)
    (hat : v'.ownBlock = v.ownBlock ∨ v'.ownBlock = some wx.heap.size) : OutStep g v wr (l ++ m) v' (w2.setCell ⟨g, 0, none⟩ v') := by
  subst hn hnews
  have hb : Blk w2 g 47 #[v] := (h.blk.chg hc id).grown hgrow h.row
  rw [← List.map_append] at hown
  refine ⟨⟨hb.set_ 0 v', own_setCell hown _ _ (own_blk_ne hown hb (by decide))⟩, ?_, ?_⟩
  · exact (((Chg.mono hc (fun _ _ t => t.elim)).grown hgrow (fun k hk _ => .inr hk))).setCell _ _ (fun _ => .inl rfl)
  · rcases hat with h1 | h1
    · exact .inl h1
    · exact .inr ⟨_, h1, hc.size⟩
theorem shr_byte' (n : Int) (j : Nat) : IntKind.u8.wrap (n / 2 ^ (8 * (j : Int)).toNat) = ((n / 256 ^ j) % 256).toNat := by
  rw [show (8 * (j : Int)).toNat = 8 * j from by omega]
  have h : (2 : Int) ^ (8 * j) = 256 ^ j := by rw [Int.pow_mul]; rfl
  rw [IntKind.wrap_u8, h, Int.toNat_of_nonneg (Int.emod_nonneg _ (by decide))]

theorem byte_cell (n : Int) (j : Nat) : Value.int .u8 (IntKind.u8.wrap (n / 2 ^ (8 * (j : Int)).toNat)) = bv (UInt8.ofNat ((n / 256 ^ j) % 256).toNat) := by
  rw [shr_byte', bv, toNat_byte]
theorem out_put (g : Nat) (v : Value) (l : List UInt8) (n : Int) (size : Nat) (w : World) (h : OutIs w g v l) (hn0 : 0 ≤ n) (hn : n < 4294967296) (hs : size ≤ 4) (hl : l.length ≤ 1099511627776) :
    Calls Try.prog 70 #[.pointer (some ⟨g, 0, none⟩), .int .u32 n, .int .i64 size] w fun r w' => r = .returned (.tuple #[]) ∧ Out1 g v w (l ++ putZ n size) w' := by
  obtain ⟨i0, hi, hz0, hz1, hz2⟩ := info_parts info_u8
  go_enter Try.func70, Try.ntmps70
  go_wp2_with fail
  go_loopw [6] (fun i wr => ∃ (j : Nat) (m : List UInt8) (v1 : Value), j ≤ size ∧ i = .int .i64 ((j : Int) - 1) ∧ m ++ putZ n j = putZ n size ∧ m.length + j = size ∧ OutStep g v w (l ++ m) v1 wr) (fun i _ => (intOf i + 1).toNat)
  case atStart => exact ⟨size, [], v, Nat.le_refl _, rfl, rfl, by simp, by simpa using OutStep.refl h⟩
  case round =>
    obtain ⟨j, m, v1, hj, rfl, hm, hml, ho⟩ := hrel
    have Hm := Lib.hid hm
    clear hm
    have c0 := ho.is.c0
    have f0 := ho.is.f0
    have hrow := ho.is.row
    have hglt := ho.is.blk.lt
    by_cases hj0 : 1 ≤ j
    · obtain ⟨j', rfl⟩ : ∃ j', j = j' + 1 := ⟨j - 1, by omega⟩
      have hge : (0 : Int) ≤ ((j' + 1 : Nat) : Int) - 1 := by omega
      have hw1 : IntKind.i64.wrap (8 * (j' : Int)) = 8 * (j' : Int) := IntWalk.i64_in _ (by omega)
      have hw2 : (0 : Int) ≤ 8 * (j' : Int) := by omega
      have hw3 : min (8 * (j' : Int)).toNat 32 = 8 * j' := by omega
      go_wp2_with fail
      go_region_law
        ((refine step_append_src _ (by rfl) (.tmp 17) (.tmp 23) _ _ (by rfl) 5 i0 _ 1 1 Try.underlying45 hi hz0 hz1 hz2 rfl (by omega) v1 _ _ (by rfl) ((ho.is.own.alloc _).drew) _ 1 _ (by rfl) (Src.ofSlice _ Try.underlying45 _ 1 1 [_] (by rfl) (World.news_of_block (cs := #[_]) (t := 5) (fr := (0, 0)) (heap_alloc_new wr _)) (by simp [Value.oneCell'])) (by unfold maxLen; simp only [List.length_append]; omega) (by simp only [List.length_append]; omega) ?_; intro A2 c2 w2 hown2 hgrow hat _; have hc2 : w2.cell? ⟨g, 0, none⟩ = some v1 := ((hgrow.cell_far _ (by simp; omega) (Ne.symm hrow)).trans (((ho.is.blk.alloc _).drew).cell 0)); have hf2 : w2.frozen? ⟨g, 0, none⟩ = false := ((hgrow.frozen_far _ (by simp; omega) (Ne.symm hrow)).trans (((ho.is.blk.alloc _).drew).frozen 0))))
      all_goals
        simp only [List.length_append] at hown2 hat
        have hst := ho.is.push ((Chg.refl _ _).alloc _).drew hown2 (m := [UInt8.ofNat ((n / 256 ^ j') % 256).toNat]) (by simp; omega) (congrArg (fun x => [x]) (byte_cell n j')) hgrow (by simpa using hat)
        clear hown2 hgrow hat hc2 hf2 c0 f0 hw1 hw3
        go_wp2
        go_roundw
        case rel => exact ⟨j', m ++ [UInt8.ofNat ((n / 256 ^ j') % 256).toNat], _, by omega, by go_num, by rw [← Hm.out, putZ]; simp, by simp; omega, by rw [← List.append_assoc]; exact ho.trans hst⟩
        case measure => simp [intOf]
    · have hge : ((j : Nat) : Int) - 1 < 0 := by omega
      obtain rfl : j = 0 := by omega
      go_wp2
      go_end0
      exact ⟨rfl, v1, by rw [← Hm.out]; simpa [putZ] using ho⟩

theorem OutIs.notMay {w : World} {g r : Nat} {v : Value} {l : List UInt8} {t : TypeId} {cs : Array Value} (h : OutIs w g v l) (hb : Blk w r t cs) (h1 : t ≠ 5) (h2 : t ≠ 47) : ¬ OutMay g v r := by
  rintro (e | e)
  · exact Blk.ne_ hb h.blk h2 e
  · exact own_blk_ne h.own hb (fun x => h1 x.symm) e
theorem putZ32 (n : Int) (k : Nat) (hk : k ≤ 4) : putZ (n % 4294967296) k = putZ n k := putZ_mod n k 4 hk

theorem flat_step {α : Type} (f : α → List UInt8) (xs : List α) (k : Nat) (hk : k < xs.length) : (xs.take (k + 1)).flatMap f = (xs.take k).flatMap f ++ f xs[k] := by
  rw [List.take_succ_eq_append_getElem hk, List.flatMap_append]; simp
theorem flat_len (size k : Nat) (xs : List Int) : ((xs.take k).flatMap (putZ · size)).length ≤ xs.length * size := by
  have h : ∀ ys : List Int, (ys.flatMap (putZ · size)).length = ys.length * size := by
    intro ys
    induction ys with
    | nil => simp
    | cons y ys ih => rw [List.flatMap_cons, List.length_append, ih, putZ_length, List.length_cons, Nat.add_mul]; omega
  rw [h, List.length_take]
  exact Nat.mul_le_mul_right _ (Nat.min_le_right _ _)

theorem out_each (g : Nat) (v : Value) (l : List UInt8) (size : Nat) (r : Nat) (xs : List Int) (c : Nat) (w : World) (h : OutIs w g v l) (hb : Blk w r 3 (xs.map (Value.int .i64)).toArray)
    (hs : size ≤ 4) (hx : xs.length ≤ 65536) (hl : l.length ≤ 549755813888) :
    Calls Try.prog 69 #[.pointer (some ⟨g, 0, none⟩), .int .i64 size, .slice (some ⟨r, 0, none⟩) xs.length c] w fun e w' => e = .returned (.pointer (some ⟨g, 0, none⟩)) ∧ Out1 g v w (l ++ xs.flatMap (putZ · size)) w' := by
  have hnm := h.notMay hb (by decide) (by decide)
  go_enter Try.func69, Try.ntmps69
  go_wp2_with fail
  go_loopw [11] (fun i wr => ∃ (k : Nat) (v1 : Value), k ≤ xs.length ∧ i = .int .i64 k ∧ OutStep g v w (l ++ (xs.take k).flatMap (putZ · size)) v1 wr) (fun i _ => xs.length - (intOf i).toNat)
  case atStart => exact ⟨0, v, Nat.zero_le _, rfl, by simpa using OutStep.refl h⟩
  case round =>
    obtain ⟨k, v1, hk, rfl, ho⟩ := hrel
    by_cases hlt : k < xs.length
    · have hlt' : (k : Int) < xs.length := by omega
      have hc : wr.cell? ⟨r, k, none⟩ = some (.int .i64 xs[k]) := by rw [(hb.chg ho.chg hnm).cell]; simp [hlt]
      have hfl := flat_len size k xs
      have hsz : xs.length * size ≤ 65536 * 4 := Nat.mul_le_mul hx hs
      have hm0 := Int.emod_nonneg xs[k] (show (4294967296 : Int) ≠ 0 by decide)
      have hm1 := Int.emod_lt_of_pos xs[k] (show (0 : Int) < 4294967296 by decide)
      go_wp2_with (go_at_call 70; refine (out_put g v1 _ _ size _ ho.is hm0 hm1 hs (by simp only [List.length_append]; omega)).mono ?_; rintro e w2 ⟨rfl, v2, h2⟩)
      go_roundw
      case rel => exact ⟨k + 1, v2, by omega, by go_num, by rw [flat_step _ _ _ hlt, ← List.append_assoc, ← putZ32 _ _ hs]; exact ho.trans h2⟩
      case measure => simp [intOf]; omega
    · have hge : (xs.length : Int) ≤ k := by omega
      have he : Hid (xs.take k = xs) := List.take_of_length_le (by omega)
      go_wp2
      go_ret
      exact ⟨rfl, v1, by rw [he.out] at ho; exact ho⟩

theorem out_u8 (g : Nat) (v : Value) (l : List UInt8) (r : Nat) (xs : List Int) (c : Nat) (w : World) (h : OutIs w g v l) (hb : Blk w r 3 (xs.map (Value.int .i64)).toArray)
    (hx : xs.length ≤ 65536) (hl : l.length ≤ 549755813888) :
    Calls Try.prog 30 #[.pointer (some ⟨g, 0, none⟩), .slice (some ⟨r, 0, none⟩) xs.length c] w fun e w' => e = .returned (.pointer (some ⟨g, 0, none⟩)) ∧ Out1 g v w (l ++ xs.flatMap (putZ · 1)) w' := by
  go_enter Try.func30, Try.ntmps30
  go_wp2_with (go_at_call 69; refine (out_each g v l 1 r xs c _ h hb (by decide) hx hl).mono ?_; rintro e w1 ⟨rfl, h1⟩)
  go_ret
  exact ⟨rfl, h1⟩
theorem out_u16 (g : Nat) (v : Value) (l : List UInt8) (r : Nat) (xs : List Int) (c : Nat) (w : World) (h : OutIs w g v l) (hb : Blk w r 3 (xs.map (Value.int .i64)).toArray)
    (hx : xs.length ≤ 65536) (hl : l.length ≤ 549755813888) :
    Calls Try.prog 32 #[.pointer (some ⟨g, 0, none⟩), .slice (some ⟨r, 0, none⟩) xs.length c] w fun e w' => e = .returned (.pointer (some ⟨g, 0, none⟩)) ∧ Out1 g v w (l ++ xs.flatMap (putZ · 2)) w' := by
  go_enter Try.func32, Try.ntmps32
  go_wp2_with (go_at_call 69; refine (out_each g v l 2 r xs c _ h hb (by decide) hx hl).mono ?_; rintro e w1 ⟨rfl, h1⟩)
  go_ret
  exact ⟨rfl, h1⟩
theorem out_u24 (g : Nat) (v : Value) (l : List UInt8) (r : Nat) (xs : List Int) (c : Nat) (w : World) (h : OutIs w g v l) (hb : Blk w r 3 (xs.map (Value.int .i64)).toArray)
    (hx : xs.length ≤ 65536) (hl : l.length ≤ 549755813888) :
    Calls Try.prog 33 #[.pointer (some ⟨g, 0, none⟩), .slice (some ⟨r, 0, none⟩) xs.length c] w fun e w' => e = .returned (.pointer (some ⟨g, 0, none⟩)) ∧ Out1 g v w (l ++ xs.flatMap (putZ · 3)) w' := by
  go_enter Try.func33, Try.ntmps33
  go_wp2_with (go_at_call 69; refine (out_each g v l 3 r xs c _ h hb (by decide) hx hl).mono ?_; rintro e w1 ⟨rfl, h1⟩)
  go_ret
  exact ⟨rfl, h1⟩
theorem out_u32 (g : Nat) (v : Value) (l : List UInt8) (r : Nat) (xs : List Int) (c : Nat) (w : World) (h : OutIs w g v l) (hb : Blk w r 38 (xs.map (Value.int .u32)).toArray)
    (hw : ∀ x ∈ xs, 0 ≤ x ∧ x < 4294967296) (hx : xs.length ≤ 65536) (hl : l.length ≤ 549755813888) :
    Calls Try.prog 34 #[.pointer (some ⟨g, 0, none⟩), .slice (some ⟨r, 0, none⟩) xs.length c] w fun e w' => e = .returned (.pointer (some ⟨g, 0, none⟩)) ∧ Out1 g v w (l ++ xs.flatMap (putZ · 4)) w' := by
  have hnm := h.notMay hb (by decide) (by decide)
  have Hw := Lib.hid hw
  clear hw
  go_enter Try.func34, Try.ntmps34
  go_wp2_with fail
  go_loopw [9] (fun i wr => ∃ (k : Nat) (v1 : Value), k ≤ xs.length ∧ i = .int .i64 k ∧ OutStep g v w (l ++ (xs.take k).flatMap (putZ · 4)) v1 wr) (fun i _ => xs.length - (intOf i).toNat)
  case atStart => exact ⟨0, v, Nat.zero_le _, rfl, by simpa using OutStep.refl h⟩
  case round =>
    obtain ⟨k, v1, hk, rfl, ho⟩ := hrel
    by_cases hlt : k < xs.length
    · have hlt' : (k : Int) < xs.length := by omega
      have hc : wr.cell? ⟨r, k, none⟩ = some (.int .u32 xs[k]) := by rw [(hb.chg ho.chg hnm).cell]; simp [hlt]
      have hfl := flat_len 4 k xs
      have hm := Hw.out xs[k] (List.getElem_mem hlt)
      go_wp2_with (go_at_call 70; refine (out_put g v1 _ _ 4 _ ho.is hm.1 hm.2 (by decide) (by simp only [List.length_append]; omega)).mono ?_; rintro e w2 ⟨rfl, v2, h2⟩)
      go_roundw
      case rel => exact ⟨k + 1, v2, by omega, by go_num, by rw [flat_step _ _ _ hlt, ← List.append_assoc]; exact ho.trans h2⟩
      case measure => simp [intOf]; omega
    · have hge : (xs.length : Int) ≤ k := by omega
      have he : Hid (xs.take k = xs) := List.take_of_length_le (by omega)
      go_wp2
      go_ret
      exact ⟨rfl, v1, by rw [he.out] at ho; exact ho⟩

theorem fold_push (l : List UInt8) (s : List UInt8) : (l.map fun b => (b.toNat : Int)).foldl (fun r n => r.push (UInt8.ofNat n.toNat)) (⟨s.toArray⟩ : ByteArray) = ⟨(s ++ l).toArray⟩ := by
  induction l generalizing s with
  | nil => simp
  | cons b l ih =>
    have e : (ByteArray.push ⟨s.toArray⟩ (UInt8.ofNat ((b.toNat : Int)).toNat)) = (⟨(s ++ [b]).toArray⟩ : ByteArray) := by
      simp [ByteArray.push]
    rw [List.map_cons, List.foldl_cons, e, ih]
    simp
theorem run_string_own (P : Program) (w : World) (src dst e : TypeId) (v : Value) (l : List UInt8) (hs : P.underlying src = some (.slice e)) (he : P.underlying e = some (.int .u8)) (hd : P.underlying dst = some .string)
    (h : w.ownsRow 0 e 1 v l.length (l.map bv)) : (convert src dst v).run P w = .ok (str l) w := by
  obtain ⟨A, c, rfl, _⟩ := own_form h
  rw [run_convert_bytes_string w src dst e A l.length c hs he hd]
  rcases h.2 with ⟨hv, hn⟩ | ⟨g, cap, cur, hv, hrest⟩
  · injection hv with h1 h2 h3
    subst h1
    have : l = [] := List.eq_nil_of_length_eq_zero hn
    subst this
    rfl
  · injection hv with h1 h2 h3
    subst h1
    have hc := h.cells (g := g) rfl
    have hl := run_loadCells_list (P := P) (w := w) (⟨g, 0, none⟩ : Addr) (l.map bv) hc
    rw [List.length_map] at hl
    rw [run_bytesToString w _ _ _ (l.map fun b => (b.toNat : Int)) (by rw [hl, List.map_map]; rfl)]
    have := fold_push l []
    rw [List.nil_append] at this
    exact congrArg (fun s => Result.ok (Value.string s) w) this

theorem out_bytes (g : Nat) (v : Value) (l : List UInt8) (w : World) (h : OutIs w g v l) :
    Calls Try.prog 36 #[.pointer (some ⟨g, 0, none⟩)] w fun e w' => e = .returned (str l) ∧ w = w' := by
  have c0 := h.c0
  have hr := run_string_own Try.prog w 45 9 5 v l Try.underlying45 Try.underlying5 Try.underlying9 h.own
  go_enter Try.func36, Try.ntmps36
  go_wp2
  go_ret
  exact ⟨rfl, rfl⟩

theorem byteCells_mk (l : List UInt8) : byteCells ⟨l.toArray⟩ = l.map bv := by simp [byteCells, bv]
theorem flat_take_le (xs : List (List UInt8)) (k : Nat) : ((xs.take k).flatMap id).length ≤ (xs.flatMap id).length := by
  have h : xs.flatMap id = (xs.take k).flatMap id ++ (xs.drop k).flatMap id := by rw [← List.flatMap_append, List.take_append_drop]
  rw [h, List.length_append]; omega
theorem out_raw (g : Nat) (v : Value) (l : List UInt8) (r : Nat) (xs : List (List UInt8)) (c : Nat) (w : World) (h : OutIs w g v l) (hb : Blk w r 9 (xs.map str).toArray)
    (hx : xs.length ≤ 65536) (hxl : (xs.flatMap id).length ≤ 549755813888) (hl : l.length ≤ 549755813888) :
    Calls Try.prog 35 #[.pointer (some ⟨g, 0, none⟩), .slice (some ⟨r, 0, none⟩) xs.length c] w fun e w' => e = .returned (.pointer (some ⟨g, 0, none⟩)) ∧ Out1 g v w (l ++ xs.flatMap id) w' := by
  obtain ⟨i0, hi, hz0, hz1, hz2⟩ := info_parts info_u8
  have hnm := h.notMay hb (by decide) (by decide)
  go_enter Try.func35, Try.ntmps35
  go_wp2_with fail
  go_loopw [9] (fun i wr => ∃ (k : Nat) (v1 : Value), k ≤ xs.length ∧ i = .int .i64 k ∧ OutStep g v w (l ++ (xs.take k).flatMap id) v1 wr) (fun i _ => xs.length - (intOf i).toNat)
  case atStart => exact ⟨0, v, Nat.zero_le _, rfl, by simpa using OutStep.refl h⟩
  case round =>
    obtain ⟨k, v1, hk, rfl, ho⟩ := hrel
    by_cases hlt : k < xs.length
    · have hlt' : (k : Int) < xs.length := by omega
      have hc : wr.cell? ⟨r, k, none⟩ = some (str xs[k]) := by rw [(hb.chg ho.chg hnm).cell]; simp [hlt]
      have hfl1 := flat_take_le xs (k + 1)
      have hsn := flat_step id xs k hlt
      obtain ⟨L, hL⟩ : ∃ L, L = l ++ (xs.take k).flatMap id := ⟨_, rfl⟩
      rw [← hL] at ho
      have Hlen : L.length + xs[k].length ≤ 1099511627776 := by
        rw [hsn, List.length_append] at hfl1; simp only [id] at hfl1; rw [hL, List.length_append]; omega
      have HL : Hid (L ++ xs[k] = l ++ (xs.take (k + 1)).flatMap id) := by rw [hL, hsn, List.append_assoc]; rfl
      clear hsn hfl1 hL
      have c0 := ho.is.c0
      have f0 := ho.is.f0
      have hrow := ho.is.row
      have hglt := ho.is.blk.lt
      go_wp2_with (at_builtin; refine wpList_append_src _ (by rfl) (.tmp 17) (.tmp 18) _ _ (by rfl) 5 i0 _ 1 1 Try.underlying45 hi hz0 hz1 hz2 rfl (by omega) v1 _ _ (by rfl) ho.is.own _ _ _ (by rfl) (Src.ofString _ Try.underlying9 _) (by unfold maxLen; simp only [size_mk]; omega) (by simp only [size_mk]; omega) ?_; intro A2 c2 w2 hown2 hgrow hat _; have hc2 : w2.cell? ⟨g, 0, none⟩ = some v1 := ((hgrow.cell_far _ hglt (Ne.symm hrow)).trans c0); have hf2 : w2.frozen? ⟨g, 0, none⟩ = false := ((hgrow.frozen_far _ hglt (Ne.symm hrow)).trans f0))
      simp only [size_mk] at hown2 hat
      have hst := ho.is.push (Chg.refl _ _) hown2 (m := xs[k]) (by simp) (byteCells_mk _) hgrow (by simpa using hat)
      clear hown2 hgrow hat hc2 hf2 c0 f0
      go_roundw
      case rel => exact ⟨k + 1, _, by omega, by go_num, by rw [← HL.out]; exact ho.trans hst⟩
      case measure => simp [intOf]; omega
    · have hge : (xs.length : Int) ≤ k := by omega
      have he : Hid (xs.take k = xs) := List.take_of_length_le (by omega)
      go_wp2
      go_ret
      exact ⟨rfl, v1, by rw [he.out] at ho; exact ho⟩

/-! ### An Out of the call's own -/
/-- Block g, made since w0, is an Out with these bytes; of what was there at w0 nothing has turned. -/
structure FreshOut (w0 : World) (g : Nat) (l : List UInt8) (w : World) : Prop where
  is : ∃ v, OutIs w g v l ∧ ∀ k, v.ownBlock = some k → w0.heap.size ≤ k
  new : w0.heap.size ≤ g
  chg : Chg Nothing w0 w
/-- Blocks of other kinds than an Out's are as they were. -/
def OutFrame (w w' : World) : Prop := ∀ r t cs, Blk w r t cs → t ≠ 5 → t ≠ 47 → Blk w' r t cs
theorem OutFrame.blk {w w' : World} (h : OutFrame w w') {r : Nat} {t : TypeId} {cs : Array Value} (hb : Blk w r t cs) (h1 : t ≠ 5) (h2 : t ≠ 47) : Blk w' r t cs := h r t cs hb h1 h2
theorem OutFrame.refl (w : World) : OutFrame w w := fun _ _ _ h _ _ => h
theorem OutFrame.trans {w w1 w2 : World} (h : OutFrame w w1) (k : OutFrame w1 w2) : OutFrame w w2 := fun r t cs hb h1 h2 => k r t cs (h r t cs hb h1 h2) h1 h2
theorem OutFrame.nothing {w w1 : World} (h : Chg Nothing w w1) : OutFrame w w1 := fun _ _ _ hb _ _ => hb.chg h id
theorem FreshOut.keep {w0 w w' : World} {g : Nat} {l : List UInt8} (h : FreshOut w0 g l w) (hc : Chg Nothing w w') : FreshOut w0 g l w' := by
  obtain ⟨v, hv, hf⟩ := h.is
  exact ⟨⟨v, hv.chg hc id (fun _ _ => id), hf⟩, h.new, h.chg.trans hc⟩
theorem FreshOut.alloc {w0 w : World} {g : Nat} {l : List UInt8} (h : FreshOut w0 g l w) (o : Obj) : FreshOut w0 g l (w.alloc o) := h.keep ((Chg.refl _ _).alloc o)
theorem FreshOut.drew {w0 w : World} {g : Nat} {l : List UInt8} (h : FreshOut w0 g l w) : FreshOut w0 g l w.drew := h.keep (Chg.refl _ _).drew
/-- A step that changes but blocks that are new since w0, and none of an Out's kinds. -/
theorem FreshOut.beside {w0 w w' : World} {g r : Nat} {l : List UInt8} {t : TypeId} {cs : Array Value} (h : FreshOut w0 g l w) (hb : Blk w r t cs) (h1 : t ≠ 5) (h2 : t ≠ 47) (hr : w0.heap.size ≤ r) (hc : Chg (· = r) w w') : FreshOut w0 g l w' := by
  obtain ⟨v, hv, hf⟩ := h.is
  refine ⟨⟨v, hv.chg hc (fun e => Blk.ne_ hb hv.blk h2 e.symm) (fun k hk e => own_blk_ne hv.own hb (fun x => h1 x.symm) (hk.trans (by rw [e]))), hf⟩, h.new, h.chg.step hc (fun i hi e => ?_)⟩
  have : i = r := e
  omega
theorem FreshOut.step {w0 w w' : World} {g : Nat} {v : Value} {l l' : List UInt8} (hv : OutIs w g v l) (hf : ∀ k, v.ownBlock = some k → w0.heap.size ≤ k) (hn : w0.heap.size ≤ g) (hc : Chg Nothing w0 w) (h : Out1 g v w l' w') :
    FreshOut w0 g l' w' ∧ OutFrame w w' := by
  obtain ⟨v', h⟩ := h
  refine ⟨⟨⟨v', h.is, fun k hk => ?_⟩, hn, hc.step h.chg (fun i hi e => ?_)⟩, fun r t cs hb h1 h2 => hb.chg h.chg (hv.notMay hb h1 h2)⟩
  · rcases h.mov with hm | ⟨r, h1, h2⟩
    · exact hf k (hm ▸ hk)
    · rw [h1] at hk
      injection hk with hk
      have := hc.size
      omega
  · rcases e with rfl | e
    · omega
    · have := hf i e
      omega
theorem fresh_new (w : World) : FreshOut w w.heap.size [] (w.alloc (.cells #[.slice none 0 0] 47)) :=
  ⟨⟨.slice none 0 0, ⟨Blk.new _ _ _, World.ownsRow_nil _ _ _ _⟩, fun k hk => by cases hk⟩, Nat.le_refl _, (Chg.refl _ _).alloc _⟩

section
variable {w0 w : World} {g : Nat} {l : List UInt8}
theorem fresh_u8 (h : FreshOut w0 g l w) (r : Nat) (xs : List Int) (c : Nat) (hb : Blk w r 3 (xs.map (Value.int .i64)).toArray) (hx : xs.length ≤ 65536) (hl : l.length ≤ 549755813888) :
    Calls Try.prog 30 #[.pointer (some ⟨g, 0, none⟩), .slice (some ⟨r, 0, none⟩) xs.length c] w fun e w' => e = .returned (.pointer (some ⟨g, 0, none⟩)) ∧ FreshOut w0 g (l ++ xs.flatMap (putZ · 1)) w' ∧ OutFrame w w' := by
  obtain ⟨v, hv, hf⟩ := h.is
  exact (out_u8 g v l r xs c w hv hb hx hl).mono fun _ _ ⟨he, h1⟩ => ⟨he, FreshOut.step hv hf h.new h.chg h1⟩
theorem fresh_u8' (h : FreshOut w0 g l w) (r : Nat) (xs : List Int) (c : Nat) (cs : Array Value) (hcs : cs = (xs.map (Value.int .i64)).toArray) (hb : Blk w r 3 cs) (hx : xs.length ≤ 65536) (hl : l.length ≤ 549755813888) :
    Calls Try.prog 30 #[.pointer (some ⟨g, 0, none⟩), .slice (some ⟨r, 0, none⟩) xs.length c] w fun e w' => e = .returned (.pointer (some ⟨g, 0, none⟩)) ∧ FreshOut w0 g (l ++ xs.flatMap (putZ · 1)) w' ∧ OutFrame w w' := by
  subst hcs
  exact fresh_u8 h r xs c hb hx hl
theorem fresh_u16 (h : FreshOut w0 g l w) (r : Nat) (xs : List Int) (c : Nat) (hb : Blk w r 3 (xs.map (Value.int .i64)).toArray) (hx : xs.length ≤ 65536) (hl : l.length ≤ 549755813888) :
    Calls Try.prog 32 #[.pointer (some ⟨g, 0, none⟩), .slice (some ⟨r, 0, none⟩) xs.length c] w fun e w' => e = .returned (.pointer (some ⟨g, 0, none⟩)) ∧ FreshOut w0 g (l ++ xs.flatMap (putZ · 2)) w' ∧ OutFrame w w' := by
  obtain ⟨v, hv, hf⟩ := h.is
  exact (out_u16 g v l r xs c w hv hb hx hl).mono fun _ _ ⟨he, h1⟩ => ⟨he, FreshOut.step hv hf h.new h.chg h1⟩
theorem fresh_u16' (h : FreshOut w0 g l w) (r : Nat) (xs : List Int) (c : Nat) (cs : Array Value) (hcs : cs = (xs.map (Value.int .i64)).toArray) (hb : Blk w r 3 cs) (hx : xs.length ≤ 65536) (hl : l.length ≤ 549755813888) :
    Calls Try.prog 32 #[.pointer (some ⟨g, 0, none⟩), .slice (some ⟨r, 0, none⟩) xs.length c] w fun e w' => e = .returned (.pointer (some ⟨g, 0, none⟩)) ∧ FreshOut w0 g (l ++ xs.flatMap (putZ · 2)) w' ∧ OutFrame w w' := by
  subst hcs
  exact fresh_u16 h r xs c hb hx hl
theorem fresh_u24 (h : FreshOut w0 g l w) (r : Nat) (xs : List Int) (c : Nat) (hb : Blk w r 3 (xs.map (Value.int .i64)).toArray) (hx : xs.length ≤ 65536) (hl : l.length ≤ 549755813888) :
    Calls Try.prog 33 #[.pointer (some ⟨g, 0, none⟩), .slice (some ⟨r, 0, none⟩) xs.length c] w fun e w' => e = .returned (.pointer (some ⟨g, 0, none⟩)) ∧ FreshOut w0 g (l ++ xs.flatMap (putZ · 3)) w' ∧ OutFrame w w' := by
  obtain ⟨v, hv, hf⟩ := h.is
  exact (out_u24 g v l r xs c w hv hb hx hl).mono fun _ _ ⟨he, h1⟩ => ⟨he, FreshOut.step hv hf h.new h.chg h1⟩
theorem fresh_u24' (h : FreshOut w0 g l w) (r : Nat) (xs : List Int) (c : Nat) (cs : Array Value) (hcs : cs = (xs.map (Value.int .i64)).toArray) (hb : Blk w r 3 cs) (hx : xs.length ≤ 65536) (hl : l.length ≤ 549755813888) :
    Calls Try.prog 33 #[.pointer (some ⟨g, 0, none⟩), .slice (some ⟨r, 0, none⟩) xs.length c] w fun e w' => e = .returned (.pointer (some ⟨g, 0, none⟩)) ∧ FreshOut w0 g (l ++ xs.flatMap (putZ · 3)) w' ∧ OutFrame w w' := by
  subst hcs
  exact fresh_u24 h r xs c hb hx hl
theorem fresh_u32 (h : FreshOut w0 g l w) (r : Nat) (xs : List Int) (c : Nat) (hb : Blk w r 38 (xs.map (Value.int .u32)).toArray) (hw : ∀ x ∈ xs, 0 ≤ x ∧ x < 4294967296) (hx : xs.length ≤ 65536) (hl : l.length ≤ 549755813888) :
    Calls Try.prog 34 #[.pointer (some ⟨g, 0, none⟩), .slice (some ⟨r, 0, none⟩) xs.length c] w fun e w' => e = .returned (.pointer (some ⟨g, 0, none⟩)) ∧ FreshOut w0 g (l ++ xs.flatMap (putZ · 4)) w' ∧ OutFrame w w' := by
  obtain ⟨v, hv, hf⟩ := h.is
  exact (out_u32 g v l r xs c w hv hb hw hx hl).mono fun _ _ ⟨he, h1⟩ => ⟨he, FreshOut.step hv hf h.new h.chg h1⟩
theorem fresh_u32' (h : FreshOut w0 g l w) (r : Nat) (xs : List Int) (c : Nat) (cs : Array Value) (hcs : cs = (xs.map (Value.int .u32)).toArray) (hb : Blk w r 38 cs) (hw : ∀ x ∈ xs, 0 ≤ x ∧ x < 4294967296) (hx : xs.length ≤ 65536) (hl : l.length ≤ 549755813888) :
    Calls Try.prog 34 #[.pointer (some ⟨g, 0, none⟩), .slice (some ⟨r, 0, none⟩) xs.length c] w fun e w' => e = .returned (.pointer (some ⟨g, 0, none⟩)) ∧ FreshOut w0 g (l ++ xs.flatMap (putZ · 4)) w' ∧ OutFrame w w' := by
  subst hcs
  exact fresh_u32 h r xs c hb hw hx hl
theorem fresh_raw (h : FreshOut w0 g l w) (r : Nat) (xs : List (List UInt8)) (c : Nat) (hb : Blk w r 9 (xs.map str).toArray) (hx : xs.length ≤ 65536) (hxl : (xs.flatMap id).length ≤ 549755813888) (hl : l.length ≤ 549755813888) :
    Calls Try.prog 35 #[.pointer (some ⟨g, 0, none⟩), .slice (some ⟨r, 0, none⟩) xs.length c] w fun e w' => e = .returned (.pointer (some ⟨g, 0, none⟩)) ∧ FreshOut w0 g (l ++ xs.flatMap id) w' ∧ OutFrame w w' := by
  obtain ⟨v, hv, hf⟩ := h.is
  exact (out_raw g v l r xs c w hv hb hx hxl hl).mono fun _ _ ⟨he, h1⟩ => ⟨he, FreshOut.step hv hf h.new h.chg h1⟩
theorem fresh_raw' (h : FreshOut w0 g l w) (r : Nat) (xs : List (List UInt8)) (c : Nat) (cs : Array Value) (hcs : cs = (xs.map str).toArray) (hb : Blk w r 9 cs) (hx : xs.length ≤ 65536) (hxl : (xs.flatMap id).length ≤ 549755813888) (hl : l.length ≤ 549755813888) :
    Calls Try.prog 35 #[.pointer (some ⟨g, 0, none⟩), .slice (some ⟨r, 0, none⟩) xs.length c] w fun e w' => e = .returned (.pointer (some ⟨g, 0, none⟩)) ∧ FreshOut w0 g (l ++ xs.flatMap id) w' ∧ OutFrame w w' := by
  subst hcs
  exact fresh_raw h r xs c hb hx hxl hl
theorem fresh_bytes (h : FreshOut w0 g l w) :
    Calls Try.prog 36 #[.pointer (some ⟨g, 0, none⟩)] w fun e w' => e = .returned (str l) ∧ w = w' := by
  obtain ⟨v, hv, hf⟩ := h.is
  exact out_bytes g v l w hv
end

theorem rawT_app (x y : List UInt8) (n : Int) (h : (x.length : Int) = n) : rawT (x ++ y) n = x := by subst h; simp [rawT]; omega
theorem rawL_app (x y : List UInt8) (n : Int) (h : (x.length : Int) = n) : rawL (x ++ y) n = y := by subst h; simp [rawL]; omega
theorem rawE_app (x y : List UInt8) (e n : Int) (h : (x.length : Int) = n) : rawE (x ++ y) e n = e := by subst h; simp [rawE]; omega
section
variable {g : Nat} {x y : List UInt8} {e : Int} {w : World}
theorem app_u8 (h : InIs w g (x ++ y) e) (hx : x.length = 1) : Calls Try.prog 22 #[.pointer (some ⟨g, 0, none⟩)] w fun r w' => r = .returned (.int .i64 (getN x)) ∧ InStep g w y e w' := by
  have := in_u8 g _ e w h
  rwa [rawT_app x y 1 (by omega), rawL_app x y 1 (by omega), rawE_app x y e 1 (by omega)] at this
theorem app_u16 (h : InIs w g (x ++ y) e) (hx : x.length = 2) : Calls Try.prog 24 #[.pointer (some ⟨g, 0, none⟩)] w fun r w' => r = .returned (.int .i64 (getN x)) ∧ InStep g w y e w' := by
  have := in_u16 g _ e w h
  rwa [rawT_app x y 2 (by omega), rawL_app x y 2 (by omega), rawE_app x y e 2 (by omega)] at this
theorem app_u24 (h : InIs w g (x ++ y) e) (hx : x.length = 3) : Calls Try.prog 25 #[.pointer (some ⟨g, 0, none⟩)] w fun r w' => r = .returned (.int .i64 (getN x)) ∧ InStep g w y e w' := by
  have := in_u24 g _ e w h
  rwa [rawT_app x y 3 (by omega), rawL_app x y 3 (by omega), rawE_app x y e 3 (by omega)] at this
theorem app_u32 (h : InIs w g (x ++ y) e) (hx : x.length = 4) : Calls Try.prog 26 #[.pointer (some ⟨g, 0, none⟩)] w fun r w' => r = .returned (.int .u32 (getN x)) ∧ InStep g w y e w' := by
  have := in_u32 g _ e w h
  rwa [rawT_app x y 4 (by omega), rawL_app x y 4 (by omega), rawE_app x y e 4 (by omega)] at this
theorem app_raw (h : InIs w g (x ++ y) e) (n : Int) (hx : (x.length : Int) = n) : Calls Try.prog 18 #[.pointer (some ⟨g, 0, none⟩), .int .i64 n] w fun r w' => r = .returned (str x) ∧ InStep g w y e w' := by
  have := in_raw g _ e n w h
  rwa [rawT_app x y n hx, rawL_app x y n hx, rawE_app x y e n hx] at this
end
end Go.Proofs.Ytiehcdcimllooaa
