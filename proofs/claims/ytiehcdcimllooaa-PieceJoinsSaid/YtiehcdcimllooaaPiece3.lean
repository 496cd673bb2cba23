/- piece.Kinds, the reference of layer 7, and comparing lists. -/
import Derived.Test.YtiehcdcimllooaaPiece2
import Derived.Laws.StructEq
namespace Go.Proofs.Ytiehcdcimllooaa
open Go.RowKit
set_option linter.unusedVariables false
set_option linter.unusedSimpArgs false

set_option maxRecDepth 100000 in
theorem ref_may (p : Pc) (w : World) (hl : p.2.2.length ≤ maxLen) : Calls Try.prog 51 #[tri p] w fun e w' => e = .returned (.bool (mayP p)) ∧ Chg Nothing w w' := by
  obtain ⟨c, k, b⟩ := p
  simp only at hl
  unfold maxLen at hl
  have hf : ¬ mayP (c, k, b) = true → Ending.returned (.bool false) = .returned (.bool (mayP (c, k, b))) := fun h => by rw [Bool.not_eq_true] at h; rw [h]
  have ht : mayP (c, k, b) = true → Ending.returned (.bool true) = .returned (.bool (mayP (c, k, b))) := fun h => by rw [h]
  have HF := Lib.hid hf
  have HT := Lib.hid ht
  clear hf ht
  by_cases h0 : 0 ≤ c
  · by_cases h1 : c ≤ 31
    · by_cases h2 : 192 ≤ k
      · by_cases h3 : k ≤ 223
        · by_cases hm : b.length % 4 = 0
          · have hm' : ((b.length : Int) % 4 == 0) = true := by simp; omega
            have HM := Lib.hid hm
            clear hm
            by_cases hb : (b.length : Int) ≤ 262140
            · go_enter Try.func51, Try.ntmps51
              go_wp2
              go_ret
              exact ⟨HT.out ((mayP_iff _).2 ⟨h0, h1, h2, h3, HM.out, by simp only; omega⟩), (Chg.refl _ _).alloc _⟩
            · have hb' : 262140 < (b.length : Int) := by omega
              clear hb
              go_enter Try.func51, Try.ntmps51
              go_wp2
              go_ret
              exact ⟨(ret_bool (by simp; try omega)).trans (HF.out (by rw [mayP_iff]; simp only; omega)), (Chg.refl _ _).alloc _⟩
          · have hm' : ((b.length : Int) % 4 == 0) = false := by simp; omega
            have HM := Lib.hid hm
            clear hm
            go_enter Try.func51, Try.ntmps51
            go_wp2
            go_ret
            exact ⟨HF.out (by rw [mayP_iff]; simp only; have := HM.out; omega), (Chg.refl _ _).alloc _⟩
        · have h3' : 223 < k := by omega
          clear h3
          go_enter Try.func51, Try.ntmps51
          go_wp2
          go_ret
          exact ⟨(ret_bool (by simp; try omega)).trans (HF.out (by rw [mayP_iff]; simp only; omega)), (Chg.refl _ _).alloc _⟩
      · have h2' : k < 192 := by omega
        clear h2
        go_enter Try.func51, Try.ntmps51
        go_wp2
        go_ret
        exact ⟨HF.out (by rw [mayP_iff]; simp only; omega), (Chg.refl _ _).alloc _⟩
    · have h1' : 31 < c := by omega
      clear h1
      go_enter Try.func51, Try.ntmps51
      go_wp2
      go_ret
      exact ⟨HF.out (by rw [mayP_iff]; simp only; omega), (Chg.refl _ _).alloc _⟩
  · have h0' : c < 0 := by omega
    clear h0
    go_enter Try.func51, Try.ntmps51
    go_wp2
    go_ret
    exact ⟨HF.out (by rw [mayP_iff]; simp only; omega), (Chg.refl _ _).alloc _⟩

theorem ArgRows.chg {w w' : World} {A : Option Addr} {size n : Nat} {rows : List (List Value)} {S : Nat → Prop} (h : ArgRows w A size n rows) (hc : Chg S w w') (hn : ∀ a, A = some a → ¬ S a.block) : ArgRows w' A size n rows :=
  ⟨h.1, h.2.1, fun i hi => by
    obtain ⟨b, o, hA, hb, hcell⟩ := h.2.2 i hi
    exact ⟨b, o, hA, Nat.lt_of_lt_of_le hb hc.size, fun j u hu => (hc.cell (p := ⟨b, o + (i * size + j), none⟩) hb (hn ⟨b, o, none⟩ hA)).trans (hcell j u hu)⟩⟩
/-- A slice that owns its structs reads as any slice of them does. -/
theorem rows_own {α : Type} (f : α → List Value) (size : Nat) (hf : ∀ a, (f a).length = size) {w : World} {t : TypeId} {A : Option Addr} {c n : Nat} {xs : List α} (h : w.ownsRow 0 t size (.slice A n c) n (xs.flatMap f)) (hn : xs.length = n) (hm : n ≤ maxLen) :
    ArgRows w A size n (xs.map f) := by
  refine ⟨by simpa using hn, hm, fun i hi => ?_⟩
  have hi' : i < xs.length := by simpa using hi
  rcases h.2 with ⟨hv, h0⟩ | ⟨g, cap, cur, hv, _, hg, _⟩
  · omega
  · injection hv with h1 h2 h3
    subst h1
    have hlt : g < w.heap.size := by
      rcases Nat.lt_or_ge g w.heap.size with hh | hh
      · exact hh
      · rw [Array.getElem?_eq_none hh] at hg; cases hg
    refine ⟨g, 0, rfl, hlt, fun j u hu => ?_⟩
    have hj : (xs.flatMap f)[i * size + j]? = some u := by
      have hju : j < size := by
        have := (List.getElem?_eq_some_iff.1 hu).1
        simpa [hf] using this
      have key : ∀ (ys : List α) (i : Nat) (h : i < ys.length), (ys.flatMap f)[i * size + j]? = (f ys[i])[j]? := by
        intro ys
        induction ys with
        | nil => intro i h; cases h
        | cons y ys ih =>
          intro i h
          rw [List.flatMap_cons]
          cases i with
          | zero => rw [List.getElem?_append_left (by rw [hf]; omega)]; simp
          | succ i =>
            rw [List.getElem?_append_right (by rw [hf, Nat.add_mul]; omega), hf, show (i + 1) * size + j - size = i * size + j from by rw [Nat.add_mul]; omega]
            simpa using ih i (by simpa using h)
      rw [key xs i hi']
      simpa using hu
    have := h.cells (g := g) rfl (i * size + j) u hj
    rw [add_lit] at this
    exact this
theorem tri_len (p : Pc) : (triCells p).length = 3 := rfl

/-- A row of whole numbers as a slice. -/
def int1 (x : Int) : List Value := [.int .i64 x]
theorem int1_at {w : World} {A : Option Addr} {n k : Nat} {xs : List Int} (h : ArgRows w A 1 n (xs.map int1)) (hk : k < xs.length) :
    ∃ b o, A = some ⟨b, o, none⟩ ∧ b < w.heap.size ∧ w.cell? ⟨b, o + k, none⟩ = some (.int .i64 xs[k]) := by
  obtain ⟨b, o, hA, hb, hc⟩ := h.2.2 k (by simpa using hk)
  exact ⟨b, o, hA, hb, by simpa [int1] using hc 0 (.int .i64 xs[k]) (by simp [int1])⟩

theorem neq_piece (p q : Pc) (W : World) : (binOp .neq 83 (tri p) (tri q)).run Try.prog W = .ok (.bool (!decide (p = q))) W := by
  obtain ⟨a, b, l⟩ := p
  obtain ⟨a', b', l'⟩ := q
  by_cases h1 : a = a'
  · by_cases h2 : b = b'
    · by_cases h3 : l = l'
      · subst h1 h2 h3
        simp [go_sem]
      · have e : (l == l') = false := by simpa using h3
        subst h1 h2
        simp [go_sem, h3, e]
    · have e : (b == b') = false := by simpa using h2
      subst h1
      simp [go_sem, h2, e]
  · have e : (a == a') = false := by simpa using h1
    simp [go_sem, h1, e]

set_option maxRecDepth 100000 in
set_option maxHeartbeats 1000000 in
theorem law_is (A B : Option Addr) (n m c d : Nat) (xs ys : List Pc) (w : World) (hx : ArgRows w A 3 n (xs.map triCells)) (hy : ArgRows w B 3 m (ys.map triCells)) (hxl : xs.length = n) (hyl : ys.length = m) :
    Calls Try.prog 49 #[.slice A n c, .slice B m d] w fun e w' => e = .returned (.bool (decide (xs = ys))) ∧ Chg Nothing w w' := by
  have hnm : n ≤ maxLen := hx.2.1
  have hmm : m ≤ maxLen := hy.2.1
  unfold maxLen at hnm hmm
  by_cases hl : n = m
  · have hb : ((n : Int) != m) = false := by simp [hl]
    have HL := Lib.hid hl
    clear hl
    go_enter Try.func49, Try.ntmps49
    go_wp2_with fail
    go_loopw [13] (fun i wr => ∃ (k : Nat), k ≤ m ∧ i = .int .i64 k ∧ xs.take k = ys.take k ∧ Chg Nothing w wr) (fun i _ => m - (intOf i).toNat)
    case atStart => exact ⟨0, Nat.zero_le _, rfl, rfl, Chg.refl _ _⟩
    case round =>
      obtain ⟨k, hk, rfl, htk, hch⟩ := hrel
      have HTK := Lib.hid htk
      clear htk
      by_cases hlt : k < m
      · have i1 : (k : Int) < m := by omega
        have i2 : (k : Int) < n := by have := HL.out; omega
        have hkx : k < xs.length := by have := HL.out; omega
        have hky : k < ys.length := by omega
        obtain ⟨b1, o1, rfl, hb1, c0, c1, c2⟩ := tri_at (hx.keep hch) hkx
        obtain ⟨b2, o2, rfl, hb2, d0, d1, d2⟩ := tri_at (hy.keep hch) hky
        obtain ⟨⟨p0, p1, p2⟩, hp⟩ : ∃ a, a = xs[k] := ⟨_, rfl⟩
        obtain ⟨⟨q0, q1, q2⟩, hq⟩ : ∃ a, a = ys[k] := ⟨_, rfl⟩
        rw [← hp] at c0 c1 c2
        rw [← hq] at d0 d1 d2
        simp only at c0 c1 c2 d0 d1 d2
        have HP := Lib.hid hp
        have HQ := Lib.hid hq
        clear hp hq
        have i0 : (0 : Int) ≤ k := by omega
        by_cases he : (p0, p1, p2) = (q0, q1, q2)
        · simp only [Prod.mk.injEq] at he
          obtain ⟨rfl, rfl, rfl⟩ := he
          have hneq : ∀ W : World, (binOp .neq 83 (.agg #[.int .i64 p0, .int .i64 p1, str p2]) (.agg #[.int .i64 p0, .int .i64 p1, str p2])).run Try.prog W = .ok (.bool false) W := fun W => by
            have := neq_piece (p0, p1, p2) (p0, p1, p2) W
            simpa using this
          have HT1 : Hid (xs.take (k + 1) = ys.take (k + 1)) := by
            show _ = _
            rw [List.take_succ_eq_append_getElem hkx, List.take_succ_eq_append_getElem hky, HTK.out, ← HP.out, ← HQ.out]
          go_wp2_with fail
          go_region_held3 (fun w' => (w'.cell? ⟨b1, o1 + k * 3, none⟩ = some (.int .i64 p0) ∧ w'.cell? ⟨b1, o1 + k * 3 + 1, none⟩ = some (.int .i64 p1) ∧ w'.cell? ⟨b1, o1 + k * 3 + 2, none⟩ = some (str p2)) ∧ w'.cell? ⟨b2, o2 + k * 3, none⟩ = some (.int .i64 p0) ∧ w'.cell? ⟨b2, o2 + k * 3 + 1, none⟩ = some (.int .i64 p1) ∧ w'.cell? ⟨b2, o2 + k * 3 + 2, none⟩ = some (str p2))
            (go_keep) (fail)
          go_wp2
          go_roundw
          case rel => exact ⟨k + 1, by omega, by go_num, HT1.out, hch.drew⟩
          case measure => simp [intOf]; omega
        · have hneq : ∀ W : World, (binOp .neq 83 (.agg #[.int .i64 p0, .int .i64 p1, str p2]) (.agg #[.int .i64 q0, .int .i64 q1, str q2])).run Try.prog W = .ok (.bool true) W := fun W => by
            have := neq_piece (p0, p1, p2) (q0, q1, q2) W
            rwa [show decide ((p0, p1, p2) = (q0, q1, q2)) = false from decide_eq_false he] at this
          have HNE : Hid (¬ xs = ys) := by
            intro h
            apply he
            rw [HP.out, HQ.out]
            exact List.getElem_of_eq h hkx
          clear he
          go_wp2_with fail
          go_region_held3 (fun w' => (w'.cell? ⟨b1, o1 + k * 3, none⟩ = some (.int .i64 p0) ∧ w'.cell? ⟨b1, o1 + k * 3 + 1, none⟩ = some (.int .i64 p1) ∧ w'.cell? ⟨b1, o1 + k * 3 + 2, none⟩ = some (str p2)) ∧ w'.cell? ⟨b2, o2 + k * 3, none⟩ = some (.int .i64 q0) ∧ w'.cell? ⟨b2, o2 + k * 3 + 1, none⟩ = some (.int .i64 q1) ∧ w'.cell? ⟨b2, o2 + k * 3 + 2, none⟩ = some (str q2))
            (go_keep) (fail)
          go_wp2
          go_ret
          exact ⟨ret_bool (decide_eq_false HNE.out).symm, hch.drew⟩
      · have i1 : (m : Int) ≤ k := by omega
        have HEQ : Hid (xs = ys) := by
          have h := HTK.out
          have := HL.out
          rwa [List.take_of_length_le (by omega), List.take_of_length_le (by omega)] at h
        go_wp2
        go_ret
        exact ⟨ret_bool (decide_eq_true HEQ.out).symm, hch⟩
  · have hb : ((n : Int) != m) = true := by simpa using fun h => hl (by omega)
    have HNE : Hid (¬ xs = ys) := fun h => hl (by rw [← hxl, ← hyl, h])
    clear hl
    go_enter Try.func49, Try.ntmps49
    go_wp2
    go_ret
    exact ⟨ret_bool (decide_eq_false HNE.out).symm, Chg.refl _ _⟩

set_option maxRecDepth 100000 in
set_option maxHeartbeats 1000000 in
theorem law_same (A B : Option Addr) (n m c d : Nat) (xs ys : List Int) (w : World) (hx : ArgRows w A 1 n (xs.map int1)) (hy : ArgRows w B 1 m (ys.map int1)) (hxl : xs.length = n) (hyl : ys.length = m) :
    Calls Try.prog 54 #[.slice A n c, .slice B m d] w fun e w' => e = .returned (.bool (decide (xs = ys))) ∧ Chg Nothing w w' := by
  have hnm : n ≤ maxLen := hx.2.1
  have hmm : m ≤ maxLen := hy.2.1
  unfold maxLen at hnm hmm
  by_cases hl : n = m
  · have hb : ((n : Int) != m) = false := by simp [hl]
    have HL := Lib.hid hl
    clear hl
    go_enter Try.func54, Try.ntmps54
    go_wp2_with fail
    go_loopw [13] (fun i wr => ∃ (k : Nat), k ≤ n ∧ i = .int .i64 k ∧ xs.take k = ys.take k ∧ Chg Nothing w wr) (fun i _ => n - (intOf i).toNat)
    case atStart => exact ⟨0, Nat.zero_le _, rfl, rfl, Chg.refl _ _⟩
    case round =>
      obtain ⟨k, hk, rfl, htk, hch⟩ := hrel
      have HTK := Lib.hid htk
      clear htk
      by_cases hlt : k < n
      · have i1 : (k : Int) < n := by omega
        have i2 : (k : Int) < m := by have := HL.out; omega
        have hkx : k < xs.length := by omega
        have hky : k < ys.length := by have := HL.out; omega
        obtain ⟨b1, o1, rfl, hb1, c0⟩ := int1_at (hx.keep hch) hkx
        obtain ⟨b2, o2, rfl, hb2, d0⟩ := int1_at (hy.keep hch) hky
        obtain ⟨p0, hp⟩ : ∃ a, a = xs[k] := ⟨_, rfl⟩
        obtain ⟨q0, hq⟩ : ∃ a, a = ys[k] := ⟨_, rfl⟩
        rw [← hp] at c0
        rw [← hq] at d0
        have HP := Lib.hid hp
        have HQ := Lib.hid hq
        clear hp hq
        have i0 : (0 : Int) ≤ k := by omega
        by_cases he : p0 = q0
        · subst he
          have HT1 : Hid (xs.take (k + 1) = ys.take (k + 1)) := by
            show _ = _
            rw [List.take_succ_eq_append_getElem hkx, List.take_succ_eq_append_getElem hky, HTK.out, ← HP.out, ← HQ.out]
          go_wp2_with fail
          go_region_held3 (fun w' => w'.cell? ⟨b1, o1 + k, none⟩ = some (.int .i64 p0) ∧ w'.cell? ⟨b2, o2 + k, none⟩ = some (.int .i64 p0)) (go_keep) (fail)
          go_wp2
          go_roundw
          case rel => exact ⟨k + 1, by omega, by go_num, HT1.out, hch.drew⟩
          case measure => simp [intOf]; omega
        · have hneb : (p0 != q0) = true := by simpa using he
          have HNE : Hid (¬ xs = ys) := by
            intro h
            apply he
            rw [HP.out, HQ.out]
            exact List.getElem_of_eq h hkx
          clear he
          go_wp2_with fail
          go_region_held3 (fun w' => w'.cell? ⟨b1, o1 + k, none⟩ = some (.int .i64 p0) ∧ w'.cell? ⟨b2, o2 + k, none⟩ = some (.int .i64 q0)) (go_keep) (fail)
          go_wp2
          go_ret
          exact ⟨ret_bool (decide_eq_false HNE.out).symm, hch.drew⟩
      · have i1 : (n : Int) ≤ k := by omega
        have HEQ : Hid (xs = ys) := by
          have h := HTK.out
          have := HL.out
          rwa [List.take_of_length_le (by omega), List.take_of_length_le (by omega)] at h
        go_wp2
        go_ret
        exact ⟨ret_bool (decide_eq_true HEQ.out).symm, hch⟩
  · have hb : ((n : Int) != m) = true := by simpa using fun h => hl (by omega)
    have HNE : Hid (¬ xs = ys) := fun h => hl (by rw [← hxl, ← hyl, h])
    clear hl
    go_enter Try.func54, Try.ntmps54
    go_wp2
    go_ret
    exact ⟨ret_bool (decide_eq_false HNE.out).symm, Chg.refl _ _⟩

theorem info_int : (Try.prog.info? 3).map (fun i => (i.zero, i.size, i.bytes)) = some (some (.int .i64 0), 1, 8) := by kernel_rfl
/-- A slice of the call's own that holds these numbers. -/
def OwnInt (w0 : World) (v : Value) (xs : List Int) (w : World) : Prop := w.ownsRow 0 3 1 v xs.length (xs.flatMap int1) ∧ ∀ k, v.ownBlock = some k → w0.heap.size ≤ k
theorem OwnInt.nil (w0 w : World) : OwnInt w0 (.slice none 0 0) [] w := ⟨World.ownsRow_nil _ _ _ _, fun k hk => by cases hk⟩
theorem OwnInt.chg {w0 w w' : World} {v : Value} {xs : List Int} {S : Nat → Prop} (h : OwnInt w0 v xs w) (hc : Chg S w w') (hn : ∀ k, v.ownBlock = some k → ¬ S k) : OwnInt w0 v xs w' := ⟨own_chg h.1 hc hn, h.2⟩
theorem OwnInt.push {w0 w wx w2 : World} {v : Value} {A : Option Addr} {n c : Nat} {xs : List Int} {x : Int} (h : OwnInt w0 v xs w) (hw : w0.heap.size ≤ wx.heap.size)
    (hown : w2.ownsRow 0 3 1 (.slice A n c) n (xs.flatMap int1 ++ int1 x)) (hn : n = xs.length + 1) (hat : (Value.slice A n c).ownBlock = v.ownBlock ∨ (Value.slice A n c).ownBlock = some wx.heap.size) :
    OwnInt w0 (.slice A n c) (xs ++ [x]) w2 := by
  subst hn
  refine ⟨by simpa using hown, fun k hk => ?_⟩
  rcases hat with h1 | h1
  · exact h.2 k (h1 ▸ hk)
  · rw [h1] at hk; injection hk with hk; omega

set_option maxRecDepth 100000 in
set_option maxHeartbeats 1000000 in
theorem piece_kinds (A : Option Addr) (n c : Nat) (xs : List Pc) (w : World) (hx : ArgRows w A 3 n (xs.map triCells)) (hxl : xs.length = n) (hn : n ≤ 65536) :
    Calls Try.prog 55 #[.slice A n c] w fun e w' => ∃ v, e = .returned v ∧ OwnInt w v (xs.map fun p => p.2.1) w' ∧ Chg Nothing w w' := by
  obtain ⟨i0, hi, hz0, hz1, hz2⟩ := info_parts info_int
  go_enter Try.func55, Try.ntmps55
  go_wp2_with fail
  go_loopw [3, 8] (fun v i wr => ∃ (k : Nat), k ≤ n ∧ i = .int .i64 k ∧ OwnInt w v ((xs.take k).map fun p => p.2.1) wr ∧ Chg Nothing w wr) (fun _ i _ => n - (intOf i).toNat)
  case atStart => exact ⟨0, Nat.zero_le _, rfl, OwnInt.nil _ _, Chg.refl _ _⟩
  case round =>
    obtain ⟨k, hk, rfl, hown, hch⟩ := hrel
    by_cases hlt : k < n
    · have i1 : (k : Int) < n := by omega
      have hkx : k < xs.length := by omega
      obtain ⟨b1, o1, rfl, hb1, c0, c1, c2⟩ := tri_at (hx.keep hch) hkx
      obtain ⟨ks, hks⟩ : ∃ ks, ks = (xs.take k).map fun p => p.2.1 := ⟨_, rfl⟩
      have hkl : ks.length = k := by rw [hks, List.length_map, List.length_take]; omega
      rw [← hks] at hown
      obtain ⟨⟨p0, p1, p2⟩, hp⟩ : ∃ a, a = xs[k] := ⟨_, rfl⟩
      rw [← hp] at c0 c1 c2
      simp only at c0 c1 c2
      have HK1 : Hid ((xs.take (k + 1)).map (fun p => p.2.1) = ks ++ [p1]) := by
        show _ = _
        rw [List.take_succ_eq_append_getElem hkx, List.map_append, ← hks, ← hp]; rfl
      have HKL := Lib.hid hkl
      clear hks hp hkl
      have hs := hch.size
      go_wp2_with (at_builtin; refine wpList_append_src _ (by rfl) (.tmp 12) (.tmp 15) _ _ (by rfl) 3 i0 _ 1 8 Try.underlying87 hi hz0 hz1 hz2 rfl (by omega) u3 _ _ (by rfl) ((hown.1.alloc _).alloc _) _ 1 (int1 p1) (by rfl) (Src.ofSlice _ Try.underlying87 _ 1 1 _ (by rfl) (World.news_of_block (cs := (int1 p1).toArray) (t := 3) (fr := (0, 0)) (heap_alloc2_new wr _ _)) (by intro u hu; simp [int1] at hu; subst hu; rfl)) (by unfold maxLen; have := HKL.out; omega) (by have := HKL.out; omega) ?_; intro A2 c2 w2 hown2 hgrow hat _)
      have hcg : Chg (fun q => u3.ownBlock = some q) wr w2 := (((Chg.refl _ _).alloc _).alloc _).grown hgrow (fun q hq _ => hq)
      have hown3 := OwnInt.push (w := wr) (wx := (wr.alloc (.cells #[.int .i64 p0, .int .i64 p1, str p2] 85)).alloc (.cells (int1 p1).toArray 3)) (h := hown) (by simp; omega) hown2 rfl (by simpa using hat)
      have hch2 : Chg Nothing w w2 := hch.step hcg (fun i hi e => by have := hown.2 i e; omega)
      go_roundw
      case rel => exact ⟨k + 1, by omega, by go_num, by rw [HK1.out]; exact hown3, hch2⟩
      case measure => simp [intOf]; omega
    · have i1 : (n : Int) ≤ k := by omega
      have HE : Hid (xs.take k = xs) := List.take_of_length_le (by omega)
      go_wp2
      go_ret
      exact ⟨u3, rfl, by rw [HE.out] at hown; exact hown, hch⟩
end Go.Proofs.Ytiehcdcimllooaa
