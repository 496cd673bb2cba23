/- The walk of PenReads. -/
import Derived.Test.YtiehcdcimllooaaPenLaw
import Derived.Test.YtiehcdcimllooaaOpen
namespace Go.Proofs.Ytiehcdcimllooaa
open Go.RowKit
set_option linter.unusedVariables false
set_option linter.unusedSimpArgs false

/-- A call of a law's list, xs cells. -/
def actCells (a : Int × Int × List UInt8) : List Value := [.int .i64 a.1, .int .i64 a.2.1, str a.2.2]
def ActOk (a : Int × Int × List UInt8) : Prop := (-9223372036854775807 ≤ a.1 + 1 ∧ a.1 ≤ 9223372036854775807) ∧ (-9223372036854775807 ≤ a.2.1 + 1 ∧ a.2.1 ≤ 9223372036854775807) ∧ a.2.2.length ≤ maxLen

set_option maxRecDepth 100000 in
theorem open_acts {H : Type} {enc : TypeId × Value → H} {w : World} {base : Nat} {spare : Nat → Bool} {held : Bool} {v : Value} {d : DataW H} {p : List MemPlace} {r : Reach} {b0 : Nat}
    (hv : Value.okWide Try.prog w r b0 31 v) (h : DataW.Trod enc Try.prog w base spare held 31 v d p) :
    ∃ (A : Option Addr) (n c : Nat) (xs : List (Int × Int × List UInt8)), v = .slice A n c ∧ n ≤ c ∧ ArgRows w A 3 n (xs.map actCells) ∧ xs.length = n ∧ ∀ a ∈ xs, ActOk a := by
  obtain ⟨A, n, c, rows, rfl, hnc, hr, hok⟩ := open_rows [0, 0, 3] Try.underlying31 Try.underlying35 (by kernel_rfl) (by kernel_rfl) (by decide)
    (by
      intro j f hj
      match j, hj with
      | 0, hj => obtain rfl := Option.some.inj hj; exact Try.underlying3
      | 1, hj => obtain rfl := Option.some.inj hj; exact Try.underlying3
      | 2, hj => obtain rfl := Option.some.inj hj; exact Try.underlying9
      | j + 3, hj => cases hj) hv h
  obtain ⟨xs, rfl⟩ := rows_map actCells rows (fun row hrow => by
    obtain ⟨hl, hu⟩ := hok row hrow
    match row, hl with
    | [a, b, c], _ =>
      obtain ⟨n, rfl, _⟩ := hu 0 a rfl
      obtain ⟨m, rfl, _⟩ := hu 1 b rfl
      obtain ⟨l, rfl, _⟩ := hu 2 c rfl
      exact ⟨(n, m, l), rfl⟩)
  refine ⟨A, n, c, xs, rfl, hnc, hr, by simpa using hr.1, fun a ha => ?_⟩
  obtain ⟨_, hu⟩ := hok _ (List.mem_map_of_mem ha)
  obtain ⟨n, e0, h0⟩ := hu 0 _ rfl
  obtain ⟨m, e1, h1⟩ := hu 1 _ rfl
  obtain ⟨l, e2, h2⟩ := hu 2 _ rfl
  injection e0 with _ e0
  injection e1 with _ e1
  injection e2 with e2
  have e2' : a.2.2 = l := by simpa using e2
  exact ⟨e0 ▸ h0, e1 ▸ h1, e2' ▸ h2⟩
theorem acts_at {w : World} {A : Option Addr} {n k : Nat} {xs : List (Int × Int × List UInt8)} (h : ArgRows w A 3 n (xs.map actCells)) (hk : k < xs.length) :
    ∃ b o, A = some ⟨b, o, none⟩ ∧ b < w.heap.size ∧ w.cell? ⟨b, o + k * 3, none⟩ = some (.int .i64 xs[k].1) ∧ w.cell? ⟨b, o + k * 3 + 1, none⟩ = some (.int .i64 xs[k].2.1) ∧ w.cell? ⟨b, o + k * 3 + 2, none⟩ = some (str xs[k].2.2) := by
  obtain ⟨b, o, hA, hb, hc⟩ := h.2.2 k (by simpa using hk)
  refine ⟨b, o, hA, hb, ?_, ?_, ?_⟩
  · simpa [actCells] using hc 0 (.int .i64 xs[k].1) (by simp [actCells])
  · simpa [actCells, Nat.add_assoc] using hc 1 (.int .i64 xs[k].2.1) (by simp [actCells])
  · simpa [actCells, Nat.add_assoc] using hc 2 (str xs[k].2.2) (by simp [actCells])

theorem rawL_le (l : List UInt8) (n : Int) (h : l.length ≤ 60) : (rawL l n).length ≤ 60 := by
  unfold rawL; split
  · rw [List.length_drop]; omega
  · simp
theorem reads_step {w wr w2 w3 : World} {l l' : List UInt8} {e e' : Int} {w1 : World} (hch : Chg Nothing w wr) (hs : w.heap.size ≤ w1.heap.size) (h2 : InStep w1.heap.size wr l' e' w2) (h3 : Chg Nothing w2 w3) (hin3 : InIs w3 w1.heap.size l' e')
    (hx3 : Blk w3 (w1.heap.size + 1) 33 #[str l, .int .i64 e]) (hl : l'.length ≤ 60) :
    InIs ((w3.setCell ⟨w1.heap.size + 1, 0, none⟩ (str l')).setCell ⟨w1.heap.size + 1, 1, none⟩ (.int .i64 e')) w1.heap.size l' e' ∧ l'.length ≤ 60 ∧
    Blk ((w3.setCell ⟨w1.heap.size + 1, 0, none⟩ (str l')).setCell ⟨w1.heap.size + 1, 1, none⟩ (.int .i64 e')) (w1.heap.size + 1) 33 #[str l', .int .i64 e'] ∧
    Chg Nothing w ((w3.setCell ⟨w1.heap.size + 1, 0, none⟩ (str l')).setCell ⟨w1.heap.size + 1, 1, none⟩ (.int .i64 e')) := by
  have hc : Chg (fun k => k = w1.heap.size + 1) w3 ((w3.setCell ⟨w1.heap.size + 1, 0, none⟩ (str l')).setCell ⟨w1.heap.size + 1, 1, none⟩ (.int .i64 e')) :=
    ((Chg.refl (fun k => k = w1.heap.size + 1) _).setCell _ _ (fun _ => rfl)).setCell _ _ (fun _ => rfl)
  refine ⟨hin3.chg hc (by omega), hl, (hx3.set_ 0 _).set_ 1 _, ((hch.step h2.chg ?_).trans h3).step hc ?_⟩
  · intro i hi e; have : i = w1.heap.size := e; omega
  · intro i hi e; have : i = w1.heap.size + 1 := e; omega

set_option maxRecDepth 100000 in
set_option maxHeartbeats 4000000 in
theorem penReads_walk (l0 : List UInt8) (A : Option Addr) (n c : Nat) (xs : List (Int × Int × List UInt8)) (w : World) (hl : l0.length ≤ maxLen) (hrows : ArgRows w A 3 n (xs.map actCells)) (hlen : xs.length = n) (hok : ∀ a ∈ xs, ActOk a) :
    Calls Try.prog 4 #[str l0, .slice A n c] w fun e w' => e = .returned (.bool true) ∧ Chg Nothing w w' := by
  have hnm : n ≤ maxLen := hrows.2.1
  unfold maxLen at hnm
  have HOK := Lib.hid hok
  have HLEN := Lib.hid hlen
  clear hok
  go_enter Try.func4, Try.ntmps4
  go_wp2_with fail
  refine (awake3 _).mono ?_
  rintro e w1 ⟨rfl, h1⟩
  go_wp2_with fail
  refine (cut_any l0 60 _ hl (by decide)).mono ?_
  rintro e w' ⟨rfl, rfl⟩
  obtain ⟨s, hs, hsl⟩ : ∃ s, s = l0.take (60 : Int).toNat ∧ s.length ≤ 60 := ⟨_, rfl, by rw [List.length_take]; exact Nat.min_le_left _ _⟩
  rw [← hs]
  clear hs
  go_wp2_with fail
  refine (pen_of s _).mono ?_
  rintro e w' ⟨rfl, rfl⟩
  go_wp2_with fail
  go_loopw [7] (fun i wr => ∃ (k : Nat) (l : List UInt8) (e : Int), k ≤ n ∧ i = .int .i64 k ∧ InIs wr w1.heap.size l e ∧ l.length ≤ 60 ∧ Blk wr (w1.heap.size + 1) 33 #[str l, .int .i64 e] ∧ Chg Nothing w wr) (fun i _ => n - (intOf i).toNat)
  case atStart => exact ⟨0, s, 0, Nat.zero_le _, rfl, (pen_new s w1 (by omega)).chg ((Chg.refl Nothing _).alloc _) id, hsl, Blk.new' _ _ _ (by simp), (h1.alloc _).alloc _⟩
  case round =>
    obtain ⟨k, l, e, hk, rfl, hin, hl60, hx, hch⟩ := hrel
    by_cases hlt : k < n ∧ k < 20
    · obtain ⟨hlt, hlt20⟩ := hlt
      have i1 : (k : Int) < n := by omega
      have i2 : (k : Int) < 20 := by omega
      have hka : k < xs.length := by omega
      obtain ⟨b, o, rfl, hb, c0, c1, c2⟩ := acts_at (hrows.keep hch) hka
      obtain ⟨⟨kd, N, t⟩, ha⟩ : ∃ a, a = xs[k] := ⟨_, rfl⟩
      rw [← ha] at c0 c1 c2
      have hakt := HOK.out _ (ha ▸ List.getElem_mem hka)
      simp only at c0 c1 c2
      clear ha
      obtain ⟨⟨kd0, kd1⟩, ⟨N0, N1⟩, ht⟩ := hakt
      simp only at kd0 kd1 N0 N1 ht
      go_upto_block 2 with (fail)
      have hin1 := hin.chg ((Chg.refl Nothing _).alloc (.cells #[.int .i64 kd, .int .i64 N, str t] 35)) id
      have hx1 := hx.chg ((Chg.refl Nothing _).alloc (.cells #[.int .i64 kd, .int .i64 N, str t] 35)) id
      have hch1 := hch.alloc (.cells #[.int .i64 kd, .int .i64 N, str t] 35)
      have hgsz := h1.size
      have hgi := hin.blk.lt
      have hgx := hx.lt
      go_cut [9, 10, 11, 12] (fun s9 s10 s11 s12 wx => ∃ (x : Int) (t' l' : List UInt8) (e' : Int), s9 = .int .i64 x ∧ s10 = .int .i64 x ∧ s11 = str t' ∧ s12 = str t' ∧ InIs wx w1.heap.size l' e' ∧ l'.length ≤ 60 ∧ Blk wx (w1.heap.size + 1) 33 #[str l', .int .i64 e'] ∧ Chg Nothing w wx)
      case first =>
        by_cases hk0 : kd = 0
        · subst hk0
          go_wp2_with fail
          refine (in_u8 _ _ _ _ hin1).mono ?_
          rintro r w2 ⟨rfl, h2⟩
          have hx2 := hx1.chg h2.chg (by omega)
          have x0 : w2.cell? ⟨w1.heap.size + 1, 0, none⟩ = some (str l) := hx2.cell 0
          have x1 : w2.cell? ⟨w1.heap.size + 1, 1, none⟩ = some (.int .i64 e) := hx2.cell 1
          go_wp2_with fail
          refine (ref_num l e 1 _ hin.ok (by omega) (by decide)).mono ?_
          rintro r w3 ⟨rfl, h3⟩
          have hx3 := hx2.chg h3 id
          have hin3 := h2.is.chg h3 id
          have hb3 := hx3.lt
          have x0 : w3.cell? ⟨w1.heap.size + 1, 0, none⟩ = some (str l) := hx3.cell 0
          have x1 : w3.cell? ⟨w1.heap.size + 1, 1, none⟩ = some (.int .i64 e) := hx3.cell 1
          have f0 := hx3.frozen 0
          have f1 := hx3.frozen 1
          have hst := reads_step hch1 hgsz h2 h3 hin3 hx3 (rawL_le l 1 hl60)
          go_wp2_with fail
          go_meet
          case rel => exact ⟨_, _, _, _, rfl, rfl, rfl, rfl, hst⟩
        by_cases hk1 : kd = 1
        · subst hk1
          go_wp2_with fail
          refine (in_u16 _ _ _ _ hin1).mono ?_
          rintro r w2 ⟨rfl, h2⟩
          have hx2 := hx1.chg h2.chg (by omega)
          have x0 : w2.cell? ⟨w1.heap.size + 1, 0, none⟩ = some (str l) := hx2.cell 0
          have x1 : w2.cell? ⟨w1.heap.size + 1, 1, none⟩ = some (.int .i64 e) := hx2.cell 1
          go_wp2_with fail
          refine (ref_num l e 2 _ hin.ok (by omega) (by decide)).mono ?_
          rintro r w3 ⟨rfl, h3⟩
          have hx3 := hx2.chg h3 id
          have hin3 := h2.is.chg h3 id
          have hb3 := hx3.lt
          have x0 : w3.cell? ⟨w1.heap.size + 1, 0, none⟩ = some (str l) := hx3.cell 0
          have x1 : w3.cell? ⟨w1.heap.size + 1, 1, none⟩ = some (.int .i64 e) := hx3.cell 1
          have f0 := hx3.frozen 0
          have f1 := hx3.frozen 1
          have hst := reads_step hch1 hgsz h2 h3 hin3 hx3 (rawL_le l 2 hl60)
          go_wp2_with fail
          go_meet
          case rel => exact ⟨_, _, _, _, rfl, rfl, rfl, rfl, hst⟩
        by_cases hk2 : kd = 2
        · subst hk2
          go_wp2_with fail
          refine (in_u24 _ _ _ _ hin1).mono ?_
          rintro r w2 ⟨rfl, h2⟩
          have hx2 := hx1.chg h2.chg (by omega)
          have x0 : w2.cell? ⟨w1.heap.size + 1, 0, none⟩ = some (str l) := hx2.cell 0
          have x1 : w2.cell? ⟨w1.heap.size + 1, 1, none⟩ = some (.int .i64 e) := hx2.cell 1
          go_wp2_with fail
          refine (ref_num l e 3 _ hin.ok (by omega) (by decide)).mono ?_
          rintro r w3 ⟨rfl, h3⟩
          have hx3 := hx2.chg h3 id
          have hin3 := h2.is.chg h3 id
          have hb3 := hx3.lt
          have x0 : w3.cell? ⟨w1.heap.size + 1, 0, none⟩ = some (str l) := hx3.cell 0
          have x1 : w3.cell? ⟨w1.heap.size + 1, 1, none⟩ = some (.int .i64 e) := hx3.cell 1
          have f0 := hx3.frozen 0
          have f1 := hx3.frozen 1
          have hst := reads_step hch1 hgsz h2 h3 hin3 hx3 (rawL_le l 3 hl60)
          go_wp2_with fail
          go_meet
          case rel => exact ⟨_, _, _, _, rfl, rfl, rfl, rfl, hst⟩
        by_cases hk3 : kd = 3
        · subst hk3
          go_wp2_with fail
          refine (in_u32 _ _ _ _ hin1).mono ?_
          rintro r w2 ⟨rfl, h2⟩
          have hx2 := hx1.chg h2.chg (by omega)
          have x0 : w2.cell? ⟨w1.heap.size + 1, 0, none⟩ = some (str l) := hx2.cell 0
          have x1 : w2.cell? ⟨w1.heap.size + 1, 1, none⟩ = some (.int .i64 e) := hx2.cell 1
          have hlt4 : (getN (rawT l 4) : Int) < 4294967296 := num_lt l 4 4294967296 (by decide)
          go_wp2_with fail
          refine (ref_num l e 4 _ hin.ok (by omega) (by decide)).mono ?_
          rintro r w3 ⟨rfl, h3⟩
          have hx3 := hx2.chg h3 id
          have hin3 := h2.is.chg h3 id
          have hb3 := hx3.lt
          have x0 : w3.cell? ⟨w1.heap.size + 1, 0, none⟩ = some (str l) := hx3.cell 0
          have x1 : w3.cell? ⟨w1.heap.size + 1, 1, none⟩ = some (.int .i64 e) := hx3.cell 1
          have f0 := hx3.frozen 0
          have f1 := hx3.frozen 1
          have hst := reads_step hch1 hgsz h2 h3 hin3 hx3 (rawL_le l 4 hl60)
          go_wp2_with fail
          go_meet
          case rel => exact ⟨_, _, _, _, rfl, rfl, rfl, rfl, hst⟩
        by_cases hk4 : kd = 4
        · subst hk4
          go_wp2_with fail
          refine (in_raw _ _ _ N _ hin1).mono ?_
          rintro r w2 ⟨rfl, h2⟩
          have hx2 := hx1.chg h2.chg (by omega)
          have x0 : w2.cell? ⟨w1.heap.size + 1, 0, none⟩ = some (str l) := hx2.cell 0
          have x1 : w2.cell? ⟨w1.heap.size + 1, 1, none⟩ = some (.int .i64 e) := hx2.cell 1
          have ha2 := (Blk.new wr 35 #[.int .i64 4, .int .i64 N, str t]).chg h2.chg (show ¬ wr.heap.size = w1.heap.size by omega)
          have a1 : w2.cell? ⟨wr.heap.size, 1, none⟩ = some (.int .i64 N) := ha2.cell 1
          go_wp2_with fail
          refine (ref_raw l e N _ hin.ok (by omega)).mono ?_
          rintro r w3 ⟨rfl, h3⟩
          have hx3 := hx2.chg h3 id
          have hin3 := h2.is.chg h3 id
          have hb3 := hx3.lt
          have x0 : w3.cell? ⟨w1.heap.size + 1, 0, none⟩ = some (str l) := hx3.cell 0
          have x1 : w3.cell? ⟨w1.heap.size + 1, 1, none⟩ = some (.int .i64 e) := hx3.cell 1
          have f0 := hx3.frozen 0
          have f1 := hx3.frozen 1
          have hst := reads_step hch1 hgsz h2 h3 hin3 hx3 (rawL_le l N hl60)
          go_wp2_with fail
          go_meet
          case rel => exact ⟨_, _, _, _, rfl, rfl, rfl, rfl, hst⟩
        have hb0 : (kd == 0) = false := by simpa using hk0
        have hb1 : (kd == 1) = false := by simpa using hk1
        have hb2 : (kd == 2) = false := by simpa using hk2
        have hb3 : (kd == 3) = false := by simpa using hk3
        have hb4 : (kd == 4) = false := by simpa using hk4
        obtain ⟨f, hf⟩ : ∃ f, f = N % 8 := ⟨_, rfl⟩
        have Hf := Lib.hid hf
        clear hf hk0 hk1 hk2 hk3 hk4
        go_wp2_with fail
        rw [← Hf.out]
        refine (in_fail _ _ _ f _ hin1).mono ?_
        rintro r w2 ⟨rfl, h2⟩
        have hx2 := hx1.chg h2.chg (by omega)
        have hlt2 := hx2.lt
        have ha2 := (Blk.new wr 35 #[.int .i64 kd, .int .i64 N, str t]).chg h2.chg (show ¬ wr.heap.size = w1.heap.size by omega)
        have a1 : w2.cell? ⟨wr.heap.size, 1, none⟩ = some (.int .i64 N) := ha2.cell 1
        have x0 : w2.cell? ⟨w1.heap.size + 1, 0, none⟩ = some (str l) := hx2.cell 0
        have x1 : w2.cell? ⟨w1.heap.size + 1, 1, none⟩ = some (.int .i64 e) := hx2.cell 1
        have f0 := hx2.frozen 0
        have f1 := hx2.frozen 1
        by_cases hf : e = 0 ∧ f ≠ 0
        · obtain ⟨rfl, hf⟩ := hf
          have hfb : (N % 8 != 0) = true := by rw [← Hf.out]; simpa using hf
          have e1 : failL l 0 f = [] := by simp [failL, hf]
          have e2 : failE 0 f = f := by simp [failE, hf]
          rw [e1, e2] at h2
          have hst := reads_step hch1 hgsz h2 (Chg.refl _ _) h2.is hx2 (by simp)
          rw [Hf.out] at hst
          clear e1 e2 hf
          go_wp2_with fail
          go_meet
          case rel => exact ⟨_, _, _, _, rfl, rfl, rfl, rfl, hst⟩
        · have e1 : failL l e f = l := by unfold failL; rw [if_neg hf]
          have e2 : failE e f = e := by unfold failE; rw [if_neg hf]
          rw [e1, e2] at h2
          have hst : InIs w2 w1.heap.size l e ∧ l.length ≤ 60 ∧ Blk w2 (w1.heap.size + 1) 33 #[str l, .int .i64 e] ∧ Chg Nothing w w2 :=
            ⟨h2.is, hl60, hx2, hch1.step h2.chg (fun i hi h => by have : i = w1.heap.size := h; omega)⟩
          have HH : e ≠ 0 ∨ f = 0 := by
            by_cases h : e = 0
            · right; by_cases h' : f = 0
              · exact h'
              · exact absurd ⟨h, h'⟩ hf
            · exact .inl h
          clear e1 e2 hf
          rcases HH with he | hf
          · have heb : (e == 0) = false := by simpa using he
            go_wp2_with fail
            go_meet
            case rel => exact ⟨_, _, _, _, rfl, rfl, rfl, rfl, hst⟩
          · have hfb : (N % 8 != 0) = false := by rw [← Hf.out, hf]; rfl
            by_cases he : e = 0
            · subst he
              go_wp2_with fail
              go_meet
              case rel => exact ⟨_, _, _, _, rfl, rfl, rfl, rfl, hst⟩
            · have heb : (e == 0) = false := by simpa using he
              go_wp2_with fail
              go_meet
              case rel => exact ⟨_, _, _, _, rfl, rfl, rfl, rfl, hst⟩
      case rest =>
        obtain ⟨x, t', l', e', rfl, rfl, rfl, rfl, hinW, hl', hxW, hcW⟩ := hcut
        have hok := hinW.ok
        have hlen := hinW.len
        have x0 : wc.cell? ⟨w1.heap.size + 1, 0, none⟩ = some (str l') := hxW.cell 0
        have x1 : wc.cell? ⟨w1.heap.size + 1, 1, none⟩ = some (.int .i64 e') := hxW.cell 1
        have hlt3 := hxW.lt
        go_wp2_with fail
        go_region_held3 (fun w' => w'.cell? ⟨w1.heap.size + 1, 0, none⟩ = some (str l') ∧ w'.cell? ⟨w1.heap.size + 1, 1, none⟩ = some (.int .i64 e'))
          (first | go_keep | (exact ⟨(h5.cell (by simpa using hlt3) id).trans x0, (h5.cell (by simpa using hlt3) id).trans x1⟩))
          (first | (go_at_call 19; refine (in_left _ l' e' _ hinW.drew).mono ?_; rintro r w' ⟨rfl, rfl⟩) | (go_at_call 20; refine (in_err _ l' e' _ hinW.drew).mono ?_; rintro r w' ⟨rfl, rfl⟩) | (go_at_call 21; refine (in_end _ l' e' _ hinW.drew).mono ?_; rintro r w' ⟨rfl, rfl⟩) | (go_at_call 29; refine (ref_end l' e' _ hok).mono ?_; rintro r w5 ⟨rfl, h5⟩))
        go_wp2
        go_roundw
        case rel => exact ⟨k + 1, l', e', by omega, by go_num, hinW.drew.chg h5 id, hl', (hxW.drew).chg h5 id, hcW.drew.trans h5⟩
        case measure => simp [intOf]; omega
    · by_cases hkn : k < n
      · have i1 : (k : Int) < n := by omega
        have i2 : (20 : Int) ≤ k := by omega
        go_wp2
        go_ret
        exact ⟨rfl, hch⟩
      · have i1 : (n : Int) ≤ k := by omega
        go_wp2
        go_ret
        exact ⟨rfl, hch⟩
end Go.Proofs.Ytiehcdcimllooaa
