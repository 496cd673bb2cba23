/- piece.one, piece.Split, piece.Kinds. -/
import Derived.Test.YtiehcdcimllooaaPiece
namespace Go.Proofs.Ytiehcdcimllooaa
open Go.RowKit
set_option linter.unusedVariables false
set_option linter.unusedSimpArgs false

def oneL (l : List UInt8) : List UInt8 := if stepE l = 0 then stepR l else []
/-- What the next piece is: as the document has it, or anything beside an error. -/
def oneIs (l : List UInt8) (p : Pc) : Prop := stepE l = 0 → p = stepV l

theorem rawT_nat (l : List UInt8) (k : Nat) (h : k ≤ l.length) : rawT l k = l.take k := by simp [rawT, h]
theorem rawL_nat (l : List UInt8) (k : Nat) (h : k ≤ l.length) : rawL l k = l.drop k := by simp [rawL, h]
theorem rawE_nat (l : List UInt8) (e : Int) (k : Nat) (h : k ≤ l.length) : rawE l e k = e := by simp [rawE, h]

set_option maxRecDepth 100000 in
set_option maxHeartbeats 2000000 in
theorem piece_one (g : Nat) (l : List UInt8) (w : World) (h : InIs w g l 0) (hl : l ≠ []) :
    Calls Try.prog 76 #[.pointer (some ⟨g, 0, none⟩)] w fun r w' => ∃ p, r = .returned (tri p) ∧ oneIs l p ∧ InIs w' g (oneL l) (stepE l) ∧ Chg (· = g) w w' := by
  have hg := h.blk.lt
  have hz := Blk.new w 85 #[.int .i64 0, .int .i64 0, str []]
  have h0 := h.chg ((Chg.refl Nothing _).alloc (.cells #[.int .i64 0, .int .i64 0, str []] 85)) id
  have hc0 : Chg (· = g) w (w.alloc (.cells #[.int .i64 0, .int .i64 0, str []] 85)) := (Chg.refl _ _).alloc _
  by_cases hlen : l.length < 4
  · have i1 : (l.length : Int) < 4 := by omega
    have e1 : stepE l = 2 := by unfold stepE; rw [if_pos hlen]
    have e2 : oneL l = [] := by unfold oneL; rw [if_neg (by rw [e1]; decide)]
    have HE1 := Lib.hid e1
    have HE2 := Lib.hid e2
    clear e1 e2
    go_enter Try.func76, Try.ntmps76
    go_wp2_with fail
    refine (in_left _ _ _ _ h0).mono ?_
    rintro e w' ⟨rfl, rfl⟩
    go_wp2_with fail
    refine (in_fail _ _ _ 2 _ h0).mono ?_
    rintro e w1 ⟨rfl, h1⟩
    have hz1 := hz.chg h1.chg (by omega)
    have f0 := hz1.frozen 0
    have f1 := hz1.frozen 1
    have f2 := hz1.frozen 2
    obtain ⟨z0, z1, z2⟩ := cells3 _ hz1
    have hB := hz1.put3 (.int .i64 0) (.int .i64 0) (str [])
    have hC := chg_put3 w1 w.heap.size (.int .i64 0) (.int .i64 0) (str [])
    go_wp2_with fail
    refine bodyPost_ret (res1 rfl (res_cell _ _ rfl hB (Try.underlying85) rfl rfl)) rfl ⟨(0, 0, []), rfl, ?_, ?_, ?_⟩
    · unfold oneIs; rw [HE1.out]; intro hh; cases hh
    · rw [HE1.out, HE2.out]
      have : failL l 0 2 = [] := rfl
      have hi := h1.is
      exact hi.chg hC (by omega)
    · exact (hc0.trans h1.chg).step hC (fun i hi e => by have : i = w.heap.size := e; omega)
  · have i1 : (4 : Int) ≤ l.length := by omega
    have t1 : rawT l 1 = l.take 1 := rawT_nat l 1 (by omega)
    have t2 : rawL l 1 = l.drop 1 := rawL_nat l 1 (by omega)
    have t3 : rawE l 0 1 = 0 := rawE_nat l 0 1 (by omega)
    have hl1 : (l.drop 1).length = l.length - 1 := by rw [List.length_drop]
    have u1 : rawT (l.drop 1) 1 = (l.drop 1).take 1 := rawT_nat _ 1 (by omega)
    have u2 : rawL (l.drop 1) 1 = (l.drop 1).drop 1 := rawL_nat _ 1 (by omega)
    have u3 : rawE (l.drop 1) 0 1 = 0 := rawE_nat _ 0 1 (by omega)
    have hl2 : ((l.drop 1).drop 1).length = l.length - 2 := by rw [List.length_drop]; omega
    have v1 : rawT ((l.drop 1).drop 1) 2 = ((l.drop 1).drop 1).take 2 := rawT_nat _ 2 (by omega)
    have v2 : rawL ((l.drop 1).drop 1) 2 = ((l.drop 1).drop 1).drop 2 := rawL_nat _ 2 (by omega)
    have v3 : rawE ((l.drop 1).drop 1) 0 2 = 0 := rawE_nat _ 0 2 (by omega)
    have U1 := Lib.hid (And.intro t1 (And.intro t2 t3))
    have U2 := Lib.hid (And.intro u1 (And.intro u2 u3))
    have U3 := Lib.hid (And.intro v1 (And.intro v2 v3))
    have HL := Lib.hid (And.intro hl1 hl2)
    clear t1 t2 t3 u1 u2 u3 v1 v2 v3 hl1 hl2
    have hA := hd_lt l 1
    have hK := hd_lt (l.drop 1) 1
    have hN := hd_lt ((l.drop 1).drop 1) 2
    obtain ⟨a, ha⟩ : ∃ a : Nat, a = hdA l := ⟨_, rfl⟩
    obtain ⟨kd, hkd⟩ : ∃ kd : Nat, kd = hdK l := ⟨_, rfl⟩
    obtain ⟨nn, hnn⟩ : ∃ nn : Nat, nn = hdN l := ⟨_, rfl⟩
    have ha256 : a < 256 := by rw [ha]; exact hA
    have hkd256 : kd < 256 := by rw [hkd]; exact hK
    have hnn65 : nn < 65536 := by rw [hnn]; exact hN
    have Ha := Lib.hid ha
    have Hkd := Lib.hid hkd
    have Hnn := Lib.hid hnn
    clear hA hK hN ha hkd hnn
    go_enter Try.func76, Try.ntmps76
    go_wp2_with fail
    refine (in_left _ _ _ _ h0).mono ?_
    rintro e w' ⟨rfl, rfl⟩
    go_wp2_with fail
    have c1 := in_u8 _ _ _ _ h0
    rw [U1.out.1, U1.out.2.1, U1.out.2.2] at c1
    refine c1.mono ?_
    rintro e w1 ⟨rfl, h1⟩
    clear c1
    rw [show ((getN (l.take 1) : Nat) : Int) = (a : Int) from by rw [Ha.out]; rfl]
    go_wp2_with fail
    have c1 := in_u8 _ _ _ _ h1.is
    rw [U2.out.1, U2.out.2.1, U2.out.2.2] at c1
    refine c1.mono ?_
    rintro e w2 ⟨rfl, h2⟩
    clear c1
    rw [show ((getN ((l.drop 1).take 1) : Nat) : Int) = (kd : Int) from by rw [Hkd.out]; rfl]
    go_wp2_with fail
    obtain ⟨b4, hb4⟩ : ∃ b4, b4 = w2.heap.size := ⟨_, rfl⟩
    have h2c := (Chg.refl Nothing w2).alloc (.cells #[.int .i64 ((a : Int) % 32), .int .i64 (kd : Int), str []] 85)
    have hp4 := Blk.new w2 85 #[.int .i64 ((a : Int) % 32), .int .i64 (kd : Int), str []]
    have c1 := in_u16 _ _ _ _ (h2.is.chg h2c id)
    rw [U3.out.1, U3.out.2.1, U3.out.2.2] at c1
    refine c1.mono ?_
    rintro e w3 ⟨rfl, h3⟩
    clear c1
    rw [show ((getN (((l.drop 1).drop 1).take 2) : Nat) : Int) = (nn : Int) from by rw [Hnn.out]; rfl]
    have hg2 : g < w2.heap.size := h2.is.blk.lt
    have hp43 := hp4.chg h3.chg (by omega)
    rw [← hb4] at hp43 hp4
    obtain ⟨p0, p1, p2⟩ := cells3 _ hp43
    have hz3 := (((hz.chg h1.chg (by omega)).chg h2.chg (by omega)).chg h2c id).chg h3.chg (by omega)
    have hcc : Chg (· = g) w w3 := (((hc0.trans h1.chg).trans h2.chg).alloc (.cells #[.int .i64 ((a : Int) % 32), .int .i64 (kd : Int), str []] 85)).trans h3.chg
    rw [← hb4]
    have Hb4 := Lib.hid hb4
    clear hb4 p2
    have hs1 := h1.chg.size
    have hs2 := h2.chg.size
    have hb4' := Hb4.out
    simp at hs1
    have hbw : w.heap.size < b4 := by omega
    clear hb4' hs1 hs2
    have hd4 : Hid (((l.drop 1).drop 1).drop 2 = l.drop 4) := by show _ = _; rw [List.drop_drop, List.drop_drop]
    have hdl : Hid ((l.drop 4).length = l.length - 4) := by show _ = _; rw [List.length_drop]
    by_cases hver : a / 32 = 4
    · have hvb : ((a : Int) / 32 != 4) = false := by simp; omega
      by_cases hkk : 192 ≤ kd ∧ kd ≤ 223
      · go_wp2_with fail
        refine (kind_yes _ _ (by omega) (by omega)).mono ?_
        rintro e w' ⟨rfl, rfl⟩
        go_wp2_with fail
        have hE : Hid (stepE l = if l.length < 4 + 4 * nn then 2 else 0) := by
          show stepE l = _
          unfold stepE
          rw [if_neg hlen, if_neg (by rw [← Ha.out]; omega), if_neg (by rw [← Hkd.out]; omega), ← Hnn.out]
        refine (in_raw _ _ _ (4 * (nn : Int)) _ h3.is).mono ?_
        rintro e w5 ⟨rfl, h5⟩
        have hp5 := (hp43).chg h5.chg (by omega)
        have hz5 := (hz3).chg h5.chg (by omega)
        obtain ⟨T, hT⟩ : ∃ T, T = rawT (((l.drop 1).drop 1).drop 2) (4 * (nn : Int)) := ⟨_, rfl⟩
        rw [← hT]
        have HT := Lib.hid hT
        clear hT
        obtain ⟨p0, p1, p2⟩ := cells3 _ hp5
        obtain ⟨z0, z1, z2⟩ := cells3 _ hz5
        have pf2 := hp5.frozen 2
        have zf0 := hz5.frozen 0
        have zf1 := hz5.frozen 1
        have zf2 := hz5.frozen 2
        have hB := (hz5.far (p := ⟨b4, 2, none⟩) (show w.heap.size ≠ b4 by omega) (str T)).put3 (.int .i64 ((a : Int) % 32)) (.int .i64 (kd : Int)) (str T)
        have hC1 := (Chg.refl (· = b4) w5).setCell ⟨b4, 2, none⟩ (str T) (fun _ => rfl)
        have hC2 := chg_put3 (w5.setCell ⟨b4, 2, none⟩ (str T)) w.heap.size (.int .i64 ((a : Int) % 32)) (.int .i64 (kd : Int)) (str T)
        go_wp2_with fail
        refine bodyPost_ret (res1 rfl (res_cell _ _ rfl hB (Try.underlying85) rfl rfl)) rfl ⟨((a : Int) % 32, (kd : Int), T), rfl, ?_, ?_, ?_⟩
        · intro hh; rw [HT.out, hd4.out]; rw [hE.out] at hh; have hle : 4 + 4 * nn ≤ l.length := (by by_cases hx : l.length < 4 + 4 * nn <;> simp [hx] at hh; omega); unfold stepV; rw [← Ha.out, ← Hkd.out, ← Hnn.out]; refine Prod.ext (by simp) (Prod.ext rfl ?_); have := rawT_nat (l.drop 4) (4 * nn) (by rw [hdl.out]; omega); simpa using this
        · have hi := (h5.is.chg hC1 (by omega)).chg hC2 (by omega)
          rw [hd4.out] at hi
          by_cases hx : l.length < 4 + 4 * nn
          · have e0 : stepE l = 2 := by rw [hE.out, if_pos hx]
            have e1 : rawL (l.drop 4) (4 * (nn : Int)) = [] := by unfold rawL; rw [if_neg (by rw [hdl.out]; omega)]
            have e2 : rawE (l.drop 4) 0 (4 * (nn : Int)) = 2 := by unfold rawE; rw [if_neg (by rw [hdl.out]; omega), if_pos rfl]
            rw [e1, e2] at hi
            rw [oneL, e0, if_neg (by decide)]
            exact hi
          · have e0 : stepE l = 0 := by rw [hE.out, if_neg hx]
            have e1 : rawL (l.drop 4) (4 * (nn : Int)) = stepR l := by
              unfold stepR rawL; rw [if_pos (by rw [hdl.out]; omega), List.drop_drop, ← Hnn.out, show (4 * (nn : Int)).toNat = 4 * nn from by omega]
            have e2 : rawE (l.drop 4) 0 (4 * (nn : Int)) = 0 := by unfold rawE; rw [if_pos (by rw [hdl.out]; omega)]
            rw [e1, e2] at hi
            rw [oneL, e0, if_pos rfl]
            exact hi
        · exact (((hcc).trans h5.chg).step hC1 (fun i hi e => by have : i = b4 := e; omega)).step hC2 (fun i hi e => by have : i = w.heap.size := e; omega)
      · go_wp2_with fail
        refine (kind_no _ _ (by omega)).mono ?_
        rintro e w' ⟨rfl, rfl⟩
        go_wp2_with fail
        refine (in_fail _ _ _ 5 _ h3.is).mono ?_
        rintro e w4 ⟨rfl, h4⟩
        rw [show failL (((l.drop 1).drop 1).drop 2) 0 5 = [] from rfl, show failE 0 5 = 5 from rfl] at h4
        go_wp2_with fail
        have hE : Hid (stepE l = 5) := by
          show stepE l = _
          unfold stepE
          rw [if_neg hlen, if_neg (by rw [← Ha.out]; omega), if_pos (by rw [← Hkd.out]; omega)]
        refine (in_raw _ _ _ (4 * (nn : Int)) _ h4.is).mono ?_
        rintro e w5 ⟨rfl, h5⟩
        have hp5 := (hp43.chg h4.chg (by omega)).chg h5.chg (by omega)
        have hz5 := (hz3.chg h4.chg (by omega)).chg h5.chg (by omega)
        obtain ⟨T, hT⟩ : ∃ T, T = rawT [] (4 * (nn : Int)) := ⟨_, rfl⟩
        rw [← hT]
        have HT := Lib.hid hT
        clear hT
        obtain ⟨p0, p1, p2⟩ := cells3 _ hp5
        obtain ⟨z0, z1, z2⟩ := cells3 _ hz5
        have pf2 := hp5.frozen 2
        have zf0 := hz5.frozen 0
        have zf1 := hz5.frozen 1
        have zf2 := hz5.frozen 2
        have hB := (hz5.far (p := ⟨b4, 2, none⟩) (show w.heap.size ≠ b4 by omega) (str T)).put3 (.int .i64 ((a : Int) % 32)) (.int .i64 (kd : Int)) (str T)
        have hC1 := (Chg.refl (· = b4) w5).setCell ⟨b4, 2, none⟩ (str T) (fun _ => rfl)
        have hC2 := chg_put3 (w5.setCell ⟨b4, 2, none⟩ (str T)) w.heap.size (.int .i64 ((a : Int) % 32)) (.int .i64 (kd : Int)) (str T)
        go_wp2_with fail
        refine bodyPost_ret (res1 rfl (res_cell _ _ rfl hB (Try.underlying85) rfl rfl)) rfl ⟨((a : Int) % 32, (kd : Int), T), rfl, ?_, ?_, ?_⟩
        · intro hh; rw [hE.out] at hh; cases hh
        · have hi := (h5.is.chg hC1 (by omega)).chg hC2 (by omega)
          rw [hE.out, oneL, hE.out, if_neg (by decide)]; have e1 : rawL [] (4 * (nn : Int)) = [] := (by unfold rawL; split <;> simp); have e2 : rawE [] 5 (4 * (nn : Int)) = 5 := (by unfold rawE; split <;> simp); rw [e1, e2] at hi; exact hi
        · exact (((hcc.trans h4.chg).trans h5.chg).step hC1 (fun i hi e => by have : i = b4 := e; omega)).step hC2 (fun i hi e => by have : i = w.heap.size := e; omega)
    · have hvb : ((a : Int) / 32 != 4) = true := by simp; omega
      go_wp2_with fail
      refine (in_fail _ _ _ 1 _ h3.is).mono ?_
      rintro e w4 ⟨rfl, h4⟩
      rw [show failL (((l.drop 1).drop 1).drop 2) 0 1 = [] from rfl, show failE 0 1 = 1 from rfl] at h4
      go_wp2_with fail
      have hE : Hid (stepE l = 1) := by
        show stepE l = _
        unfold stepE
        rw [if_neg hlen, if_pos (by rw [← Ha.out]; omega)]
      refine (in_raw _ _ _ (4 * (nn : Int)) _ h4.is).mono ?_
      rintro e w5 ⟨rfl, h5⟩
      have hp5 := (hp43.chg h4.chg (by omega)).chg h5.chg (by omega)
      have hz5 := (hz3.chg h4.chg (by omega)).chg h5.chg (by omega)
      obtain ⟨T, hT⟩ : ∃ T, T = rawT [] (4 * (nn : Int)) := ⟨_, rfl⟩
      rw [← hT]
      have HT := Lib.hid hT
      clear hT
      obtain ⟨p0, p1, p2⟩ := cells3 _ hp5
      obtain ⟨z0, z1, z2⟩ := cells3 _ hz5
      have pf2 := hp5.frozen 2
      have zf0 := hz5.frozen 0
      have zf1 := hz5.frozen 1
      have zf2 := hz5.frozen 2
      have hB := (hz5.far (p := ⟨b4, 2, none⟩) (show w.heap.size ≠ b4 by omega) (str T)).put3 (.int .i64 ((a : Int) % 32)) (.int .i64 (kd : Int)) (str T)
      have hC1 := (Chg.refl (· = b4) w5).setCell ⟨b4, 2, none⟩ (str T) (fun _ => rfl)
      have hC2 := chg_put3 (w5.setCell ⟨b4, 2, none⟩ (str T)) w.heap.size (.int .i64 ((a : Int) % 32)) (.int .i64 (kd : Int)) (str T)
      go_wp2_with fail
      refine bodyPost_ret (res1 rfl (res_cell _ _ rfl hB (Try.underlying85) rfl rfl)) rfl ⟨((a : Int) % 32, (kd : Int), T), rfl, ?_, ?_, ?_⟩
      · intro hh; rw [hE.out] at hh; cases hh
      · have hi := (h5.is.chg hC1 (by omega)).chg hC2 (by omega)
        rw [hE.out, oneL, hE.out, if_neg (by decide)]; have e1 : rawL [] (4 * (nn : Int)) = [] := (by unfold rawL; split <;> simp); have e2 : rawE [] 1 (4 * (nn : Int)) = 1 := (by unfold rawE; split <;> simp); rw [e1, e2] at hi; exact hi
      · exact (((hcc.trans h4.chg).trans h5.chg).step hC1 (fun i hi e => by have : i = b4 := e; omega)).step hC2 (fun i hi e => by have : i = w.heap.size := e; omega)

theorem info_piece : (Try.prog.info? 85).map (fun i => (i.zero, i.size, i.bytes)) = some (some (.agg #[.int .i64 0, .int .i64 0, str []]), 3, 32) := by kernel_rfl
def strSize : Option Value → Nat
  | some (.string s) => s.size
  | _ => 0
/-- A slice of the call's own that holds these structs. -/
def OwnTri (w0 : World) (t : TypeId) (v : Value) (ps : List Pc) (w : World) : Prop := w.ownsRow 0 t 3 v ps.length (ps.flatMap triCells) ∧ ∀ k, v.ownBlock = some k → w0.heap.size ≤ k
theorem tri_one (p : Pc) : ∀ u ∈ triCells p, u.oneCell' = true := by intro u hu; simp [triCells] at hu; rcases hu with rfl | rfl | rfl <;> rfl
theorem OwnTri.chg {w0 w w' : World} {t : TypeId} {v : Value} {ps : List Pc} {S : Nat → Prop} (h : OwnTri w0 t v ps w) (hc : Chg S w w') (hn : ∀ k, v.ownBlock = some k → ¬ S k) : OwnTri w0 t v ps w' := ⟨own_chg h.1 hc hn, h.2⟩
theorem OwnTri.nil (w0 w : World) (t : TypeId) : OwnTri w0 t (.slice none 0 0) [] w := ⟨World.ownsRow_nil _ _ _ _, fun k hk => by cases hk⟩
theorem OwnTri.push {w0 w wx w2 : World} {t : TypeId} {v : Value} {A : Option Addr} {n c : Nat} {ps : List Pc} {p : Pc} (h : OwnTri w0 t v ps w) (hw : w0.heap.size ≤ wx.heap.size)
    (hown : w2.ownsRow 0 t 3 (.slice A n c) n (ps.flatMap triCells ++ triCells p)) (hn : n = ps.length + 1) (hat : (Value.slice A n c).ownBlock = v.ownBlock ∨ (Value.slice A n c).ownBlock = some wx.heap.size) :
    OwnTri w0 t (.slice A n c) (ps ++ [p]) w2 := by
  subst hn
  refine ⟨by simpa using hown, fun k hk => ?_⟩
  rcases hat with h1 | h1
  · exact h.2 k (h1 ▸ hk)
  · rw [h1] at hk; injection hk with hk; omega

set_option maxRecDepth 100000 in
set_option maxHeartbeats 2000000 in
theorem piece_split (l : List UInt8) (w : World) (hl : l.length ≤ 1099511627776) :
    Calls Try.prog 47 #[str l] w fun r w' => ∃ v, r = .returned (.tuple #[v, .int .i64 (splitP l).1]) ∧ OwnTri w 85 v (splitP l).2 w' ∧ ((splitP l).1 ≠ 0 → v = .slice none 0 0) ∧ Chg Nothing w w' := by
  obtain ⟨i0, hi, hz0, hz1, hz2⟩ := info_parts info_piece
  obtain ⟨⟨E, PS⟩, hE⟩ : ∃ r, r = splitP l := ⟨_, rfl⟩
  rw [← hE]
  have HE := Lib.hid hE
  clear hE
  go_enter Try.func47, Try.ntmps47
  go_wp2_with fail
  refine (pen_of l _).mono ?_
  rintro e w' ⟨rfl, rfl⟩
  go_wp2_with fail
  go_loopw [5] (fun v wr => ∃ (f : Nat) (l' : List UInt8) (e' : Int) (acc : List Pc), InIs wr w.heap.size l' e' ∧ OwnTri w 85 v acc wr ∧ l'.length ≤ f ∧ (e' = 0 → runP f l' acc = (E, PS)) ∧ (e' ≠ 0 → E = e' ∧ PS = []) ∧ acc.length + l'.length ≤ 1099511627776 ∧ Chg Nothing w wr) (fun _ wr => strSize (wr.cell? ⟨w.heap.size, 0, none⟩))
  case atStart => exact ⟨l.length, l, 0, [], pen_new l w hl, OwnTri.nil _ _ _, Nat.le_refl _, fun _ => HE.out.symm, fun h => absurd rfl h, by simpa using hl, (Chg.refl _ _).alloc _⟩
  case round =>
    obtain ⟨f, l', e', acc, hin, hown, hf, hrun, herr, hacc, hch⟩ := hrel
    have Hrun := Lib.hid hrun
    have Herr := Lib.hid herr
    clear hrun herr
    go_wp2_with fail
    refine (in_left _ _ _ _ hin).mono ?_
    rintro e w' ⟨rfl, rfl⟩
    by_cases hl' : l' = []
    · subst hl'
      go_wp2_with fail
      refine (in_err _ _ _ _ hin).mono ?_
      rintro e w' ⟨rfl, rfl⟩
      by_cases he : e' = 0
      · subst he
        have hrun := Hrun.out (by trivial)
        have hr0 : runP f [] acc = (0, acc) := by cases f <;> simp [runP]
        rw [hr0] at hrun
        simp only [Prod.mk.injEq] at hrun
        obtain ⟨h1, h2⟩ := hrun
        have H1 := Lib.hid h1
        have H2 := Lib.hid h2
        clear h1 h2
        go_wp2
        go_ret2
        refine ⟨_, by rw [← H1.out]; rfl, by rw [← H2.out]; exact hown, fun h => absurd H1.out.symm h, hch⟩
      · have heb : (e' != 0) = true := by simpa using he
        have h12 := Herr.out he
        have H1 := Lib.hid h12.1
        have H2 := Lib.hid h12.2
        clear h12
        go_wp2
        go_ret2
        refine ⟨.slice none 0 0, by rw [H1.out]; rfl, by rw [H2.out]; exact OwnTri.nil _ _ _, fun _ => rfl, hch⟩
    · have hpos : (0 : Int) < l'.length := by have := List.length_pos_iff.2 hl'; omega
      have he0 : e' = 0 := by
        by_cases h : e' = 0
        · exact h
        · exact absurd (hin.ok h) hl'
      subst he0
      go_wp2_with fail
      refine (piece_one _ l' _ hin hl').mono ?_
      rintro r w1 ⟨p, rfl, hp, hin1, hc1⟩
      have hown1 := hown.chg hc1 (fun k hk e => own_blk_ne hown.1 hin.blk (by decide) (hk.trans (by rw [e])))
      have hs := hch.size
      go_wp2_with (at_builtin; refine wpList_append_src _ (by rfl) (.tmp 12) (.tmp 15) _ _ (by rfl) 85 i0 _ 3 32 Try.underlying73 hi hz0 hz1 hz2 rfl (by omega) u5 _ _ (by rfl) (hown1.1.alloc _) _ 1 (triCells p) (by rfl) (Src.ofSlice _ Try.underlying73 _ 1 1 _ (by rfl) (World.news_of_block (cs := (triCells p).toArray) (t := 85) (fr := (0, 0)) (heap_alloc_new w1 _)) (tri_one p)) (by unfold maxLen; omega) (by omega) ?_; intro A2 c2 w2 hown2 hgrow hat _)
      have hs1 := hc1.size
      have hgn : u5.ownBlock ≠ some w.heap.size := own_blk_ne hown.1 hin.blk (by decide)
      have hcg : Chg (fun k => u5.ownBlock = some k) w1 w2 := ((Chg.refl _ _).alloc _).grown hgrow (fun k hk _ => hk)
      have hin2 := hin1.chg hcg hgn
      have hown3 := OwnTri.push (w := w1) (wx := w1.alloc (.cells (triCells p).toArray 85)) (h := hown1) (by simp; omega) hown2 rfl (by simpa using hat)
      have hch2 : Chg Nothing w w2 := (hch.step hc1 (fun i hi e => by have : i = w.heap.size := e; omega)).step hcg (fun i hi e => by have := hown.2 i e; omega)
      obtain ⟨f0, rfl⟩ : ∃ f0, f = f0 + 1 := ⟨f - 1, by have := List.length_pos_iff.2 hl'; omega⟩
      have hlt := stepR_lt l' hl'
      have hol : (oneL l').length < l'.length := by
        unfold oneL; split
        · exact hlt
        · simp; exact List.length_pos_iff.2 hl'
      have hrun := Hrun.out (by trivial)
      unfold runP at hrun
      rw [if_neg hl'] at hrun
      go_roundw
      case rel =>
        refine ⟨f0, oneL l', stepE l', acc ++ [p], hin2, hown3, by omega, fun h0 => ?_, fun h0 => ?_, by rw [List.length_append]; simp only [List.length_cons, List.length_nil]; omega, hch2⟩
        · rw [if_pos h0] at hrun
          rw [hp h0, oneL, if_pos h0]; exact hrun
        · rw [if_neg h0] at hrun
          simp only [Prod.mk.injEq] at hrun
          exact ⟨hrun.1.symm, hrun.2.symm⟩
      case measure => rw [hin2.c0, hin.c0]; simpa [strSize] using hol
end Go.Proofs.Ytiehcdcimllooaa
