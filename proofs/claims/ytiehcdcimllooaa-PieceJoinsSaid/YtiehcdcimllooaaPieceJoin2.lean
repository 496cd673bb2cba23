/- The walk of PieceJoins, its two loops. -/
import Derived.Test.YtiehcdcimllooaaPieceJoin1
namespace Go.Proofs.Ytiehcdcimllooaa
open Go.RowKit
set_option linter.unusedVariables false
set_option linter.unusedSimpArgs false

def PcOk (a : Pc) : Prop := (-9223372036854775807 ≤ a.1 + 1 ∧ a.1 ≤ 9223372036854775807) ∧ (-9223372036854775807 ≤ a.2.1 + 1 ∧ a.2.1 ≤ 9223372036854775807) ∧ a.2.2.length ≤ maxLen

set_option maxRecDepth 100000 in
set_option maxHeartbeats 8000000 in
theorem pieceJoins_walk (A B : Option Addr) (n m c d : Nat) (xs ys : List Pc) (w : World) (hx : ArgRows w A 3 n (xs.map triCells)) (hxl : xs.length = n) (hxo : ∀ a ∈ xs, PcOk a)
    (hy : ArgRows w B 3 m (ys.map triCells)) (hyl : ys.length = m) (hyo : ∀ a ∈ ys, PcOk a) :
    Calls Try.prog 9 #[.slice A n c, .slice B m d] w fun e w' => e = .returned (.bool true) ∧ Chg Nothing w w' := by
  obtain ⟨i1, hi1, hz1, hs1, hb1⟩ := info_parts info_piece
  obtain ⟨i2, hi2, hz2, hs2, hb2⟩ := info_parts info_rpiece
  have hnm : n ≤ maxLen := hx.2.1
  have hmm : m ≤ maxLen := hy.2.1
  unfold maxLen at hnm hmm
  have HXO := Lib.hid hxo
  have HYO := Lib.hid hyo
  have HXL := Lib.hid hxl
  have HYL := Lib.hid hyl
  clear hxo hyo hxl hyl
  go_enter Try.func9, Try.ntmps9
  go_wp2_with fail
  refine (awake7 _).mono ?_
  rintro e w1 ⟨rfl, h1⟩
  go_wp2_with fail
  go_loopw [5, 7, 8] (fun v u i wr => ∃ (k : Nat) (ps : List Pc), k ≤ n ∧ i = .int .i64 k ∧ ps.length ≤ 5 ∧ ps.length ≤ k ∧ OwnTri w 85 v ps wr ∧ OwnTri w 83 u ps wr ∧ ps.all mayP = true ∧ Chg Nothing w wr) (fun _ _ i _ => n - (intOf i).toNat)
  case atStart => exact ⟨0, [], Nat.zero_le _, rfl, by simp, by simp, OwnTri.nil _ _ _, OwnTri.nil _ _ _, rfl, h1⟩
  case round =>
    obtain ⟨k, ps, hk, rfl, hps5, hpsk, ho1, ho2, hall, hch⟩ := hrel
    by_cases hlt : k < n ∧ k < 5
    · obtain ⟨hlt, hlt5⟩ := hlt
      have i1' : (k : Int) < n := by omega
      have i2' : (k : Int) < 5 := by omega
      have hka : k < xs.length := by rw [HXL.out]; exact hlt
      obtain ⟨b, o, rfl, hb, c0, c1, c2⟩ := tri_at (hx.keep hch) hka
      obtain ⟨⟨p0, p1, p2⟩, ha⟩ : ∃ a, a = xs[k] := ⟨_, rfl⟩
      rw [← ha] at c0 c1 c2
      have hakt := HXO.out _ (ha ▸ List.getElem_mem hka)
      simp only at c0 c1 c2
      clear ha hka
      obtain ⟨⟨p00, p01⟩, ⟨p10, p11⟩, hp2⟩ := hakt
      simp only at p00 p01 p10 p11 hp2
      have hsz := hch.size
      have hn2 : ∀ k, u7.ownBlock = some k → k < wr.heap.size := fun k => ho2.lt
      go_wp2_with fail
      refine (cut_any p2 60 _ hp2 (by decide)).mono ?_
      rintro e w' ⟨rfl, rfl⟩
      obtain ⟨q, hq, hql⟩ : ∃ q, q = p2.take (60 : Int).toNat ∧ q.length ≤ 60 := ⟨_, rfl, by rw [List.length_take]; exact Nat.min_le_left _ _⟩
      rw [← hq]
      clear hq c0 c1 c2
      go_wp2_with fail
      refine (ref_may (p0, p1, q) _ (by unfold maxLen; simp only; omega)).mono ?_
      rintro e w3 ⟨rfl, h3⟩
      have hpb : Blk w3 wr.heap.size 83 #[.int .i64 p0, .int .i64 p1, str q] := (Blk.new wr _ _).chg h3 id
      have ho1 := (ho1.alloc (.cells #[.int .i64 p0, .int .i64 p1, str q] 83)).chg h3 (fun _ _ => id)
      have ho2 := (ho2.alloc (.cells #[.int .i64 p0, .int .i64 p1, str q] 83)).chg h3 (fun _ _ => id)
      have hch3 := (hch.alloc (.cells #[.int .i64 p0, .int .i64 p1, str q] 83)).trans h3
      have hsz3 := hch3.size
      have hne2 : u7.ownBlock ≠ some wr.heap.size := fun e => by have := hn2 _ e; omega
      cases hmay : mayP (p0, p1, q)
      · go_wp2_with fail
        go_roundw
        case rel => exact ⟨k + 1, ps, by omega, by go_num, hps5, by omega, ho1, ho2, hall, hch3⟩
        case measure => simp [intOf]; omega
      · have c0 : w3.cell? ⟨wr.heap.size, 0, none⟩ = some (.int .i64 p0) := hpb.cell 0
        have c1 : w3.cell? ⟨wr.heap.size, 1, none⟩ = some (.int .i64 p1) := hpb.cell 1
        have c2 : w3.cell? ⟨wr.heap.size, 2, none⟩ = some (str q) := hpb.cell 2
        have hpl := hpb.lt
        go_wp2_with fail
        go_region_law
          ((first | (refine step_push (by rfl) (.tmp 36) (.tmp 38) 73 (by rfl) 85 i1 Try.underlying73 hi1 hz1 hs1 hb1 u5 ps w (by rfl) (by (repeat (first | (with_reducible assumption) | (with_reducible exact hpa.own) | (with_reducible exact hpc.own) | (with_reducible refine OwnTri.alloc ?_ _) | (with_reducible refine OwnTri.drew ?_) | (refine hpa.keep _ _ _ _ (by decide) ?_) | (refine hpc.keep _ _ _ _ (by decide) ?_) | (refine hpa.same _ _ _ hdis ?_)))) (by (first | omega | (simp; omega) | (have hz8 := hpa.chg.size; simp at hz8 ⊢; omega) | (have hz9 := hpc.chg.size; simp at hz9 ⊢; omega))) p0 p1 q _ (by rfl) (by (repeat (first | (with_reducible assumption) | (with_reducible exact Blk.new _ _ _) | (with_reducible refine Blk.new' _ _ _ ?_; simp; done) | (with_reducible refine Blk.alloc ?_ _) | (with_reducible refine Blk.drew ?_) | (refine hpa.blk _ _ _ (by decide) ?_) | (refine hpc.old _ _ hne2 ?_)))) (by omega) ?_; intro A1 n1 wa hpa; have hda := cells3 83 (show Blk wa wr.heap.size 83 #[.int .i64 p0, .int .i64 p1, str q] from by (repeat (first | (with_reducible assumption) | (with_reducible exact Blk.new _ _ _) | (with_reducible refine Blk.new' _ _ _ ?_; simp; done) | (with_reducible refine Blk.alloc ?_ _) | (with_reducible refine Blk.drew ?_) | (refine hpa.blk _ _ _ (by decide) ?_) | (refine hpc.old _ _ hne2 ?_)))); obtain ⟨da0, da1, da2⟩ := hda) | (refine step_push (by rfl) (.tmp 40) (.tmp 42) 76 (by rfl) 83 i2 Try.underlying76 hi2 hz2 hs2 hb2 u7 ps w (by rfl) (by (repeat (first | (with_reducible assumption) | (with_reducible exact hpa.own) | (with_reducible exact hpc.own) | (with_reducible refine OwnTri.alloc ?_ _) | (with_reducible refine OwnTri.drew ?_) | (refine hpa.keep _ _ _ _ (by decide) ?_) | (refine hpc.keep _ _ _ _ (by decide) ?_) | (refine hpa.same _ _ _ hdis ?_)))) (by (first | omega | (simp; omega) | (have hz8 := hpa.chg.size; simp at hz8 ⊢; omega) | (have hz9 := hpc.chg.size; simp at hz9 ⊢; omega))) p0 p1 q _ (by rfl) (by (repeat (first | (with_reducible assumption) | (with_reducible exact Blk.new _ _ _) | (with_reducible refine Blk.new' _ _ _ ?_; simp; done) | (with_reducible refine Blk.alloc ?_ _) | (with_reducible refine Blk.drew ?_) | (refine hpa.blk _ _ _ (by decide) ?_) | (refine hpc.old _ _ hne2 ?_)))) (by omega) ?_; intro A2 n2 wb hpc; have hdc := cells3 83 (show Blk wb wr.heap.size 83 #[.int .i64 p0, .int .i64 p1, str q] from by (repeat (first | (with_reducible assumption) | (with_reducible exact Blk.new _ _ _) | (with_reducible refine Blk.new' _ _ _ ?_; simp; done) | (with_reducible refine Blk.alloc ?_ _) | (with_reducible refine Blk.drew ?_) | (refine hpa.blk _ _ _ (by decide) ?_) | (refine hpc.old _ _ hne2 ?_)))); obtain ⟨db0, db1, db2⟩ := hdc)))
        all_goals
          have g1 : OwnTri w 85 (.slice A1 (ps.length + 1) n1) (ps ++ [(p0, p1, q)]) wa := hpa.own
          have g2 : OwnTri w 83 (.slice A2 (ps.length + 1) n2) (ps ++ [(p0, p1, q)]) wb := hpc.own
          go_wp2_with fail
          go_roundw
          case rel => exact ⟨k + 1, ps ++ [(p0, p1, q)], by omega, by go_num, by simp; omega, by simp; omega, by (repeat (first | (with_reducible assumption) | (with_reducible exact hpa.own) | (with_reducible exact hpc.own) | (with_reducible refine OwnTri.alloc ?_ _) | (with_reducible refine OwnTri.drew ?_) | (refine hpa.keep _ _ _ _ (by decide) ?_) | (refine hpc.keep _ _ _ _ (by decide) ?_) | (refine hpa.same _ _ _ hdis ?_))), by (repeat (first | (with_reducible assumption) | (with_reducible exact hpa.own) | (with_reducible exact hpc.own) | (with_reducible refine OwnTri.alloc ?_ _) | (with_reducible refine OwnTri.drew ?_) | (refine hpa.keep _ _ _ _ (by decide) ?_) | (refine hpc.keep _ _ _ _ (by decide) ?_) | (refine hpa.same _ _ _ hdis ?_))), by rw [List.all_append, hall]; simp [hmay], by (repeat (first | (with_reducible assumption) | (with_reducible refine Chg.alloc ?_ _) | (with_reducible refine Chg.drew ?_) | (refine Chg.step ?_ hpa.chg (fun i hi e => by have := ho1.2 i e; omega)) | (refine Chg.step ?_ hpc.chg (fun i hi e => by have := ho2.2 i e; omega))))⟩
          case measure => simp [intOf]; omega
    · have hcond : ((k : Int) < n ∧ (5 : Int) ≤ k) ∨ (n : Int) ≤ k := by omega
      obtain ⟨w5, hw5⟩ : ∃ x, x = wr := ⟨wr, rfl⟩
      subst hw5
      have hsz5 := hch.size
      have hlt5 : ∀ k, u5.ownBlock = some k → k < w5.heap.size := fun k => ho1.lt
      have HCOND := Lib.hid hcond
      clear hcond hlt
      rcases HCOND.out with ⟨j1, j2⟩ | j1
      all_goals
        go_wp2_with fail
        go_loopw [6, 7, 10] (fun v u i wr => ∃ (k : Nat) (qs al : List Pc), k ≤ m ∧ i = .int .i64 k ∧ qs.length ≤ 5 ∧ qs.length ≤ k ∧ w5.heap.size ≤ wr.heap.size ∧ OwnTri w5 85 v qs wr ∧ OwnTri w 85 u5 ps wr ∧ OwnTri w 83 u al wr ∧ al = ps ++ qs ∧ qs.all mayP = true ∧ Chg Nothing w wr) (fun _ _ i _ => m - (intOf i).toNat)
        case atStart => exact ⟨0, [], ps, Nat.zero_le _, rfl, by simp, by simp, Nat.le_refl _, OwnTri.nil _ _ _, ho1, ho2, by simp, rfl, hch⟩
        case round =>
          obtain ⟨k, qs, al, hk, rfl, hqs5, hqsk, hsz6, ho6, ho5, ho7, hal, hqall, hcr⟩ := hrel
          have hall10 : al.length ≤ 10 := by rw [hal, List.length_append]; omega
          have HAL := Lib.hid hal
          clear hal
          by_cases hlt : k < m ∧ k < 5
          · obtain ⟨hlt, hlt5'⟩ := hlt
            have i1' : (k : Int) < m := by omega
            have i2' : (k : Int) < 5 := by omega
            have hka : k < ys.length := by rw [HYL.out]; exact hlt
            obtain ⟨b, o, rfl, hb, c0, c1, c2⟩ := tri_at (hy.keep hcr) hka
            obtain ⟨⟨p0, p1, p2⟩, ha⟩ : ∃ a, a = ys[k] := ⟨_, rfl⟩
            rw [← ha] at c0 c1 c2
            have hakt := HYO.out _ (ha ▸ List.getElem_mem hka)
            simp only at c0 c1 c2
            clear ha hka
            obtain ⟨⟨p00, p01⟩, ⟨p10, p11⟩, hp2⟩ := hakt
            simp only at p00 p01 p10 p11 hp2
            have hsz := hcr.size
            have hn2 : ∀ k, u7.ownBlock = some k → k < wr.heap.size := fun k => ho7.lt
            go_wp2_with fail
            refine (cut_any p2 60 _ hp2 (by decide)).mono ?_
            rintro e w' ⟨rfl, rfl⟩
            obtain ⟨q, hq, hql⟩ : ∃ q, q = p2.take (60 : Int).toNat ∧ q.length ≤ 60 := ⟨_, rfl, by rw [List.length_take]; exact Nat.min_le_left _ _⟩
            rw [← hq]
            clear hq c0 c1 c2
            go_wp2_with fail
            refine (ref_may (p0, p1, q) _ (by unfold maxLen; simp only; omega)).mono ?_
            rintro e w3 ⟨rfl, h3⟩
            have hpb : Blk w3 wr.heap.size 83 #[.int .i64 p0, .int .i64 p1, str q] := (Blk.new wr _ _).chg h3 id
            have ho5 := (ho5.alloc (.cells #[.int .i64 p0, .int .i64 p1, str q] 83)).chg h3 (fun _ _ => id)
            have ho6 := (ho6.alloc (.cells #[.int .i64 p0, .int .i64 p1, str q] 83)).chg h3 (fun _ _ => id)
            have ho7 := (ho7.alloc (.cells #[.int .i64 p0, .int .i64 p1, str q] 83)).chg h3 (fun _ _ => id)
            have hch3 := (hcr.alloc (.cells #[.int .i64 p0, .int .i64 p1, str q] 83)).trans h3
            have hsz3 := h3.size
            simp only [size_alloc] at hsz3
            have hne2 : u7.ownBlock ≠ some wr.heap.size := fun e => by have := hn2 _ e; omega
            have hdis : ∀ k, u5.ownBlock = some k → ¬ u6.ownBlock = some k := fun k hk e => by have := hlt5 k hk; have := ho6.2 k e; omega
            cases hmay : mayP (p0, p1, q)
            · go_wp2_with fail
              go_roundw
              case rel => exact ⟨k + 1, qs, al, by omega, by go_num, hqs5, by omega, by omega, ho6, ho5, ho7, HAL.out, hqall, hch3⟩
              case measure => simp [intOf]; omega
            · have c0 : w3.cell? ⟨wr.heap.size, 0, none⟩ = some (.int .i64 p0) := hpb.cell 0
              have c1 : w3.cell? ⟨wr.heap.size, 1, none⟩ = some (.int .i64 p1) := hpb.cell 1
              have c2 : w3.cell? ⟨wr.heap.size, 2, none⟩ = some (str q) := hpb.cell 2
              have hpl := hpb.lt
              go_wp2_with fail
              go_region_law
                ((first | (refine step_push (by rfl) (.tmp 64) (.tmp 66) 73 (by rfl) 85 i1 Try.underlying73 hi1 hz1 hs1 hb1 u6 qs w5 (by rfl) (by (repeat (first | (with_reducible assumption) | (with_reducible exact hpa.own) | (with_reducible exact hpc.own) | (with_reducible refine OwnTri.alloc ?_ _) | (with_reducible refine OwnTri.drew ?_) | (refine hpa.keep _ _ _ _ (by decide) ?_) | (refine hpc.keep _ _ _ _ (by decide) ?_) | (refine hpa.same _ _ _ hdis ?_)))) (by (first | omega | (simp; omega) | (have hz8 := hpa.chg.size; simp at hz8 ⊢; omega) | (have hz9 := hpc.chg.size; simp at hz9 ⊢; omega))) p0 p1 q _ (by rfl) (by (repeat (first | (with_reducible assumption) | (with_reducible exact Blk.new _ _ _) | (with_reducible refine Blk.new' _ _ _ ?_; simp; done) | (with_reducible refine Blk.alloc ?_ _) | (with_reducible refine Blk.drew ?_) | (refine hpa.blk _ _ _ (by decide) ?_) | (refine hpc.old _ _ hne2 ?_)))) (by omega) ?_; intro A1 n1 wa hpa; have hda := cells3 83 (show Blk wa wr.heap.size 83 #[.int .i64 p0, .int .i64 p1, str q] from by (repeat (first | (with_reducible assumption) | (with_reducible exact Blk.new _ _ _) | (with_reducible refine Blk.new' _ _ _ ?_; simp; done) | (with_reducible refine Blk.alloc ?_ _) | (with_reducible refine Blk.drew ?_) | (refine hpa.blk _ _ _ (by decide) ?_) | (refine hpc.old _ _ hne2 ?_)))); obtain ⟨da0, da1, da2⟩ := hda) | (refine step_push (by rfl) (.tmp 68) (.tmp 70) 76 (by rfl) 83 i2 Try.underlying76 hi2 hz2 hs2 hb2 u7 al w (by rfl) (by (repeat (first | (with_reducible assumption) | (with_reducible exact hpa.own) | (with_reducible exact hpc.own) | (with_reducible refine OwnTri.alloc ?_ _) | (with_reducible refine OwnTri.drew ?_) | (refine hpa.keep _ _ _ _ (by decide) ?_) | (refine hpc.keep _ _ _ _ (by decide) ?_) | (refine hpa.same _ _ _ hdis ?_)))) (by (first | omega | (simp; omega) | (have hz8 := hpa.chg.size; simp at hz8 ⊢; omega) | (have hz9 := hpc.chg.size; simp at hz9 ⊢; omega))) p0 p1 q _ (by rfl) (by (repeat (first | (with_reducible assumption) | (with_reducible exact Blk.new _ _ _) | (with_reducible refine Blk.new' _ _ _ ?_; simp; done) | (with_reducible refine Blk.alloc ?_ _) | (with_reducible refine Blk.drew ?_) | (refine hpa.blk _ _ _ (by decide) ?_) | (refine hpc.old _ _ hne2 ?_)))) (by omega) ?_; intro A2 n2 wb hpc; have hdc := cells3 83 (show Blk wb wr.heap.size 83 #[.int .i64 p0, .int .i64 p1, str q] from by (repeat (first | (with_reducible assumption) | (with_reducible exact Blk.new _ _ _) | (with_reducible refine Blk.new' _ _ _ ?_; simp; done) | (with_reducible refine Blk.alloc ?_ _) | (with_reducible refine Blk.drew ?_) | (refine hpa.blk _ _ _ (by decide) ?_) | (refine hpc.old _ _ hne2 ?_)))); obtain ⟨db0, db1, db2⟩ := hdc)))
              all_goals
                have g1 : OwnTri w5 85 (.slice A1 (qs.length + 1) n1) (qs ++ [(p0, p1, q)]) wa := hpa.own
                have g2 : OwnTri w 83 (.slice A2 (al.length + 1) n2) (al ++ [(p0, p1, q)]) wb := hpc.own
                go_wp2_with fail
                go_roundw
                case rel => exact ⟨k + 1, qs ++ [(p0, p1, q)], al ++ [(p0, p1, q)], by omega, by go_num, by simp; omega, by simp; omega, by (have z1 := hpa.chg.size; have z2 := hpc.chg.size; simp at z1 z2 ⊢; omega), by (repeat (first | (with_reducible assumption) | (with_reducible exact hpa.own) | (with_reducible exact hpc.own) | (with_reducible refine OwnTri.alloc ?_ _) | (with_reducible refine OwnTri.drew ?_) | (refine hpa.keep _ _ _ _ (by decide) ?_) | (refine hpc.keep _ _ _ _ (by decide) ?_) | (refine hpa.same _ _ _ hdis ?_))), by (repeat (first | (with_reducible assumption) | (with_reducible exact hpa.own) | (with_reducible exact hpc.own) | (with_reducible refine OwnTri.alloc ?_ _) | (with_reducible refine OwnTri.drew ?_) | (refine hpa.keep _ _ _ _ (by decide) ?_) | (refine hpc.keep _ _ _ _ (by decide) ?_) | (refine hpa.same _ _ _ hdis ?_))), by (repeat (first | (with_reducible assumption) | (with_reducible exact hpa.own) | (with_reducible exact hpc.own) | (with_reducible refine OwnTri.alloc ?_ _) | (with_reducible refine OwnTri.drew ?_) | (refine hpa.keep _ _ _ _ (by decide) ?_) | (refine hpc.keep _ _ _ _ (by decide) ?_) | (refine hpa.same _ _ _ hdis ?_))), by rw [HAL.out, List.append_assoc], by rw [List.all_append, hqall]; simp [hmay], by (repeat (first | (with_reducible assumption) | (with_reducible refine Chg.alloc ?_ _) | (with_reducible refine Chg.drew ?_) | (refine Chg.step ?_ hpa.chg (fun i hi e => by have := ho6.2 i e; omega)) | (refine Chg.step ?_ hpc.chg (fun i hi e => by have := ho7.2 i e; omega))))⟩
                case measure => simp [intOf]; omega
          · have hcond2 : ((k : Int) < m ∧ (5 : Int) ≤ k) ∨ (m : Int) ≤ k := by omega
            obtain ⟨A5, c5, rfl, hA5, _⟩ := ho5.rows (by unfold maxLen; omega)
            obtain ⟨A6, c6, rfl, hA6, _⟩ := ho6.rows (by unfold maxLen; omega)
            obtain ⟨A7, c7, rfl, hA7, _⟩ := ho7.rows (by unfold maxLen; omega)
            have HB5 := Lib.hid (may_bounds ps hall).1
            have HB6 := Lib.hid (may_bounds qs hqall).1
            have hle5 := packP_le ps hall (by omega)
            have hle6 := packP_le qs hqall (by omega)
            have HS := Lib.hid (join_split ps qs al hall hqall HAL.out)
            have HC2 := Lib.hid hcond2
            clear hcond2 hlt ho5 ho6 ho7
            have P5 := fun w hr => piece_pack A5 _ c5 ps w hr rfl (by omega) HB5.out
            have P6 := fun w hr => piece_pack A6 _ c6 qs w hr rfl (by omega) HB6.out
            generalize packP ps = s1 at hle5 HS P5
            generalize packP qs = s2 at hle6 HS P6
            have HP5 := Lib.hid P5
            have HP6 := Lib.hid P6
            clear P5 P6
            have hadd := add_strs (P := Try.prog) s1 s2 (by omega)
            rcases HC2.out with ⟨j3, j4⟩ | j3
            all_goals
              go_wp2_with fail
              refine (HP5.out _ hA5).mono ?_
              rintro e w2 ⟨rfl, h2⟩
              go_wp2_with fail
              refine (HP6.out _ (hA6.keep h2)).mono ?_
              rintro e w3 ⟨rfl, h3⟩
              go_wp2_with fail
              refine (piece_split (s1 ++ s2) _ (by rw [List.length_append]; omega)).mono ?_
              rintro e w4 ⟨v, rfl, hv, _, h4⟩
              rw [HS.out] at hv ⊢
              simp only at hv ⊢
              obtain ⟨A4, c4, rfl, hA4, _⟩ := hv.rows (by unfold maxLen; omega)
              go_wp2_with fail
              refine (law_is A4 A7 _ _ c4 c7 al al _ hA4 (((hA7.keep h2).keep h3).keep h4) rfl rfl).mono ?_
              rintro e w5 ⟨rfl, h5⟩
              rw [show decide (al = al) = true from by simp]
              go_wp2
              go_ret
              exact ⟨rfl, (((hcr.trans h2).trans h3).trans h4).trans h5⟩
end Go.Proofs.Ytiehcdcimllooaa
