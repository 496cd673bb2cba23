/- The reference of layer 7: Pack and Split; the fixed fact. -/
import Derived.Test.YtiehcdcimllooaaPiece3
namespace Go.Proofs.Ytiehcdcimllooaa
open Go.RowKit
set_option linter.unusedVariables false
set_option linter.unusedSimpArgs false

theorem add_strs {P : Program} (x y : List UInt8) (h : x.length + y.length ≤ 9223372036854775807) : ∀ W : World, (Op.stringOp .add ⟨x.toArray⟩ ⟨y.toArray⟩).run P W = .ok (str (x ++ y)) W := fun W => by
  rw [run_string_add_sum _ _ _ (by simpa using h), append_mk]

theorem put_lit (n : Int) (size : Nat) (s : Int) (hs : s = size) (h0 : -9223372036854775807 ≤ n + 1) (h1 : n ≤ 9223372036854775807) (h8 : size ≤ 8) (w : World) :
    Calls Try.prog 31 #[.int .i64 n, .int .i64 s] w fun e w' => e = .returned (str (putZ n size)) ∧ Chg Nothing w w' := by
  subst hs; exact put_any n size w h0 h1 h8

set_option maxRecDepth 100000 in
set_option maxHeartbeats 8000000 in
theorem ref_pack (A : Option Addr) (n c : Nat) (xs : List Pc) (w : World) (hrows : ArgRows w A 3 n (xs.map triCells)) (hlen : xs.length = n) (hn : n ≤ 65536)
    (hb : ∀ x ∈ xs, x.2.2.length ≤ 262144 ∧ (-9223372036854775807 ≤ x.1 + 1 ∧ x.1 ≤ 9223372036854775807)) (hb2 : ∀ x ∈ xs, -9223372036854775807 ≤ x.2.1 + 1 ∧ x.2.1 ≤ 9223372036854775807) :
    Calls Try.prog 53 #[.slice A n c] w fun e w' => e = .returned (str (packP xs)) ∧ Chg Nothing w w' := by
  have HB := Lib.hid hb
  have HB2 := Lib.hid hb2
  have HLEN := Lib.hid hlen
  clear hb hb2
  go_enter Try.func53, Try.ntmps53
  go_wp2_with fail
  go_loopw [3, 8] (fun s i wr => ∃ (k : Nat), k ≤ n ∧ i = .int .i64 k ∧ (xs.take k).all mayP = true ∧ s = str ((xs.take k).flatMap packOne) ∧ Chg Nothing w wr) (fun _ i _ => n - (intOf i).toNat)
  case atStart => exact ⟨0, Nat.zero_le _, rfl, by simp, rfl, Chg.refl _ _⟩
  case round =>
    obtain ⟨k, hk, rfl, hall, rfl, hch⟩ := hrel
    have hL0 := pack_len HB.out k (by omega)
    obtain ⟨L, hL⟩ : ∃ L, L = (xs.take k).flatMap packOne := ⟨_, rfl⟩
    rw [← hL]
    rw [← hL] at hL0
    have HL := Lib.hid hL
    have HFL := Lib.hid hL0
    clear hL hL0
    by_cases hlt : k < n
    · have i1 : (k : Int) < n := by omega
      have hka : k < xs.length := by omega
      obtain ⟨b, o, rfl, hbl, c0, c1, c2⟩ := tri_at (hrows.keep hch) hka
      obtain ⟨⟨ct, kd, t⟩, ha⟩ : ∃ a, a = xs[k] := ⟨_, rfl⟩
      rw [← ha] at c0 c1 c2
      have hakt := HB.out _ (ha ▸ List.getElem_mem hka)
      have hakt2 := HB2.out _ (ha ▸ List.getElem_mem hka)
      simp only at c0 c1 c2 hakt hakt2
      have HA := Lib.hid ha
      clear ha
      obtain ⟨ht, ct0, ct1⟩ := hakt
      obtain ⟨kd0, kd1⟩ := hakt2
      go_wp2_with fail
      refine (ref_may (ct, kd, t) _ (by unfold maxLen; simp only; omega)).mono ?_
      rintro e w1 ⟨rfl, h1⟩
      by_cases hm : mayP (ct, kd, t) = true
      · rw [hm]
        have hp5 := (Blk.new wr 83 #[.int .i64 ct, .int .i64 kd, str t]).chg h1 id
        obtain ⟨q0, q1, q2⟩ := cells3 _ hp5
        have hm' := (mayP_iff _).1 hm
        simp only at hm'
        have hwa : IntKind.i64.wrap (128 + ct) = 128 + ct := IntWalk.i64_in _ (by omega)
        obtain ⟨q, hq1, hq2, hq3⟩ : ∃ q : Nat, (t.length : Int).tdiv 4 = q ∧ IntKind.i64.wrap (q : Int) = q ∧ q = t.length / 4 :=
          ⟨t.length / 4, by rw [Int.tdiv_eq_ediv_of_nonneg (by omega)]; omega, IntWalk.i64_in _ (by omega), rfl⟩
        have HQ := Lib.hid hq3
        clear hq3
        have HEQ : Hid (L ++ (putZ (128 + ct) 1 ++ (putZ kd 1 ++ (putZ q 2 ++ t))) = (xs.take (k + 1)).flatMap packOne) := by
          show _ = _
          rw [flat_step packOne xs k hka, ← HA.out, ← HL.out]
          simp [packOne, HQ.out]
        have HALL : Hid ((xs.take (k + 1)).all mayP = true) := all_take hka hall (by rw [← HA.out]; exact hm)
        have hq4 := HQ.out
        have C1 := Lib.hid (put_lit (128 + ct) 1 1 rfl (by omega) (by omega) (by decide))
        have C2 := Lib.hid (put_lit kd 1 1 rfl kd0 kd1 (by decide))
        have C3 := Lib.hid (put_lit (q : Int) 2 2 rfl (by omega) (by omega) (by decide))
        clear hq4
        have p1 := putZ_length (128 + ct) 1
        have p2 := putZ_length kd 1
        have p3 := putZ_length q 2
        have s1 := add_strs (P := Try.prog) (putZ (128 + ct) 1) (putZ kd 1) (by omega)
        have s2 := add_strs (P := Try.prog) (putZ (128 + ct) 1 ++ putZ kd 1) (putZ q 2) (by simp; omega)
        have s3 := add_strs (P := Try.prog) (putZ (128 + ct) 1 ++ (putZ kd 1 ++ putZ q 2)) t (by simp; omega)
        have s4 := add_strs (P := Try.prog) L (putZ (128 + ct) 1 ++ (putZ kd 1 ++ (putZ q 2 ++ t))) (by have := HFL.out; simp; omega)
        clear hm hm' p1 p2 p3 hall
        go_wp2_with fail
        go_region_held3 (fun w' => w'.cell? ⟨wr.heap.size, 0, none⟩ = some (.int .i64 ct) ∧ w'.cell? ⟨wr.heap.size, 1, none⟩ = some (.int .i64 kd) ∧ w'.cell? ⟨wr.heap.size, 2, none⟩ = some (str t))
          ((refine cells3 83 ?_; repeat (first | with_reducible exact hp5 | with_reducible exact b2 | with_reducible exact b3 | with_reducible exact b4 | with_reducible refine Blk.drew ?_ | with_reducible refine Blk.alloc ?_ _)))
          (first
            | (go_at_call 31; (with_reducible refine (C1.out _).mono ?_); rintro e w2 ⟨rfl, g2⟩; have b2 := hp5.drew.chg g2 id)
            | (go_at_call 31; (with_reducible refine (C2.out _).mono ?_); rintro e w3 ⟨rfl, g3⟩; have b3 := b2.chg g3 id)
            | (go_at_call 31; (with_reducible refine (C3.out _).mono ?_); rintro e w4 ⟨rfl, g4⟩; have b4 := b3.chg g4 id))
        go_wp2
        go_roundw
        case rel => exact ⟨k + 1, by omega, by go_num, HALL.out, val_str HEQ.out, ((((hch.alloc _).trans h1).drew.trans g2).trans g3).trans g4⟩
        case measure => simp [intOf]; omega
      · have hm' : mayP (ct, kd, t) = false := by simpa using hm
        rw [hm']
        clear hm'
        go_wp2
        go_ret
        exact ⟨ret_str (packP_bad hka (by rw [← HA.out]; exact hm)).symm, (hch.alloc _).trans h1⟩
    · have i1 : (n : Int) ≤ k := by omega
      have e2 : packP xs = L := by
        rw [HL.out]
        have e1 : xs.take k = xs := List.take_of_length_le (by omega)
        unfold packP; rw [e1] at hall ⊢; rw [if_pos hall]
      have HE := Lib.hid e2
      clear e2
      go_wp2
      go_ret
      exact ⟨ret_str HE.out.symm, hch⟩

theorem four {α : Type} (l : List α) (h : ¬ l.length < 4) : ∃ a b c d r, l = a :: b :: c :: d :: r := by
  match l, h with
  | a :: b :: c :: d :: r, _ => exact ⟨a, b, c, d, r, rfl⟩
  | [], h => simp at h
  | [_], h => simp at h
  | [_, _], h => simp at h
  | [_, _, _], h => simp at h
def elemSize (v : Value) : Nat := strSize (some v)
theorem info_rpiece : (Try.prog.info? 83).map (fun i => (i.zero, i.size, i.bytes)) = some (some (.agg #[.int .i64 0, .int .i64 0, str []]), 3, 32) := by kernel_rfl

set_option maxRecDepth 100000 in
set_option maxHeartbeats 4000000 in
theorem ref_split (l : List UInt8) (w : World) (hl : l.length ≤ 1099511627776) :
    Calls Try.prog 48 #[str l] w fun r w' => ∃ v, r = .returned (.tuple #[v, .int .i64 (splitP l).1]) ∧ OwnTri w 83 v (splitP l).2 w' ∧ Chg Nothing w w' := by
  obtain ⟨i0, hi, hz0, hz1, hz2⟩ := info_parts info_rpiece
  obtain ⟨⟨E, PS⟩, hE⟩ : ∃ r, r = splitP l := ⟨_, rfl⟩
  rw [← hE]
  have HE := Lib.hid hE
  clear hE
  go_enter Try.func48, Try.ntmps48
  go_wp2_with fail
  go_loopw [0, 4] (fun s v wr => ∃ (f : Nat) (l' : List UInt8) (acc : List Pc), s = str l' ∧ OwnTri w 83 v acc wr ∧ l'.length ≤ f ∧ runP f l' acc = (E, PS) ∧ acc.length + l'.length ≤ 1099511627776 ∧ Chg Nothing w wr) (fun s _ _ => elemSize s)
  case atStart => exact ⟨l.length, l, [], rfl, ⟨⟨rfl, .inr ⟨w.heap.size, 0, #[], rfl, Nat.zero_le _, heap_alloc_new w _, Nat.le_refl _, by unfold maxLen; omega, rfl, rfl⟩⟩, fun k hk => by simp [Value.ownBlock] at hk; omega⟩, Nat.le_refl _, HE.out.symm, by simpa using hl, (Chg.refl _ _).alloc _⟩
  case round =>
    obtain ⟨f, l', acc, rfl, hown, hf, hrun, hacc, hch⟩ := hrel
    have Hrun := Lib.hid hrun
    clear hrun
    by_cases hl' : l' = []
    · subst hl'
      have hrun := Hrun.out
      have hr0 : runP f [] acc = (0, acc) := by cases f <;> simp [runP]
      rw [hr0] at hrun
      simp only [Prod.mk.injEq] at hrun
      have H12 := Lib.hid hrun
      clear hrun hr0
      go_wp2
      go_ret2
      exact ⟨_, by rw [← H12.out.1]; rfl, by rw [← H12.out.2]; exact hown, hch⟩
    · have hb : (!l'.isEmpty) = true := by simpa using hl'
      obtain ⟨f0, rfl⟩ : ∃ f0, f = f0 + 1 := ⟨f - 1, by have := List.length_pos_iff.2 hl'; omega⟩
      have hrun := Hrun.out
      unfold runP at hrun
      rw [if_neg hl'] at hrun
      have Hrun2 := Lib.hid hrun
      clear hrun
      by_cases hlen : l'.length < 4
      · have i1 : (l'.length : Int) < 4 := by omega
        have e1 : stepE l' = 2 := by unfold stepE; rw [if_pos hlen]
        have hrun := Hrun2.out
        rw [if_neg (by rw [e1]; decide), e1] at hrun
        simp only [Prod.mk.injEq] at hrun
        have H12 := Lib.hid hrun
        clear hrun e1
        go_wp2
        go_ret2
        exact ⟨.slice none 0 0, by rw [← H12.out.1]; rfl, by rw [← H12.out.2]; exact OwnTri.nil _ _ _, hch⟩
      · obtain ⟨b0, b1, b2, b3, rest, rfl⟩ := four l' hlen
        have hA : hdA (b0 :: b1 :: b2 :: b3 :: rest) = b0.toNat := by simp [hdA, getN]
        have hK : hdK (b0 :: b1 :: b2 :: b3 :: rest) = b1.toNat := by simp [hdK, getN]
        obtain ⟨nn, hnn⟩ : ∃ nn : Nat, nn = hdN (b0 :: b1 :: b2 :: b3 :: rest) := ⟨_, rfl⟩
        have hN2 : getN [b2, b3] = nn := by rw [hnn]; simp [hdN]
        have hnn65 : nn < 65536 := by rw [hnn]; exact hd_lt _ 2
        obtain ⟨a, ha⟩ : ∃ a : Nat, a = b0.toNat := ⟨_, rfl⟩
        obtain ⟨kd, hkd⟩ : ∃ kd : Nat, kd = b1.toNat := ⟨_, rfl⟩
        have ha256 : a < 256 := by rw [ha]; exact b0.toNat_lt
        have hkd256 : kd < 256 := by rw [hkd]; exact b1.toNat_lt
        rw [← ha] at hA
        rw [← hkd] at hK
        have q0 := b0.toNat_lt
        have q1 := b1.toNat_lt
        have HA := Lib.hid hA
        have HK := Lib.hid hK
        have HN := Lib.hid hnn
        have HN2 := Lib.hid hN2
        have Ha := Lib.hid ha
        have Hkd := Lib.hid hkd
        have hlr : (4 : Int) ≤ ((b0 :: b1 :: b2 :: b3 :: rest).length : Int) := by simp; omega
        clear hA hK hnn hN2 ha hkd hlen
        have HSE : Hid (stepE (b0 :: b1 :: b2 :: b3 :: rest) = if a / 32 ≠ 4 then 1 else if ¬ (192 ≤ kd ∧ kd ≤ 223) then 5 else if rest.length < 4 * nn then 2 else 0) := by
          show stepE _ = _
          unfold stepE
          rw [if_neg (by simp), HA.out, HK.out, ← HN.out]
          have e : ((b0 :: b1 :: b2 :: b3 :: rest).length < 4 + 4 * nn) = (rest.length < 4 * nn) := by simp only [List.length_cons]; exact propext ⟨fun h => by omega, fun h => by omega⟩
          simp only [e]
        go_wp2_with fail
        refine (get_any [b2, b3] _ (by simp) (by rw [HN2.out]; omega)).mono ?_
        rintro e w' ⟨rfl, rfl⟩
        rw [HN2.out]
        rw [show (b0.toNat : Int) = (a : Int) from by rw [Ha.out], show (b1.toNat : Int) = (kd : Int) from by rw [Hkd.out]]
        by_cases hver : a / 32 = 4
        · have hvb : ((a : Int) / 32 != 4) = false := by simp; omega
          by_cases hkk : 192 ≤ kd ∧ kd ≤ 223
          · have k0 : (192 : Int) ≤ kd := by omega
            have k1 : (kd : Int) ≤ 223 := by omega
            by_cases hbig : rest.length < 4 * nn
            · have i5 : (rest.length : Int) + 1 + 1 + 1 + 1 < 4 + 4 * nn := by omega
              have e1 : stepE (b0 :: b1 :: b2 :: b3 :: rest) = 2 := by rw [HSE.out, if_neg (by omega), if_neg (by omega), if_pos hbig]
              have hrun := Hrun2.out
              rw [if_neg (by rw [e1]; decide), e1] at hrun
              simp only [Prod.mk.injEq] at hrun
              have H12 := Lib.hid hrun
              clear hrun e1
              go_wp2
              go_ret2
              exact ⟨.slice none 0 0, by rw [← H12.out.1]; rfl, by rw [← H12.out.2]; exact OwnTri.nil _ _ _, hch⟩
            · have i5 : 4 + 4 * (nn : Int) ≤ (rest.length : Int) + 1 + 1 + 1 + 1 := by omega
              have e1 : stepE (b0 :: b1 :: b2 :: b3 :: rest) = 0 := by rw [HSE.out, if_neg (by omega), if_neg (by omega), if_neg hbig]
              have hrun := Hrun2.out
              rw [if_pos e1] at hrun
              have Hr3 := Lib.hid hrun
              clear hrun e1
              go_wp2_with (at_builtin; refine wpList_append_src _ (by rfl) (.tmp 38) (.tmp 47) _ _ (by rfl) 83 i0 _ 3 32 Try.underlying76 hi hz0 hz1 hz2 rfl (by omega) u4 _ _ (by rfl) (hown.1.alloc _) _ 1 (triCells ((a : Int) % 32, (kd : Int), rest.take (4 * nn))) (by rfl) (Src.ofSlice _ Try.underlying76 _ 1 1 _ (by rfl) (World.news_of_block (cs := (triCells ((a : Int) % 32, (kd : Int), rest.take (4 * nn))).toArray) (t := 83) (fr := (0, 0)) (heap_alloc_new wr _)) (tri_one _)) (by unfold maxLen; simp at hacc; omega) (by simp at hacc; omega) ?_; intro A2 c2 w2 hown2 hgrow hat _)
              have hcg : Chg (fun q => u4.ownBlock = some q) wr w2 := ((Chg.refl _ _).alloc _).grown hgrow (fun q hq _ => hq)
              have hs := hch.size
              have hown3 := OwnTri.push (w := wr) (wx := wr.alloc (.cells (triCells ((a : Int) % 32, (kd : Int), rest.take (4 * nn))).toArray 83)) (h := hown) (by simp; omega) hown2 rfl (by simpa using hat)
              have hch2 : Chg Nothing w w2 := hch.step hcg (fun i hi e => by have := hown.2 i e; omega)
              have e2 : List.take (rest.length + 1 + 1 + 1 + 1 - (4 + 4 * nn)) (List.drop (4 + 4 * nn) (b0 :: b1 :: b2 :: b3 :: rest)) = stepR (b0 :: b1 :: b2 :: b3 :: rest) := by
                unfold stepR; rw [← HN.out]; exact List.take_of_length_le (by rw [List.length_drop]; simp)
              have e3 : stepV (b0 :: b1 :: b2 :: b3 :: rest) = ((a : Int) % 32, (kd : Int), rest.take (4 * nn)) := by
                unfold stepV; rw [HA.out, HK.out, ← HN.out]; simp
              have hlt2 := stepR_lt (b0 :: b1 :: b2 :: b3 :: rest) (by simp)
              have hr3 := Hr3.out
              rw [e3] at hr3
              go_roundw
              case rel => exact ⟨f0, stepR (b0 :: b1 :: b2 :: b3 :: rest), _, val_str e2, hown3, by omega, hr3, by rw [List.length_append]; simp only [List.length_cons, List.length_nil] at hacc hlt2 ⊢; omega, hch2⟩
              case measure => rw [e2]; simpa [elemSize, strSize] using hlt2
          · have e1 : stepE (b0 :: b1 :: b2 :: b3 :: rest) = 5 := by rw [HSE.out, if_neg (by omega), if_pos hkk]
            have hrun := Hrun2.out
            rw [if_neg (by rw [e1]; decide), e1] at hrun
            simp only [Prod.mk.injEq] at hrun
            have H12 := Lib.hid hrun
            clear hrun e1
            by_cases h192 : kd < 192
            · have i6 : (kd : Int) < 192 := by omega
              clear hkk
              go_wp2
              go_ret2
              exact ⟨.slice none 0 0, by rw [← H12.out.1]; rfl, by rw [← H12.out.2]; exact OwnTri.nil _ _ _, hch⟩
            · have i6 : (192 : Int) ≤ kd := by omega
              have i7 : (223 : Int) < kd := by omega
              clear hkk
              go_wp2
              go_ret2
              exact ⟨.slice none 0 0, by rw [← H12.out.1]; rfl, by rw [← H12.out.2]; exact OwnTri.nil _ _ _, hch⟩
        · have hvb : ((a : Int) / 32 != 4) = true := by simp; omega
          have e1 : stepE (b0 :: b1 :: b2 :: b3 :: rest) = 1 := by rw [HSE.out, if_pos (by omega)]
          have hrun := Hrun2.out
          rw [if_neg (by rw [e1]; decide), e1] at hrun
          simp only [Prod.mk.injEq] at hrun
          have H12 := Lib.hid hrun
          clear hrun e1
          go_wp2
          go_ret2
          exact ⟨.slice none 0 0, by rw [← H12.out.1]; rfl, by rw [← H12.out.2]; exact OwnTri.nil _ _ _, hch⟩
end Go.Proofs.Ytiehcdcimllooaa
