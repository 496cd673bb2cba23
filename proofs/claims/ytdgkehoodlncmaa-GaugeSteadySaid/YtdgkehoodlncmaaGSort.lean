
/- slices.Sort, slices.Collect over slices.Values, slices.Sorted, at numbers: as contracts of R. -/
import Derived.Sort.OwnSortedInts
import Derived.Test.YtdgkehoodlncmaaShelf
import Derived.Test.YtdgkehoodlncmaaGHalf
import Derived.Test.YtdgkehoodlncmaaRN
namespace Go.Proofs.Ytdgkehoodlncmaa
open Go.RowKit
set_option linter.unusedVariables false
set_option linter.unusedSimpArgs false

abbrev nEl (z : Int) : List V := [vi z]
def srt (zs : List Int) : List Int := zs.mergeSort fun x y => decide (x ≤ y)
theorem srt_len (zs : List Int) : (srt zs).length = zs.length := List.length_mergeSort _
set_option maxRecDepth 100000 in
theorem srt_row (blk cap : Nat) (zs : List Int) (hzl : zs.length ≤ 1000000000) (w : World) (h : w.ownsRow 0 3 1 (.slice (some ⟨blk, 0, none⟩) zs.length cap) zs.length (zs.map (Value.int .i64))) :
    Calls Try.prog 100 #[.slice (some ⟨blk, 0, none⟩) zs.length cap] w fun e w' => e = .returned (.tuple #[]) ∧ w'.ownsRow 0 3 1 (.slice (some ⟨blk, 0, none⟩) zs.length cap) zs.length ((srt zs).map (Value.int .i64)) ∧ Chg (fun b => b = blk) w w' := by
  rcases h.2 with ⟨h1, _⟩ | ⟨g, cap', cur, h1, hbase, hb, r1, r2, r3, r4⟩
  · cases h1
  · cases h1
    have hlt : blk < w.heap.size := (Array.getElem?_eq_some_iff.1 hb).1
    refine (Try.slices_Sort_int blk 0 cap zs w (holds_of_blockI hb (by simpa using r4)) hlt (by omega)).mono ?_
    rintro e w' ⟨rfl, n, os, rfl⟩
    refine ⟨rfl, ownsRow_sortedI (srt_len zs) hbase hb r1 r2 r3, (Chg.refl _ _).grown (grownBy_sortedI _) (fun k hk _ => by cases hk; rfl)⟩
section
variable {ops : Array Oper} {C : Ctx} {σ : St} {md : Bool} {K : St → List FP → Prop} {acc : List FP} {rest : List Oper}
set_option maxRecDepth 100000 in
theorem ok_sort {d : Tmp} {x : Operand} {tys : Array TypeId} {k : Id} {zs : List Int} (hx : ev σ x = .ref k (gh σ k)) (hr : σ (.r k) = .tree (.rw 3 1 (zs.map nEl))) (hl : noLent (σ (.l k))) (h0 : zs ≠ []) (hzl : zs.length ≤ 1000000000) (ty : TypeId) (pos : String) (af : Array Edge) :
    OpOk Try.prog ops C ⟨some d, .call { callee := .value (.func 100), args := #[x], argTypes := tys }, ty, pos, af, none⟩ (rds σ ([.h k, .g k, .r k, .l k] ++ rdl x)) (setTW σ k (.rw 3 1 ((srt zs).map nEl)) ++ [(.s d, .av (.val (.tup [])))]) := by
  intro E σ' a w Kt Q hd hr' hg hK'
  have hr1 := rds_all hr'
  have hd0 := hd d rfl
  obtain ⟨q1, q2⟩ := mem_l hr1
  have hrk : σ' (.r k) = .tree (.rw 3 1 (zs.map nEl)) := by rw [q1 _ (by simp)]; exact hr
  have hlk : noLent (σ' (.l k)) := by rw [q1 (.l k) (by simp)]; exact hl
  have hv := ev_ok hg x
  rw [ev_congr q2, hx] at hv
  have hv := hv.2 (gh_of (q1 (.h k) (by simp))).symm
  obtain ⟨us, u1, u2, u3, u4, u5⟩ := tree_row hg hrk
  have hus : us = zs.map (Value.int .i64) := by
    apply List.ext_getElem?
    intro j
    by_cases hj : j < zs.length
    · obtain ⟨u, k1, k2⟩ := u3 j 0 (by simpa using hj) (by simp)
      simp at k1 k2
      rw [k1, Rd.sc_eq k2]
      simp [hj]
    · rw [List.getElem?_eq_none (by rw [u1.1]; simp; omega), List.getElem?_eq_none (by simp; omega)]
  rw [hus, List.length_map] at u1
  rcases own_bv u1 with ⟨p1, p2⟩ | ⟨b, cap, p1, p2⟩
  · exact absurd (List.eq_nil_of_length_eq_zero p2) h0
  rw [p1] at u1 hv
  have hrun : (execOp a.eval ⟨some d, .call { callee := .value (.func 100), args := #[x], argTypes := tys }, ty, pos, af, none⟩).run Try.prog w = .ok (.enter 100 #[.slice (some ⟨b, 0, none⟩) zs.length cap]) w := by
    rw [← hv]
    simp [execOp, resolve, Act.eval, Deferred.ofValue, invoke, Try.call100]
  rw [if_pos (by simp [Region.wanted])]
  show Oper.upon _ _ _ _ _ _
  rw [hrun]
  show Calls _ _ _ _ _
  refine (srt_row b cap zs hzl w u1).mono ?_
  rintro e w' ⟨rfl, hown, hch⟩
  show Kt (a.put (some d) _) w'
  have hob : (E.bv k).ownBlock = some b := by rw [p1]; rfl
  have hh : Hg E.m w' [.rw 3 1 ((srt zs).map nEl)] [E.bv k] (E.bv k).ownBlock.toList := by
    rw [p1]
    refine rw_mk (by rw [List.length_map, srt_len]; exact hown) (fun r h => by obtain ⟨z, _, rfl⟩ := List.mem_map.1 h; rfl) (fun i j hi hj => ?_) (fun b' hb' => u4 b' (by rw [p1]; exact hb'))
    simp at hi hj
    subst hj
    exact ⟨.int .i64 ((srt zs)[i]), by simp [hi], by simp; exact Rd.sc _⟩
  have hbF : b ∈ E.bf k := by rw [u5, hob]; simp
  obtain ⟨E', g1, g2, _, g4⟩ := hg.setT k _ _ _ w' hrk (fun ys h => by cases h) (fun y h => by cases h) (fun ys h => by cases h) hh (fun i hi => .inl (by rw [u5]; exact hi)) (hch.mono fun i _ hi => by rw [hi]; exact hbF) (fun i y h => by rw [h] at hlk; exact hlk.elim)
  have e0 : setTW σ k (.rw 3 1 ((srt zs).map nEl)) = setTW σ' k (.rw 3 1 ((srt zs).map nEl)) := by unfold setTW; rw [gg_of (q1 (.g k) (by simp))]
  refine hK' _ _ E' ?_
  rw [e0, puts_append]
  exact Gm.slot g1 d (.val (.tup [])) _ hd0 (Rd.tup [] #[] rfl fun i hi => by simp at hi)
set_option maxRecDepth 100000 in
/-- A row of numbers is sorted where it is. -/
theorem sort_s {d : Tmp} {x : Operand} {tys : Array TypeId} {ty : TypeId} {pos : String} {af : Array Edge} (k : Id) (zs : List Int) (hx : ev σ x = .ref k (gh σ k)) (hr : σ (.r k) = .tree (.rw 3 1 (zs.map nEl))) (hl : noLent (σ (.l k))) (h0 : zs ≠ []) (hzl : zs.length ≤ 1000000000)
    (h : exec Try.prog ops C md K rest (puts σ (setTW σ k (.rw 3 1 ((srt zs).map nEl)) ++ [(.s d, .av (.val (.tup [])))])) (([.h k, .g k, .r k, .l k] ++ rdl x, locs (setTW σ k (.rw 3 1 ((srt zs).map nEl)) ++ [(.s d, .av (.val (.tup [])))])) :: acc)) :
    Run Try.prog ops C md K (⟨some d, .call { callee := .value (.func 100), args := #[x], argTypes := tys }, ty, pos, af, none⟩ :: rest) σ acc :=
  run_cons (ok_sort hx hr hl h0 hzl ty pos af) (exec_run h)
end
set_option maxRecDepth 100000 in
theorem q_values (zs : List Int) : Spec Try.prog 130 [.ca (.val (.lst 1 (zs.map nEl)))] [] (.fn 148 [.ptr 0 0]) [[.val (.lst 1 (zs.map nEl))]] := by
  refine spec_of Try.func130 rfl Try.ntmps130 Try.results130 ⟨by decide, by simp⟩ fun C hC => ?_
  (repeat' ((first | refine aw_seq ?_ | refine aw_block ?_ | refine aw_reg hC (by kernel_rfl) ?_ | refine aw_regd hC Try.checked.mixed (by kernel_rfl) ?_ | refine chk_and (by kernel_rfl) ?_ | refine aw_skip ?_ | refine aw_if ?_ | refine And.intro (by first | omega | with_reducible assumption) ?_ | refine aw_exit ?_ | refine aw_ret ?_ | (simp (decide := true) (disch := omega) only [go_sem, ↓reduceIte, ↓put_at]) | refine condK_eq (fun h => ?_) (fun h => ?_) | refine condK_dec (fun h => ?_) (fun h => ?_) | refine condK_if (fun h => ?_) (fun h => ?_) | (refine ret_s [(1, 0)] ?_; simp (decide := true) (disch := omega) only [go_sem, ↓reduceIte, ↓put_at]))))
set_option maxRecDepth 100000 in
theorem q_collect (zs : List Int) (hzl : zs.length ≤ 1000000) (hz0 : zs ≠ []) : Spec Try.prog 147 [.fn 148 [.ptr 0 0]] [[.val (.lst 1 (zs.map nEl))]] (.ca (.hd (.rw 3 1 (zs.map nEl)))) [[.val (.lst 1 (zs.map nEl))]] := by
  intro m w vals bs F G H
  obtain ⟨hms, har, hob, hdi⟩ := H
  cases har with
  | @cons _ v F0 _ vs F1 q1 q2 q3 =>
    cases q2
    obtain ⟨⟨ys, rfl, hyl, hy⟩, rfl⟩ := q1
    cases hob with
    | @cons b cs ws ty F2 bs' objs F3 o1 o2 o3 o4 o5 o6 =>
      cases o5
      cases o3 with
      | @cons _ sv F4 _ vs2 F5 r1 r2 r3 =>
        cases r2
        obtain ⟨r1, rfl⟩ := r1
        match ys, hyl with
        | [y], _ =>
          obtain ⟨b', e1, rfl⟩ := hy 0 _ y rfl rfl
          simp at e1
          subst e1
          have hcell : w.cell? ⟨b, 0, none⟩ = some sv := by simp [World.cell?, o1]
          have hbl : b < w.heap.size := World.block_lt_of_cell? w _ hcell
          have hI : gv_Ints w.heap.size w sv zs := by
            obtain ⟨A, cap, h2, h3, h4, h5, xs, h6, h7, h8⟩ := rd_cells r1
            have hpos : 0 < zs.length := List.length_pos_iff.2 hz0
            obtain ⟨u0, k1, k2⟩ := h7 0 0 (by simpa using hpos) (by simp)
            obtain ⟨b2, o2', rfl, k3⟩ := h8 _ _ k1
            rw [List.length_map] at h2
            refine .inr ⟨b2, o2', cap, h2, World.block_lt_of_cell? w _ (hms _ _ _ k3), fun j hj => ?_⟩
            obtain ⟨u, k4, k5⟩ := h7 j 0 (by simpa using hj) (by simp)
            obtain ⟨b3, o3', e3, k6⟩ := h8 _ _ k4
            cases e3
            simp at k4 k5 k6
            rw [hms _ _ _ k6, Rd.sc_eq k5]
            simp [hj]
          let F : Fence := { fn := fun _ => True }
          have hcall := (gv_collect_in F 4 trivial trivial trivial rfl (Nat.le_refl _) b sv zs (by omega) w hbl hcell hI).calls (fun k d hd => by cases hd)
          refine Calls.mono hcall ?_
          rintro e w' ⟨v, rfl, hown, hbel⟩
          have hnew : ∀ b', v.ownBlock = some b' → w.heap.size ≤ b' := fun b' hb' => by
            rcases hown.2 with ⟨rfl, _⟩ | ⟨g, c2, cur, rfl, hge, _⟩
            · cases hb'
            · cases hb'; exact hge
          have hown0 : w'.ownsRow 0 3 1 v (zs.map nEl).length (zs.map (Value.int .i64)) := by
            rw [List.length_map]
            exact ⟨hown.1, hown.2.imp id fun ⟨g, c2, cur, k1, _, k3⟩ => ⟨g, c2, cur, k1, Nat.zero_le _, k3⟩⟩
          have hmn : ∀ b', v.ownBlock = some b' → ∀ i, m b' i = none := fun b' hb' i => by
            cases hm : m b' i with
            | none => rfl
            | some u => have := World.block_lt_of_cell? w _ (hms _ _ _ hm); have := hnew b' hb'; simp at *; omega
          have hh : Hg m w' [.rw 3 1 (zs.map nEl)] [v] v.ownBlock.toList := rw_mk hown0 (fun r h => by obtain ⟨z, _, rfl⟩ := List.mem_map.1 h; rfl) (fun i j hi hj => by
            simp at hi hj
            subst hj
            exact ⟨.int .i64 zs[i], by simp [hi], by simp; exact Rd.sc _⟩) hmn
          have hms' : ∀ b i v, m b i = some v → w'.cell? ⟨b, i, none⟩ = some v := fun b i v h => by
            have h1 := hms _ _ _ h
            rw [hbel.cell (p := ⟨b, i, none⟩) (World.block_lt_of_cell? w _ h1)]; exact h1
          have hb' : w'.heap[b]? = some (.cells #[sv] ty (0, 0)) := by rw [hbel.block b hbl]; simpa using o1
          refine ⟨v, m, [b], v.ownBlock.toList ++ [], [b] ++ [], rfl, ⟨hms', .cons ⟨hh, fun y h => by cases h⟩ .nil (fun b hb => by simp), .cons (vs := [sv]) hb' o2 (.cons (F := []) (F' := []) ⟨r1, rfl⟩ .nil (fun b hb => by simp at hb)) (by simp) .nil (by simp), ?_⟩, Mem.le_refl m, (Chg.ofBelow hbel).mono fun i hi h => by omega, fun i b' h => h, fun b i _ _ => rfl, ?_⟩
          · intro b' hb' hb2
            simp at hb' hb2
            have := hnew b' hb'
            omega
          · intro b' hb'
            simp at hb'
            rcases hb' with hb' | rfl
            · exact .inr (hnew b' hb')
            · exact .inl (by simp)
set_option maxRecDepth 100000 in
theorem q_sorted (zs : List Int) (hzl : zs.length ≤ 1000000) (hz0 : zs ≠ []) : Spec Try.prog 129 [.fn 148 [.ptr 0 0]] [[.val (.lst 1 (zs.map nEl))]] (.ca (.hd (.rw 3 1 ((srt zs).map nEl)))) [[.val (.lst 1 (zs.map nEl))]] := by
  have c := q_collect zs hzl hz0
  refine spec_of Try.func129 rfl Try.ntmps129 Try.results129 ⟨by decide, by simp⟩ fun C hC => ?_
  (repeat' ((first | refine aw_seq ?_ | refine aw_block ?_ | refine aw_reg hC (by kernel_rfl) ?_ | refine aw_regd hC Try.checked.mixed (by kernel_rfl) ?_ | refine chk_and (by kernel_rfl) ?_ | refine aw_skip ?_ | refine aw_if ?_ | refine And.intro (by first | omega | with_reducible assumption) ?_ | refine aw_exit ?_ | refine aw_ret ?_ | (simp (decide := true) (disch := omega) only [go_sem, ↓reduceIte, ↓put_at]) | refine call_u Try.call147 (c) [(1000, 0)] (by simp (decide := true) (disch := omega) only [go_sem, ↓reduceIte, ↓put_at]; first | done | assumption | omega) ?_ | (refine ret_s [] ?_; simp (decide := true) (disch := omega) only [go_sem, ↓reduceIte, ↓put_at]))))
  refine sort_s (5, 1) zs (by simp (decide := true) (disch := omega) only [go_sem, ↓reduceIte, ↓put_at]) (by simp (decide := true) (disch := omega) only [go_sem, ↓reduceIte, ↓put_at]) (by simp (decide := true) (disch := omega) only [go_sem, ↓reduceIte, ↓put_at]) hz0 (by omega) ?_
  (repeat' ((first | refine aw_seq ?_ | refine aw_block ?_ | refine aw_reg hC (by kernel_rfl) ?_ | refine aw_regd hC Try.checked.mixed (by kernel_rfl) ?_ | refine chk_and (by kernel_rfl) ?_ | refine aw_skip ?_ | refine aw_if ?_ | refine And.intro (by first | omega | with_reducible assumption) ?_ | refine aw_exit ?_ | refine aw_ret ?_ | (simp (decide := true) (disch := omega) only [go_sem, ↓reduceIte, ↓put_at]) | (refine ret_s [] ?_; simp (decide := true) (disch := omega) only [go_sem, ↓reduceIte, ↓put_at]))))
set_option maxRecDepth 100000 in
theorem q_half (zs : List Int) (hzl : zs.length ≤ 1000000) (hz0 : 0 < zs.length) (h : (zs.length - 1) / 2 < (srt zs).length) : Spec Try.prog 90 [.ca (.val (.lst 1 (zs.map nEl)))] [] (.ca (.val (vi ((srt zs)[(zs.length - 1) / 2])))) [] := by
  have c1 := q_values zs
  have c2 := q_sorted zs hzl (List.length_pos_iff.1 hz0)
  have hl := srt_len zs
  generalize srt zs = ss at *
  have hge : (ss.map nEl).getD ((zs.length - 1) / 2) [] = nEl ss[(zs.length - 1) / 2] := by simp [h]
  refine spec_of Try.func90 rfl Try.ntmps90 Try.results90 ⟨by decide, by simp⟩ fun C hC => ?_
  (repeat' ((first | refine aw_seq ?_ | refine aw_block ?_ | refine aw_reg hC (by kernel_rfl) ?_ | refine aw_regd hC Try.checked.mixed (by kernel_rfl) ?_ | refine chk_and (by kernel_rfl) ?_ | refine aw_skip ?_ | refine aw_if ?_ | refine And.intro (by first | omega | with_reducible assumption) ?_ | refine aw_exit ?_ | refine aw_ret ?_ | (simp (decide := true) (disch := omega) only [go_sem, ↓reduceIte, ↓put_at]) | refine call_u Try.call130 (c1) [] (by simp (decide := true) (disch := omega) only [go_sem, ↓reduceIte, ↓put_at]; first | done | assumption | omega) ?_ | refine call_u Try.call129 (c2) [(7, 0)] (by simp (decide := true) (disch := omega) only [go_sem, ↓reduceIte, ↓put_at]; first | done | assumption | omega) ?_ | (refine ret_s [] ?_; simp (decide := true) (disch := omega) only [go_sem, ↓reduceIte, ↓put_at]))))
  have e : (((ss.length : Int) - 1) / 2).toNat = (zs.length - 1) / 2 := by omega
  simp only [e]
end Go.Proofs.Ytdgkehoodlncmaa
