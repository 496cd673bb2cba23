
/- Packages split and buffer: another one like it; walked; with the library's maps.Clone, a contract of the kit, laid at this program by hand. -/
import Derived.Shelf.SlMaps.Clone
import Derived.Test.YtekpaepkoeelfaaRC
import Derived.Test.YtekpaepkoeelfaaBuf3
namespace Go.Proofs.Ytekpaepkoeelfaa
open Go.Shelf Go.RowKit
def mcl_ren : Go.Shelf.Ren := ⟨fun | 5 => 54 | 7 => 59 | n => n, fun | 4 => 4 | 20 => 20 | 23 => 97 | 25 => 3 | 3 => 9 | n => n, fun | n => n⟩
theorem mcl_lays : Go.Proofs.SlLaysW.n5 Try.prog mcl_ren := {
  mixed := by kernel_rfl
  f5 := ⟨ "maps.Clone[map[int]string,int,string]", by decide, Try.func54.trans (congrArg some (by kernel_rfl))⟩
  f7 := Try.func59.trans (congrArg some (by kernel_rfl))
  t4 := Try.underlying4
  a4 := Try.isAgg4
  z4 := Try.sizeOf4
  v4 := Try.zeroValue4
  t20 := Try.underlying20
  a20 := Try.isAgg20
  z20 := Try.sizeOf20
  v20 := Try.zeroValue20
  t23 := Try.underlying97
  a23 := Try.isAgg97
  z23 := Try.sizeOf97
  v23 := Try.zeroValue97 }
theorem mcl_clones : ClonesM Try.prog 54 := fun b es clock w hb => Go.Proofs.AnyW.maps_Clone mcl_lays b es clock w hb
end Go.Proofs.Ytekpaepkoeelfaa
namespace Go.Proofs.Ytekpaepkoeelfaa
open Go.RowKit
set_option linter.unusedVariables false
set_option linter.unusedSimpArgs false

theorem kvs_av {ps : List (Nat × List UInt8)} {kvs : List (Value × T)} (hp : kvs.Perm (kvF ps)) : ∀ p ∈ kvs, ∃ y, p.2 = .av y := fun p h => by
  obtain ⟨q, _, rfl⟩ := List.mem_map.1 ((hp.mem_iff).1 h)
  exact ⟨_, rfl⟩
set_option maxRecDepth 100000 in
set_option maxHeartbeats 8000000 in
theorem spl_clone (f : Fr) : Spec Try.prog 38 [.ptr 0 0] [frO f] (.ptr 1 0) [frO f, frO f] := by
  refine spec_of Try.func38 rfl Try.ntmps38 Try.results38 ⟨by decide, by simp⟩ fun C hC => ?_
  (repeat' ((fail_if_success (first | refine stop_at 1 ?_ | refine stop_l 1 ?_)); (first | refine sp_ ?_ | exact ex0 | (refine ret_s [] ?_; simp (decide := true) (disch := omega) only [go_sem, ↓reduceIte, ↓put_at]))))
  refine aw_seq ?_
  refine aw_regR hC (by kernel_rfl) ?_
  refine run_1 (c := True) (by simp (decide := true) (disch := omega) only [go_sem, ↓reduceIte, ↓put_at]; exact ⟨rfl, rfl⟩) trivial ?_
  refine run_1 (by simp (decide := true) (disch := omega) only [go_sem, ↓reduceIte, ↓put_at]; first | exact ⟨rfl, rfl⟩ | exact ⟨rfl, rfl, rfl⟩) (by simp (decide := true) (disch := omega) only [go_sem, ↓reduceIte, ↓put_at]) ?_
  refine ldA_s (1000, 0) 0 5 _ ti99 rfl (by simp (decide := true) (disch := omega) only [go_sem, ↓reduceIte, ↓put_at]) (by simp (decide := true) (disch := omega) only [go_sem, ↓reduceIte, ↓put_at]) (by simp (decide := true) (disch := omega) only [go_sem, ↓reduceIte, ↓put_at]) _ rfl (by simp (decide := true) (disch := omega) only [go_sem, ↓reduceIte, ↓put_at]) ?_
  (repeat' ((first | refine sp_ ?_ | exact ex0 | (refine ret_s [] ?_; simp (decide := true) (disch := omega) only [go_sem, ↓reduceIte, ↓put_at]))))
  refine stA_s (3, 0) 1 5 _ _ ti99 (by simp (decide := true) (disch := omega) only [go_sem, ↓reduceIte, ↓put_at]) (by simp (decide := true) (disch := omega) only [go_sem, ↓reduceIte, ↓put_at]; rfl) (by simp (decide := true) (disch := omega) only [go_sem, ↓reduceIte, ↓put_at]) (by simp (decide := true) (disch := omega) only [go_sem, ↓reduceIte, ↓put_at]) ?_
  (repeat' ((fail_if_success (first | refine stop_at 2 ?_ | refine stop_l 2 ?_)); (first | refine sp_ ?_ | exact ex0 | (refine ret_s [] ?_; simp (decide := true) (disch := omega) only [go_sem, ↓reduceIte, ↓put_at]))))
  refine opm_s (1000, 4) (kvF f.ps) (by simp (decide := true) (disch := omega) only [go_sem, ↓reduceIte, ↓put_at]) fun kvs hp => ?_
  have hav := kvs_av hp
  (repeat' ((first | refine sp_ ?_ | exact ex0 | (refine ret_s [] ?_; simp (decide := true) (disch := omega) only [go_sem, ↓reduceIte, ↓put_at]))))
  refine clM_s Try.call54 mcl_clones (1000, 4) kvs (by simp (decide := true) (disch := omega) only [go_sem, ↓reduceIte, ↓put_at]) (by simp (decide := true) (disch := omega) only [go_sem, ↓reduceIte, ↓put_at]) hav ?_
  (repeat' ((fail_if_success (first | refine stop_at 3 ?_ | refine stop_l 3 ?_)); (first | refine sp_ ?_ | exact ex0 | (refine ret_s [] ?_; simp (decide := true) (disch := omega) only [go_sem, ↓reduceIte, ↓put_at]))))
  refine clm_s (1000, 4) kvs (kvF f.ps) hp ⟨by simp (decide := true) (disch := omega) only [go_sem, ↓reduceIte, ↓put_at], ?_⟩
  refine clm_s (11, 1) kvs (kvF f.ps) hp ⟨by simp (decide := true) (disch := omega) only [go_sem, ↓reduceIte, ↓put_at], ?_⟩
  (repeat' ((first | refine sp_ ?_ | exact ex0 | (refine ret_s [(3, 0)] ?_; simp (decide := true) (disch := omega) only [go_sem, ↓reduceIte, ↓put_at]))))
end Go.Proofs.Ytekpaepkoeelfaa
namespace Go.Proofs.Ytekpaepkoeelfaa
open Go.RowKit
set_option linter.unusedVariables false
set_option linter.unusedSimpArgs false

set_option maxRecDepth 100000 in
set_option maxHeartbeats 8000000 in
theorem buf_clone (b : Bu) (hl : b.l.length ≤ 2000) : Spec Try.prog 22 [.ptr 0 0] [buO b] (.ptr 1 0) [buO b, buO b] := by
  obtain ⟨cf, cp, cb, l, hz, pl, dr, ev⟩ := b
  dsimp only at hl
  refine spec_of Try.func22 rfl Try.ntmps22 Try.results22 ⟨by decide, by simp⟩ fun C hC => ?_
  (repeat' ((fail_if_success (first | refine stop_at 1 ?_ | refine stop_l 1 ?_)); (first | refine sp_ ?_ | exact ex0 | (refine ret_s [] ?_; simp (decide := true) (disch := omega) only [go_sem, ↓reduceIte, ↓put_at]))))
  refine aw_seq ?_
  refine aw_regR hC (by kernel_rfl) ?_
  refine run_1 (c := True) (by simp (decide := true) (disch := omega) only [go_sem, ↓reduceIte, ↓put_at]; exact ⟨rfl, rfl⟩) trivial ?_
  refine run_1 (by simp (decide := true) (disch := omega) only [go_sem, ↓reduceIte, ↓put_at]; first | exact ⟨rfl, rfl⟩ | exact ⟨rfl, rfl, rfl⟩) (by simp (decide := true) (disch := omega) only [go_sem, ↓reduceIte, ↓put_at]) ?_
  refine ldA_s (1000, 0) 0 11 _ ti65 rfl (by simp (decide := true) (disch := omega) only [go_sem, ↓reduceIte, ↓put_at]) (by simp (decide := true) (disch := omega) only [go_sem, ↓reduceIte, ↓put_at]) (by simp (decide := true) (disch := omega) only [go_sem, ↓reduceIte, ↓put_at]) _ rfl (by simp (decide := true) (disch := omega) only [go_sem, ↓reduceIte, ↓put_at]) ?_
  (repeat' ((first | refine sp_ ?_ | exact ex0 | (refine ret_s [] ?_; simp (decide := true) (disch := omega) only [go_sem, ↓reduceIte, ↓put_at]))))
  refine stA_s (3, 0) 1 11 _ _ ti65 (by simp (decide := true) (disch := omega) only [go_sem, ↓reduceIte, ↓put_at]) (by simp (decide := true) (disch := omega) only [go_sem, ↓reduceIte, ↓put_at]; rfl) (by simp (decide := true) (disch := omega) only [go_sem, ↓reduceIte, ↓put_at]) (by simp (decide := true) (disch := omega) only [go_sem, ↓reduceIte, ↓put_at]) ?_
  (repeat' ((fail_if_success (first | refine stop_at 3 ?_ | refine stop_l 3 ?_)); (first | refine sp_ ?_ | exact ex0 | (refine ret_s [] ?_; simp (decide := true) (disch := omega) only [go_sem, ↓reduceIte, ↓put_at]))))
  refine tre_c (3, 0) 6 (3, 7) 66 1 (by decide) ?_
  simp (decide := true) (disch := omega) only [go_sem, ↓reduceIte, ↓put_at]
  refine rwN_s (3, 7) 66 1 ⟨by simp (decide := true) (disch := omega) only [go_sem, ↓reduceIte, ↓put_at], ?_⟩
  refine spl_s (1000, 7) (90, 1) l frT 66 ⟨by simp (decide := true) (disch := omega) only [go_sem, ↓reduceIte, ↓put_at], by decide, by decide⟩ fun zs hzl => ?_
  have hlz : zs.length = l.length := by rw [← hzl, List.length_map]
  (repeat' ((fail_if_success (first | refine stop_at 4 ?_ | refine stop_l 4 ?_)); (first | refine sp_ ?_ | exact ex0 | (refine ret_s [] ?_; simp (decide := true) (disch := omega) only [go_sem, ↓reduceIte, ↓put_at]))))
  refine loop_s (α := {i : Nat // i ≤ l.length}) (fun i => [(.o (1000, 0), .num 11), (.c (1000, 0) 0, .av (.val (vi cf))), (.c (1000, 0) 1, .av (.val (vi cp))), (.c (1000, 0) 2, .av (.val (vi cb))), (.c (1000, 0) 3, .av (.val (vi l.length))), (.c (1000, 0) 4, .av (.val (vi (pkts l)))), (.c (1000, 0) 5, .av (.val (vi (bts l)))), (.c (1000, 0) 6, .av (.ref (1000, 7) 0)), (.c (1000, 0) 7, .av (.val (vi hz))), (.c (1000, 0) 8, .av (.val (vi pl))), (.c (1000, 0) 9, .av (.val (vi dr))), (.c (1000, 0) 10, .av (.val (vi ev))), (.r (1000, 7), .tree (.rw 66 1 (zs.map fun z => [V.sc (pw z.1)]))), (.o (3, 0), .num 11), (.c (3, 0) 0, .av (.val (vi cf))), (.c (3, 0) 1, .av (.val (vi cp))), (.c (3, 0) 2, .av (.val (vi cb))), (.c (3, 0) 3, .av (.val (vi l.length))), (.c (3, 0) 4, .av (.val (vi (pkts l)))), (.c (3, 0) 5, .av (.val (vi (bts l)))), (.c (3, 0) 6, .av (.ref (3, 7) 0)), (.c (3, 0) 7, .av (.val (vi hz))), (.c (3, 0) 8, .av (.val (vi pl))), (.c (3, 0) 9, .av (.val (vi dr))), (.c (3, 0) 10, .av (.val (vi ev))), (.r (3, 7), .tree (.row 66 1 ((l.take i.1).map fun f => [T.box (frT f)]))), (.r (90, 1), .tree (.bag (zs.map fun z => (pw z.1, T.box (frT z.2))))), (.s 0, .av (.ptr (1000, 0) 0 0)), (.s 3, .av (.ptr (3, 0) 0 0)), (.s 13, .av (.ref (1000, 7) 0)), (.s 14, .av (.val (vi l.length))), (.s 15, .av (.val (vi i.1)))]) (fun i => l.length - i.1) ⟨0, Nat.zero_le _⟩ ?_ (fun i => ?_)
  · rw [List.take_zero, List.map_nil]
    simp (decide := true) (disch := omega) only [go_sem, ↓reduceIte, ↓put_at]
    omega
  obtain ⟨i, hi⟩ := i
  dsimp only at hi ⊢
  by_cases hlt : i < l.length
  · have hltz : (i : Int) < l.length := by omega
    obtain ⟨b0, hb0⟩ := zs_at hzl hlt
    obtain ⟨j1, j2, j3, j4, j5⟩ := zs_set hb0
    have cc := spl_clone l[i]
    refine opn_s hC (90, 1) 25 i [18, 4] [] (pw b0) (zs.map fun z => (pw z.1, T.box (frT z.2))) ((zs.map fun z => (pw z.1, T.box (frT z.2))).set i (pw b0, .av .any)) (frT l[i]) j1 rfl ⟨rfl, rfl⟩ ⟨by simp (decide := true) (disch := omega) only [go_sem, ↓reduceIte, ↓put_at], ?_⟩
    (repeat' ((first | refine sp_ ?_ | exact ex0 | refine call_u Try.call38 (cc) [(25, 0)] ex1 ?_ | (refine ret_s [] ?_; simp (decide := true) (disch := omega) only [go_sem, ↓reduceIte, ↓put_at]))))
    refine ⟨⟨by omega, by rw [(List.getElem?_eq_some_iff.1 hb0).2]⟩, ?_⟩
    (repeat' ((first | refine sp_ ?_ | exact ex0 | refine call_u Try.call38 (cc) [(25, 0)] ex1 ?_ | (refine ret_s [] ?_; simp (decide := true) (disch := omega) only [go_sem, ↓reduceIte, ↓put_at]))))
    refine bldL_s (22, 0) 1 _ _ ti63 ⟨rfl, rfl⟩ ti66 ⟨rfl, rfl⟩ (by simp (decide := true) (disch := omega) only [go_sem, ↓reduceIte, ↓put_at]) (by simp (decide := true) (disch := omega) only [go_sem, ↓reduceIte, ↓put_at]) (by decide) ?_
    (repeat' ((first | refine sp_ ?_ | exact ex0 | (refine ret_s [] ?_; simp (decide := true) (disch := omega) only [go_sem, ↓reduceIte, ↓put_at]))))
    have htl : (l.take i).length = i := by rw [List.length_take]; omega
    refine appL_s (3, 7) (23, 1) (22, 0) 1 ((l.take i).map fun f => [T.box (frT f)]) _ _ _ ti63 ⟨rfl, rfl⟩ ti66 ⟨rfl, rfl, rfl, rfl⟩ ti63 rfl (by simp (decide := true) (disch := omega) only [go_sem, ↓reduceIte, ↓put_at]) (by simp (decide := true) (disch := omega) only [go_sem, ↓reduceIte, ↓put_at]) (by simp (decide := true) (disch := omega) only [go_sem, ↓reduceIte, ↓put_at]) ⟨_, by simp (decide := true) (disch := omega) only [go_sem, ↓reduceIte, ↓put_at]; rfl⟩ (by simp (decide := true) (disch := omega) only [go_sem, ↓reduceIte, ↓put_at]) (by simp (decide := true) (disch := omega) only [go_sem, ↓reduceIte, ↓put_at]) (by rw [List.length_map]; omega) (by decide) ?_
    simp (decide := true) (disch := omega) only [go_sem, ↓reduceIte, ↓put_at]
    refine gvL_s (3, 7) (22, 0) (l.take i).length 66 ((l.take i).map (fun f => T.box (frT f)) ++ [.av .any]) ((l.take i).map (fun f => [T.box (frT f)]) ++ [[.av .any]]) ((l.take (i + 1)).map fun f => [T.box (frT f)]) .any (frT l[i]) (by simp) (by rw [List.map_append, List.map_map]; rfl) (by rw [List.take_succ_eq_append_getElem hlt, List.map_append, List.set_append_right _ _ (by simp), List.map_append, List.map_map]; simp; rfl) ⟨by simp (decide := true) (disch := omega) only [go_sem, ↓reduceIte, ↓put_at], ?_⟩
    simp (decide := true) (disch := omega) only [go_sem, ↓reduceIte, ↓put_at]
    refine cls_s hC (90, 1) (25, 0) i 4 [] (pw b0) ((zs.map fun z => (pw z.1, T.box (frT z.2))).set i (pw b0, .av .any)) (zs.map fun z => (pw z.1, T.box (frT z.2))) .any (frT l[i]) j3 (by rw [List.set_set]; exact set_self j1) rfl ⟨by simp (decide := true) (disch := omega) only [go_sem, ↓reduceIte, ↓put_at], ?_⟩
    (repeat' ((first | refine sp_ ?_ | exact ex0 | (refine ret_s [] ?_; simp (decide := true) (disch := omega) only [go_sem, ↓reduceIte, ↓put_at]))))
    refine next_s (α := {i : Nat // i ≤ l.length}) ⟨i + 1, hlt⟩ ⟨?_, by (try dsimp only); omega⟩
    (try dsimp only)
    simp (decide := true) (disch := omega) only [go_sem, ↓reduceIte, ↓put_at]
  · obtain rfl : i = l.length := by omega
    rw [List.take_length]
    (repeat' ((fail_if_success (first | refine stop_at 8 ?_ | refine stop_l 8 ?_)); (first | refine sp_ ?_ | exact ex0 | (refine ret_s [] ?_; simp (decide := true) (disch := omega) only [go_sem, ↓reduceIte, ↓put_at]))))
    refine joi_s (1000, 7) (90, 1) 66 (zs.map fun z => (pw z.1, T.box (frT z.2))) (zs.map fun z => [V.sc (pw z.1)]) (l.map fun f => [T.box (frT f)]) (by rw [List.map_map]; rfl) (by rw [List.map_map, ← hzl, List.map_map]; rfl) ⟨by simp (decide := true) (disch := omega) only [go_sem, ↓reduceIte, ↓put_at], ?_⟩
    (repeat' ((first | refine sp_ ?_ | exact ex0 | (refine ret_s [(3, 0)] ?_; simp (decide := true) (disch := omega) only [go_sem, ↓reduceIte, ↓put_at]))))
end Go.Proofs.Ytekpaepkoeelfaa
