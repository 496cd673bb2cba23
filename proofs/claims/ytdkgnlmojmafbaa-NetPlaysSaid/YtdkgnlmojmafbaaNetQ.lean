
/- Package net: the paths of a net: the walk, where a loop goes over an iterator over a map's keys (turned from the kit's worked ones); as a contract of R. -/
import Derived.RangeFuncNested
import Derived.Sort.OwnSortedInts
import Derived.Test.YtdkgnlmojmafbaaNetP2
namespace Go.Proofs.Ytdkgnlmojmafbaa
open Go.RowKit Go.Shelf
set_option linter.unusedVariables false
set_option linter.unusedSimpArgs false

attribute [local go_sem] Oper.semAt_some
theorem wpListIn_next_raw {F : Fence} {n : Nat} {P : Program} (w : World) {ops : Array Oper} {rest : List Oper} {o : Oper} {a : Act} {Q : Exit → Act → World → Prop}
    (hg : o.guard = none) (x : Operand) (hop : o.op = Op.next x false) (it r clock : Nat) (bs : Array Nat) (es : Array MapEntry) (hx : a.eval x = .pointer (some ⟨it, 0, none⟩)) (hit : w.heap[it]? = some (.mapIter (some r) clock bs clock)) (hr : w.heap[r]? = some (.map es clock)) (hbc : ∀ e ∈ es.toList, e.born < clock)
    (h0 : (leftOf es bs).size = 0 → wpListIn F n P ops Q rest (a.put o.dst (.tuple #[.bool false])) w)
    (h1 : ∀ e ∈ (leftOf es bs).toList, ∀ w1, (w1 = w ∨ w1 = w.drew) → wpListIn F n P ops Q rest (a.put o.dst (.tuple #[.bool true, e.key, e.val])) (ChangeMaps.setBlock w1 it (.mapIter (some r) clock (bs.push e.born) clock))) :
    wpListIn F n P ops Q (o :: rest) a w := by
  refine wpListIn_plain hg fun K hK' => ?_
  rcases run_next_at (P := P) w o.type it r clock clock bs es clock hit hr hbc (Nat.le_refl _) with ⟨hz, hrun⟩ | ⟨e, he, w1, hal, hrun⟩
  · unfold Oper.wpIn
    refine ⟨?_, ?_⟩
    · simp [Oper.about, hop, resolve, Target.leads, Sem.run_pure]
    · rw [Oper.semAt_plain F _ _ (by rw [hop]; intro c hc'; cases hc')]
      simp [execOp, hop, hx, hrun, Result.andThen]
      exact hK' _ _ (h0 hz)
  · unfold Oper.wpIn
    refine ⟨?_, ?_⟩
    · simp [Oper.about, hop, resolve, Target.leads, Sem.run_pure]
    · rw [Oper.semAt_plain F _ _ (by rw [hop]; intro c hc'; cases hc')]
      simp [execOp, hop, hx, hrun, Result.andThen]
      exact hK' _ _ (h1 e he w1 hal)
theorem ks_setBlock {W : World} {r : Nat} {o o' : Obj} (h : W.heap[r]? = some o) : W.grownBy (ChangeMaps.setBlock W r o') (some r) := by
  refine ⟨rfl, rfl, rfl, by simp [ChangeMaps.setBlock], fun k _ hk => ?_⟩
  exact setBlock_ne (fun e => hk (by rw [e]))
def seenB (it : Nat) (w : World) : Nat := match w.heap[it]? with
  | some (.mapIter _ _ bs _) => bs.size
  | _ => 0
/-- What the map holds. -/
structure NqM (es : Array MapEntry) (ls : List Ln) (clock : Nat) : Prop where
  k : es.toList.map (·.key) = ls.map lnV
  bn : (es.toList.map (·.born)).Nodup
  bc : ∀ e ∈ es.toList, e.born < clock
/-- Between two steps of the iterator. -/
structure NqI (it r clock : Nat) (es : Array MapEntry) (ls : List Ln) (J : List Ln → World → Prop) (s : List Nat) (bs : Array Nat) (w : World) : Prop where
  nd : s.Nodup
  lt : ∀ i ∈ s, i < ls.length
  seen : bs.toList = s.map (fun i => ((es[i]?).map (·.born)).getD 0)
  it : w.heap[it]? = some (.mapIter (some r) clock bs clock)
  m : w.heap[r]? = some (.map es clock)
  j : J (s.map fun i => ls.getD i (0, 0)) w
theorem NqM.len {es : Array MapEntry} {ls : List Ln} {clock : Nat} (h : NqM es ls clock) : es.size = ls.length := by have := congrArg List.length h.k; simpa using this
theorem NqI.cont {it r clock : Nat} {es : Array MapEntry} {ls : List Ln} {J : List Ln → World → Prop} {s : List Nat} {bs : Array Nat} {w : World} (h : NqI it r clock es ls J s bs w) (hm : NqM es ls clock) : ∀ i (hi : i < es.size), bs.contains (es[i]).born = true ↔ i ∈ s := fun i hi => by
  have hlen := hm.len
  rw [Array.contains_iff_mem, ← Array.mem_toList_iff, h.seen, List.mem_map]
  constructor
  · rintro ⟨j, hj, he⟩
    have hjl := h.lt j hj
    rw [Array.getElem?_eq_getElem (by omega)] at he
    simp only [Option.map_some, Option.getD_some] at he
    have hjl2 : j < es.size := by omega
    have e1 : (es.toList.map (·.born))[j]? = some (es[i]).born := by simp [hjl2, he]
    have e2 : (es.toList.map (·.born))[i]? = some (es[i]).born := by simp [hi]
    have : j = i := nodup_inj hm.bn e1 e2
    rw [← this]; exact hj
  · intro hj
    exact ⟨i, hj, by rw [Array.getElem?_eq_getElem hi]; rfl⟩
theorem NqI.size {it r clock : Nat} {es : Array MapEntry} {ls : List Ln} {J : List Ln → World → Prop} {s : List Nat} {bs : Array Nat} {w : World} (h : NqI it r clock es ls J s bs w) : bs.size = s.length := by have := congrArg List.length h.seen; simpa using this
theorem NqI.nothing {it r clock : Nat} {es : Array MapEntry} {ls : List Ln} {J : List Ln → World → Prop} {s : List Nat} {bs : Array Nat} {w : World} (h : NqI it r clock es ls J s bs w) (hm : NqM es ls clock) (hz : (leftOf es bs).size = 0) : (s.map fun i => ls.getD i (0, 0)).Perm ls := by
  have hlen := hm.len
  have hall : ∀ i, i < ls.length → i ∈ s := fun i hi => by
    have hi' : i < es.size := by omega
    rw [← h.cont hm i hi']
    cases hc : bs.contains (es[i]).born with
    | true => rfl
    | false =>
      have : es[i] ∈ leftOf es bs := by
        unfold leftOf
        rw [Array.mem_filter]
        exact ⟨Array.getElem_mem hi', by rw [hc]; rfl⟩
      have hz : leftOf es bs = #[] := Array.eq_empty_of_size_eq_zero hz
      rw [hz] at this
      simp at this
  have hp : s.Perm (List.range ls.length) := (List.perm_ext_iff_of_nodup h.nd List.nodup_range).2 fun i => by
    rw [List.mem_range]
    exact ⟨h.lt i, hall i⟩
  have hr : (List.range ls.length).map (fun i => ls.getD i (0, 0)) = ls := by
    apply List.ext_getElem?
    intro i
    by_cases hi : i < ls.length
    · simp [hi]
    · simp [hi]
  have := hp.map (fun i => ls.getD i (0, 0))
  rwa [hr] at this
theorem NqI.got {it r clock : Nat} {es : Array MapEntry} {ls : List Ln} {J : List Ln → World → Prop} {s : List Nat} {bs : Array Nat} {w : World} (h : NqI it r clock es ls J s bs w) (hm : NqM es ls clock) {e : MapEntry} (he : e ∈ (leftOf es bs).toList) : ∃ i, i < ls.length ∧ i ∉ s ∧ e.key = lnV (ls.getD i (0, 0)) ∧ e.born = ((es[i]?).map (·.born)).getD 0 ∧ e ∈ es.toList := by
  have hlen := hm.len
  obtain ⟨hem, hes⟩ : e ∈ es ∧ bs.contains e.born = false := by
    unfold leftOf at he
    have he : e ∈ es.filter fun e => !bs.contains e.born := by rwa [Array.mem_toList_iff] at he
    rw [Array.mem_filter] at he
    exact ⟨he.1, by simpa using he.2⟩
  obtain ⟨i, hi, rfl⟩ := Array.getElem_of_mem hem
  have hi' : i < ls.length := by omega
  have hnot : i ∉ s := fun q => by rw [(h.cont hm i hi).2 q] at hes; cases hes
  refine ⟨i, hi', hnot, ?_, by rw [Array.getElem?_eq_getElem hi]; rfl, Array.mem_toList_iff.2 hem⟩
  have := congrArg (fun l => l[i]?) hm.k
  simpa [hi, hi'] using this
theorem NqI.next {it r clock : Nat} {es : Array MapEntry} {ls : List Ln} {J : List Ln → World → Prop} {s : List Nat} {bs : Array Nat} {w w' W3 : World} (h : NqI it r clock es ls J s bs w) (hm : NqM es ls clock) {i : Nat} (hi : i < ls.length) (hn : i ∉ s) {b : Nat} (hb : b = ((es[i]?).map (·.born)).getD 0)
    (h1 : w'.heap[it]? = some (.mapIter (some r) clock (bs.push b) clock)) (h2 : w'.heap[r]? = some (.map es clock)) (hk : KeepsWalks w' W3) (hj : J ((s.map fun i => ls.getD i (0, 0)) ++ [ls.getD i (0, 0)]) W3) : NqI it r clock es ls J (s ++ [i]) (bs.push b) W3 :=
  ⟨List.nodup_append.2 ⟨h.nd, by simp, fun a ha c hc => by simp at hc; subst hc; exact fun e => hn (e ▸ ha)⟩, fun j hj => by
    rcases List.mem_append.1 hj with hj | hj
    · exact h.lt j hj
    · simp at hj; omega, by simp [h.seen, hb], hk.same _ _ h1 rfl, hk.same _ _ h2 rfl, by rw [List.map_append]; exact hj⟩
theorem nq_next {P : Program} {w : World} {it r clock : Nat} {bs : Array Nat} {es : Array MapEntry} {ls : List Ln} {J : List Ln → World → Prop} {s : List Nat} {B : Nat} (ty : TypeId) (hB : B ≤ it) (hJ : AbidesFrom B J) (hI : NqI it r clock es ls J s bs w) (hm : NqM es ls clock) :
    ((s.map fun i => ls.getD i (0, 0)).Perm ls ∧ (Instr.next (.pointer (some ⟨it, 0, none⟩)) false ty).run P w = .ok (.tuple #[.bool false]) w) ∨
    ∃ (x1 x2 : Int) (v : Value) (w' : World), (∀ W3, KeepsWalks w' W3 → J ((s.map fun i => ls.getD i (0, 0)) ++ [(x1, x2)]) W3 → ∃ (s' : List Nat) (bs' : Array Nat), NqI it r clock es ls J s' bs' W3 ∧ ls.length - seenB it W3 < ls.length - seenB it w) ∧ J (s.map fun i => ls.getD i (0, 0)) w' ∧ (s.map fun i => ls.getD i (0, 0)).length < ls.length ∧
      (Instr.entry (.pointer (some ⟨it, 0, none⟩))).run P w' = .ok (.tuple #[.agg #[.int .i64 x1, .int .i64 x2], v]) w' ∧ (Instr.next (.pointer (some ⟨it, 0, none⟩)) false ty).run P w = .ok (.tuple #[.bool true, .agg #[.int .i64 x1, .int .i64 x2], v]) w' := by
  rcases run_next_at (P := P) w ty it r clock clock bs es clock hI.it hI.m hm.bc (Nat.le_refl _) with ⟨hz, hrun⟩ | ⟨e, he, w1, hal, hrun⟩
  · exact .inl ⟨hI.nothing hm hz, hrun⟩
  right
  obtain ⟨i, hi, hn, hkey, hborn, hmem⟩ := hI.got hm he
  have hw1 : w1.heap = w.heap := by rcases hal with rfl | rfl <;> rfl
  have i1 : w1.heap[it]? = some (.mapIter (some r) clock bs clock) := by rw [hw1]; exact hI.it
  have hne : r ≠ it := fun e => by have := hI.it; rw [← e, hI.m] at this; cases this
  obtain ⟨w', hw'⟩ : ∃ w', w' = ChangeMaps.setBlock w1 it (.mapIter (some r) clock (bs.push e.born) clock) := ⟨_, rfl⟩
  have hit : w'.heap[it]? = some (.mapIter (some r) clock (bs.push e.born) clock) := by rw [hw']; exact setBlock_at i1
  have hr : w'.heap[r]? = some (.map es clock) := by rw [hw', setBlock_ne hne, hw1]; exact hI.m
  have hgr : w.grownBy w' (some it) := by
    rw [hw']
    have := ks_setBlock (o' := .mapIter (some r) clock (bs.push e.born) clock) i1
    rcases hal with rfl | rfl
    · exact this
    · exact ⟨this.1, this.2, this.3, this.4, this.5⟩
  have hent := run_entry_at (P := P) w' it r clock bs es clock e hit hr hmem hm.bn
  have hln : lnV (ls.getD i (0, 0)) = .agg #[.int .i64 (ls.getD i (0, 0)).1, .int .i64 (ls.getD i (0, 0)).2] := rfl
  rw [hkey, hln] at hent hrun
  rw [← hw'] at hrun
  have hsl : s.length < ls.length := by
    have := nodup_len ls.length (s ++ [i]) (List.nodup_append.2 ⟨hI.nd, by simp, fun a ha c hc => by simp at hc; subst hc; exact fun e => hn (e ▸ ha)⟩) (fun j hj => by
      rcases List.mem_append.1 hj with hj | hj
      · exact hI.lt j hj
      · simp at hj; omega)
    rw [List.length_append, List.length_singleton] at this
    omega
  refine ⟨_, _, e.val, w', fun W3 hk hj => ?_, hJ _ _ _ _ hI.j hgr (fun r' e' => by cases e'; exact ⟨hB, _, hI.it, rfl⟩), by rw [List.length_map]; exact hsl, hent, hrun⟩
  have g := hI.next hm hi hn hborn hit hr hk hj
  refine ⟨_, _, g, ?_⟩
  have e1 : seenB it W3 = bs.size + 1 := by unfold seenB; rw [g.it]; simp
  have e2 : seenB it w = bs.size := by unfold seenB; rw [hI.it]
  have e3 := hI.size
  omega
set_option maxRecDepth 100000 in
set_option maxHeartbeats 2000000 in
theorem nq_keys1_in (F : Fence) (n : Nat) (h7 : F.fn 45) (hro : F.round = none) (hn : 1 ≤ n) (l Bs r clock : Nat) (es : Array MapEntry) (ls : List Ln) (hm : NqM es ls clock)
    (J Jx : List Ln → World → Prop) (W : World) (hJ : AbidesFrom W.heap.size J) (hY : ∀ pre x W1, J pre W1 → pre.length < ls.length → YieldAt F (n - 1) Try.prog l #[lnV x] W1 fun e W' => (e = .returned (.bool true) ∧ J (pre ++ [x]) W' ∧ KeepsWalks W1 W') ∨ (e = .returned (.bool false) ∧ Jx (pre ++ [x]) W'))
    (hBs : W.cell? ⟨Bs, 0, none⟩ = some (.map (some r))) (hr : W.heap[r]? = some (.map es clock)) (h0 : J [] W) :
    CallsIn F n Try.prog 45 #[.func (.yield l) #[] #[], .pointer (some ⟨Bs, 0, none⟩)] W fun e W' => (∃ v, e = .returned v) ∧ ((∃ xs, xs.Perm ls ∧ J xs W') ∨ (∃ pre, True ∧ Jx pre W')) := by
  refine callsIn_of_wp Try.func45 rfl h7 ?_ hro
  simp only [Try.ntmps45, List.size_toArray, List.length_cons, List.length_nil, Nat.reduceAdd, Nat.reduceSub, Array.replicate_succ, Array.replicate_zero, List.push_toArray, List.append_toArray, List.nil_append, List.cons_append]
  have hrg := run_range_map (P := Try.prog) W 50 _ _ r es clock Try.underlying50 hr
  obtain ⟨k, hkk⟩ : ∃ k, k = W.heap.size := ⟨_, rfl⟩
  have hI : NqI k r clock es ls J [] #[] (W.alloc (.mapIter (some r) clock #[] clock)) :=
    ⟨List.nodup_nil, by simp, rfl, by rw [hkk]; exact (MapKept.heap_alloc W _).1, by rw [(MapKept.heap_alloc W _).2 r (Array.getElem?_eq_some_iff.1 hr).1]; exact hr, hJ _ _ _ none h0 (World.grownBy_alloc W _ none) (fun r e => by cases e)⟩
  rw [← hkk] at hrg hJ
  generalize hW1 : W.alloc (.mapIter (some r) clock #[] clock) = W1 at *
  clear hW1 hkk
  have hY := Lib.hid hY
  have hJ := Lib.hid hJ
  gi_wp2_with (simp only [hrg, Result.andThen_ok])
  gi_loopw [6] (fun _ wr => ∃ (s : List Nat) (bs : Array Nat), NqI k r clock es ls J s bs wr) (fun _ wr => ls.length - seenB k wr)
  case atStart => exact ⟨[], #[], hI⟩
  case round =>
    obtain ⟨s, bs, hI2⟩ := hrel
    rcases nq_next (P := Try.prog) 0 (Nat.le_refl _) hJ.out hI2 hm with ⟨hz, hrun⟩ | ⟨x1, x2, v, w2, hnx, hj, hlt, hen, hrun⟩
    · have hz := Lib.hid hz
      gi_wp2_with (simp only [hrun, Result.andThen_ok])
      go_end0
      exact ⟨⟨_, rfl⟩, .inl ⟨_, hz.out, hI2.j⟩⟩
    · have hnx := Lib.hid hnx
      obtain ⟨fn, tmps, assign, body, hy, hR⟩ := hY.out _ (x1, x2) (w2.alloc (.cells #[.int .i64 x1, .int .i64 x2] 69)) (hJ.out _ _ _ none hj (World.grownBy_alloc _ _ none) (fun r e => by cases e)) hlt
      rw [show lnV (x1, x2) = .agg #[.int .i64 x1, .int .i64 x2] from rfl] at hy
      clear hj hlt
      gi_wp2_with (first | simp only [hrun, Result.andThen_ok] | simp only [hen, Result.andThen_ok] | simp only [hy, Result.andThen_ok])
      refine hR.mono ?_
      rintro e W3 (⟨rfl, hJ3, hk3⟩ | ⟨rfl, hJx3⟩)
      · obtain ⟨s', bs', g1, g2⟩ := hnx.out W3 ((KeepsWalks.alloc _ _).trans hk3) hJ3
        gi_wp2
        go_roundw
        case rel => exact ⟨s', bs', g1⟩
        case measure => exact g2
      · gi_wp2
        refine bodyPost_ret (results_none rfl _ _ _) rfl ?_
        exact ⟨⟨_, rfl⟩, .inr ⟨_, trivial, hJx3⟩⟩
abbrev nEl (z : Int) : List V := [vi z]
def srt (zs : List Int) : List Int := zs.mergeSort fun x y => decide (x ≤ y)
theorem srt_perm {l l' : List Int} (h : l.Perm l') : srt l = srt l' := by
  have tr : ∀ a b c : Int, (decide (a ≤ b)) = true → (decide (b ≤ c)) = true → (decide (a ≤ c)) = true := by intro a b c h1 h2; simp only [decide_eq_true_eq] at *; omega
  have tt : ∀ a b : Int, (decide (a ≤ b) || decide (b ≤ a)) = true := by intro a b; simp only [Bool.or_eq_true, decide_eq_true_eq]; omega
  exact List.Perm.eq_of_pairwise (le := fun a b => decide (a ≤ b) = true) (fun a b _ _ h1 h2 => by simp only [decide_eq_true_eq] at h1 h2; omega) (List.pairwise_mergeSort tr tt l) (List.pairwise_mergeSort tr tt l') (((List.mergeSort_perm l _).trans h).trans (List.mergeSort_perm l' _).symm)
theorem srt_len (zs : List Int) : (srt zs).length = zs.length := List.length_mergeSort _
set_option maxRecDepth 100000 in
set_option maxHeartbeats 8000000 in
theorem srt_row (n₀ blk cap : Nat) (zs : List Int) (hzl : zs.length ≤ 1000000000) (w : World) (h : w.ownsRow n₀ 3 1 (.slice (some ⟨blk, 0, none⟩) zs.length cap) zs.length (zs.map (Value.int .i64))) :
    Calls Try.prog 41 #[.slice (some ⟨blk, 0, none⟩) zs.length cap] w fun e w' => e = .returned (.tuple #[]) ∧ w'.ownsRow n₀ 3 1 (.slice (some ⟨blk, 0, none⟩) zs.length cap) zs.length ((srt zs).map (Value.int .i64)) ∧ w.grownBy w' (some blk) := by
  rcases h.2 with ⟨h1, _⟩ | ⟨g, cap', cur, h1, hbase, hb, r1, r2, r3, r4⟩
  · cases h1
  · cases h1
    have hlt : blk < w.heap.size := (Array.getElem?_eq_some_iff.1 hb).1
    refine (Try.slices_Sort_int blk 0 cap zs w (holds_of_blockI hb (by simpa using r4)) hlt (by omega)).mono ?_
    rintro e w' ⟨rfl, n, os, rfl⟩
    refine ⟨rfl, ownsRow_sortedI (srt_len zs) hbase hb r1 r2 r3, grownBy_sortedI _⟩
/-- The paths of a direction, as they come. -/
def pkL (way : Int) (ls : List Ln) : List Int := (ls.filter fun x => decide (x.1 = way)).map (·.2)
theorem pkL_snoc (way : Int) (ls : List Ln) (x : Ln) : pkL way (ls ++ [x]) = if x.1 = way then pkL way ls ++ [x.2] else pkL way ls := by
  unfold pkL
  by_cases h : x.1 = way
  · simp [h]
  · simp [h]
theorem pkL_len (way : Int) (ls : List Ln) : (pkL way ls).length ≤ ls.length := by
  unfold pkL
  rw [List.length_map]
  exact List.length_filter_le ..
theorem nq_stops (F : Fence) (n : Nat) (h7 : F.fn 45) (hro : F.round = none) (hn : 1 ≤ n) (Bs r clock : Nat) (es : Array MapEntry) (ls : List Ln) (hm : NqM es ls clock) (w : World) (hBs : Bs < w.heap.size) (hrl : r < w.heap.size)
    (hc : w.cell? ⟨Bs, 0, none⟩ = some (.map (some r))) (hr : w.heap[r]? = some (.map es clock)) :
    SeqStopsK F n Try.prog 45 #[.pointer (some ⟨Bs, 0, none⟩)] (fun x : Ln => #[lnV x]) KeepsWalks (fun ys => ys.Perm ls) (fun pre => True) ls.length w := fun l J Jx W hW hJ _ hY h0 =>
  nq_keys1_in F n h7 hro hn l Bs r clock es ls hm J Jx W hJ hY ((hW.cell (p := ⟨Bs, 0, none⟩) hBs).trans hc) ((hW.block r hrl).trans hr) h0
theorem nq_info : (Try.prog.info? 3).map (fun i => (i.zero, i.size, i.bytes)) = some (some (.int .i64 0), 1, 8) := by kernel_rfl
def laneAt (W : World) (B : Nat) (x : Ln) : Prop := W.heap[B]? = some (.cells #[.int .i64 x.1, .int .i64 x.2] 69 (0, 0))
set_option maxRecDepth 100000 in
set_option maxHeartbeats 4000000 in
theorem nq_paths (F : Fence) (h3 : F.fn 29) (hk : F.fn 40) (h7 : F.fn 45) (s1 : F.fn 41) (s2 : F.fn 48) (s3 : F.fn 46) (s4 : F.fn 47) (s5 : F.fn 58) (hro : F.round = none)
    (hS : ∀ (n₀ blk cap : Nat) (zs : List Int) (w : World), zs.length ≤ 1000000000 → w.ownsRow n₀ 3 1 (.slice (some ⟨blk, 0, none⟩) zs.length cap) zs.length (zs.map (Value.int .i64)) → CallsIn F 4 Try.prog 41 #[.slice (some ⟨blk, 0, none⟩) zs.length cap] w fun e w' => e = .returned (.tuple #[]) ∧ w'.ownsRow n₀ 3 1 (.slice (some ⟨blk, 0, none⟩) zs.length cap) zs.length ((srt zs).map (Value.int .i64)) ∧ w.grownBy w' (some blk))
    (b r clock : Nat) (es : Array MapEntry) (ls : List Ln) (hm : NqM es ls clock) (hls : ls.length ≤ 1000000000) (way : Int) (w : World) (hb : w.cell? ⟨b, 2, none⟩ = some (.map (some r))) (hr : w.heap[r]? = some (.map es clock)) :
    CallsIn F 5 Try.prog 29 #[.pointer (some ⟨b, 0, none⟩), .int .i64 way] w fun e w' => ∃ v, e = .returned v ∧ w'.ownsRow (w.heap.size + 1) 3 1 v (pkL way ls).length ((srt (pkL way ls)).map (Value.int .i64)) ∧ Below w.heap.size w w' := by
  have h1 : 1 ≤ 5 := by omega
  obtain ⟨i0, hi, hz0, hz1, hz2⟩ := info_parts nq_info
  refine callsIn_of_wp_marks Try.func29 rfl h3 ?_ hro
  simp only [Try.ntmps29, List.size_toArray, List.length_cons, List.length_nil, Nat.reduceAdd, Nat.reduceSub, Array.replicate_succ, Array.replicate_zero, List.push_toArray, List.append_toArray, List.nil_append, List.cons_append]
  have hbl := World.block_lt_of_cell? w _ hb
  have hrl := (Array.getElem?_eq_some_iff.1 hr).1
  have bW := ((Boxed.new w 3 (.int .i64 way)).alloc (.cells #[.slice none 0 0] 62)).alloc (.cells #[.map (some r)] 50)
  have bO := (Boxed.new (w.alloc (.cells #[.int .i64 way] 3)) 62 (.slice none 0 0)).alloc (.cells #[.map (some r)] 50)
  have bM := Boxed.new ((w.alloc (.cells #[.int .i64 way] 3)).alloc (.cells #[.slice none 0 0] 62)) 50 (.map (some r))
  simp only [World.size_alloc] at bO bM
  have B2 : Below w.heap.size w ((w.alloc (.cells #[.int .i64 way] 3)).alloc (.cells #[.slice none 0 0] 62)) := ((Below.refl _ w).alloc (Nat.le_refl _) _).alloc (by simp) _
  have B3 := B2.alloc (o := .cells #[.map (some r)] 50) (by simp; omega)
  have hb2 := (B2.cell (p := ⟨b, 2, none⟩) hbl).trans hb
  have hr3 := (B3.block r hrl).trans hr
  have hs3 : (((w.alloc (.cells #[.int .i64 way] 3)).alloc (.cells #[.slice none 0 0] 62)).alloc (.cells #[.map (some r)] 50)).heap.size = w.heap.size + 3 := by simp
  have hm' := Lib.hid hm
  gi_wp2_with (gi_at_call 40; refine (np_keys_in F (5 - 1) hk hro r _).mono ?_; rintro e W ⟨rfl, rfl⟩)
  generalize (((w.alloc (.cells #[.int .i64 way] 3)).alloc (.cells #[.slice none 0 0] 62)).alloc (.cells #[.map (some r)] 50)) = W0 at *
  have hS := Lib.hid hS
  refine wpIn_rangeFunc_ownH hro h1 (gf := 45) (lb := #[.pointer (some ⟨w.heap.size + 1 + 1, 0, none⟩)]) rfl h7 (enters_of Try.func45 (by kernel_rfl) rfl)
    (nq_stops F (5 - 1) h7 hro (by omega) (w.heap.size + 1 + 1) r clock es ls hm W0 (by omega) (by omega) bM.cell hr3) walksK_t walksK_b (Below.refl _ _) (fun _ => rfl)
    (fun pre W => ((∃ v, Boxed W (w.heap.size + 1) 62 v ∧ W.ownsRow (w.heap.size + 1) 3 1 v (pkL way pre).length ((pkL way pre).map (Value.int .i64)) ∧ True) ∧ Boxed W w.heap.size 3 (.int .i64 way)) ∧ Below w.heap.size w W)
    (fun _ _ _ => False)
    (OwnFrom.and (OwnFrom.and (Own.from (holdsRow_own (w.heap.size + 1) (w.heap.size + 1) 62 3 1 (fun pre : List Ln => (pkL way pre).length) (fun pre : List Ln => (pkL way pre).map (Value.int .i64)) (fun (pre : List Ln) v => True)) _) (Own.from (boxed_own _ _ _) _)) (ownFrom_below (Nat.le_refl _) (by omega)))
    (fun _ _ _ _ _ hs _ _ => hs)
    ⟨⟨⟨_, bO, World.ownsRow_nil _ _ _ _, trivial⟩, bW⟩, B3⟩
    (fun x a' W => ∃ Bx, w.heap.size + 1 < Bx ∧ laneAt W Bx x ∧ a' = { tmps := #[.pointer (some ⟨b, 0, none⟩), .int .i64 way, undef, .pointer (some ⟨w.heap.size, 0, none⟩), .slice none 0 0, .pointer (some ⟨w.heap.size + 1, 0, none⟩), .pointer (some ⟨Bx, 0, none⟩), .pointer (some ⟨b, 0, none⟩), .pointer (some ⟨b, 0, none⟩), .pointer (some ⟨b, 2, none⟩), .map (some r), .func (.func 45) #[] #[.pointer (some ⟨w.heap.size + 1 + 1, 0, none⟩)], lnV x, undef, undef, undef, undef, undef, undef, undef, undef, undef, undef, undef, undef], defers := [] })
    (fun x a' _ X Y row hs hg hr => by obtain ⟨Bx, h1, h2, h3⟩ := hs; exact ⟨Bx, h1, (grownBy_keeps_cells hg (fun r e => (hr r e).2) h2 rfl).trans h2, h3⟩)
    ?assign ?body ?done ?stop
  case assign =>
    rintro l pre ⟨x1, x2⟩ W K ⟨⟨⟨v, hv, hrow, _⟩, bW1⟩, hB1⟩ hK
    rw [show lnV (x1, x2) = .agg #[.int .i64 x1, .int .i64 x2] from rfl]
    gi_wp2
    refine hK _ _ ((KeepsOthers.alloc _ _).from _) (KeepsWalks.alloc _ _) ⟨⟨⟨v, hv.alloc _, hrow.alloc _, trivial⟩, bW1.alloc _⟩, hB1.alloc hB1.size _⟩ ⟨W.heap.size, hv.lt, World.alloc_heap_new W _, rfl⟩
  case body =>
    rintro l pre ⟨x1, x2⟩ a' W hl _ ⟨⟨⟨v, hv, hrow, _⟩, bW1⟩, hB1⟩ ⟨Bx, hBx, bX, rfl⟩ hlt
    have hplen : (pkL way pre).length ≤ 1000000000 := by have := pkL_len way pre; omega
    have hcw := bW1.cell
    have hx0 : W.cell? ⟨Bx, 0, none⟩ = some (.int .i64 x1) := by simp [World.cell?, show W.heap[Bx]? = _ from bX]
    have hx1 : W.cell? ⟨Bx, 1, none⟩ = some (.int .i64 x2) := by simp [World.cell?, show W.heap[Bx]? = _ from bX]
    by_cases hxw : x1 = way
    · subst hxw
      have hsn : pkL x1 (pre ++ [(x1, x2)]) = pkL x1 pre ++ [x2] := by rw [pkL_snoc, if_pos rfl]
      have hc := hv.cell
      have hsn := Lib.hid hsn
      have hplen := Lib.hid hplen
      gi_wp2_with (gi_at_builtin; refine wpListIn_append_own _ rfl _ _ 62 rfl (w.heap.size + 1) 3 i0 (.int .i64 0) 1 8 Try.underlying62 hi hz0 hz1 hz2 rfl (by decide) _ _ _ rfl (hrow.alloc _) ⟨W.heap.size, 0, none⟩ 1 1 [.int .i64 x2] rfl rfl (cell_one_new _ _ _) (by simp [Value.oneCell']) (by have := hplen.out; unfold maxLen; omega) (by have := hplen.out; omega) (by have := hv.lt; simp; omega) ?_; intro v' w1 hown' hgrow _; obtain ⟨g', cap', rfl⟩ := ownsRow_succ hown'; obtain ⟨hv1, hv2, hr2, hk2, hb2⟩ := hv.appended (by decide) hrow (by have := hv.lt; omega) (Nat.le_refl _) hown' hgrow; have hc1 := hv1.cell; have hf1 := hv1.frozen)
      have bW2 := (hb2.block w.heap.size (by omega)).trans bW1
      refine ⟨hk2.from _, hk2.walks, ⟨⟨_, hv2, ?_, trivial⟩, bW2⟩, hB1.trans (hb2.mono (by omega))⟩
      rw [hsn.out]
      simpa using hr2
    · have hsn : pkL way (pre ++ [(x1, x2)]) = pkL way pre := by rw [pkL_snoc, if_neg hxw]
      have hsn := Lib.hid hsn
      gi_wp2
      refine ⟨(KeepsOthers.refl _).from _, KeepsWalks.refl _, ⟨⟨v, hv, ?_, trivial⟩, bW1⟩, hB1⟩
      rw [hsn.out]
      exact hrow
  case done =>
    rintro D xs W hD hp ⟨⟨⟨v, hv, hrow, _⟩, bW1⟩, hB1⟩ hK
    have hplen : (pkL way xs).length ≤ 1000000000 := by have := pkL_len way xs; have := hp.length_eq; omega
    have hpp : (pkL way xs).Perm (pkL way ls) := (hp.filter _).map _
    have hpl := hpp.length_eq
    have hc := hv.cell
    have H := Lib.hid (And.intro (srt_perm hpp) (And.intro hpl hplen))
    clear hpl hpp hplen hp
    rcases hrow.2 with ⟨rfl, hz⟩ | ⟨gb, cap, cur, rfl, hbase, hgb, r1, r2, r3, r4⟩
    · have hz' : pkL way xs = [] := List.eq_nil_of_length_eq_zero hz
      have hz' := Lib.hid hz'
      clear hz
      gi_wp2_with (gi_at_call 41; refine (np_sort F (5 - 1) s1 s2 s3 s4 s5 (by omega) hro _).mono ?_; rintro e W ⟨rfl, rfl⟩)
      refine ⟨by simp, .inl ⟨_, _, rfl, run_takeDeferred hK, ?_⟩⟩
      refine ⟨_, results_tmp rfl _ _ _, _, rfl, ?_, hB1.trans (belowK_b (w := w) (Nat.le_refl _) _ _ _ _ (by omega) hK rfl rfl)⟩
      obtain ⟨q1, q2, _⟩ := H.out
      rw [← q1, ← q2, hz'.out, show srt [] = [] by simp [srt]]
      exact World.ownsRow_nil _ _ _ _
    · have hne : gb ≠ w.heap.size + 1 := fun e => by
        have h1 := show W.heap[w.heap.size + 1]? = _ from hv
        rw [← e, hgb] at h1
        simp at h1
      have hDg : D ≠ gb := fun e => by rw [e, hgb] at hK; cases hK
      clear r1 r2 r3 r4 hgb
      have cS := hS.out (w.heap.size + 1) gb cap _ W H.out.2.2 hrow
      gi_wp2_with (gi_at_call 41; refine cS.mono ?_; rintro e W2 ⟨rfl, hrow2, hb2⟩; have hc2 := (World.cell?_of_block (a := ⟨w.heap.size + 1, 0, none⟩) (hb2.block (w.heap.size + 1) hv.lt (fun e => hne (by cases e; rfl)))).trans hc; have hK2 := (hb2.block D (Array.getElem?_eq_some_iff.1 hK).1 (fun e => hDg (by cases e; rfl))).trans hK)
      refine ⟨by simp, .inl ⟨_, _, rfl, run_takeDeferred hK2, ?_⟩⟩
      refine ⟨_, results_tmp rfl _ _ _, _, rfl, ?_, (hB1.grown hb2 hB1.size (fun j hj => by cases hj; omega)).trans (belowK_b (w := w) (Nat.le_refl _) _ _ _ _ (by omega) hK2 rfl rfl)⟩
      obtain ⟨q1, q2, _⟩ := H.out
      rw [← q1, ← q2]
      exact ownsRow_putObj hrow2 _ hK2 rfl
  case stop =>
    rintro D c pre W _ _ h _
    exact h.elim
theorem cells_map2 {m : Mem} {w : World} {bs : List Nat} {x0 x1 : V} {e : TypeId} {M : Bags} {cs : List CA} {vs : List Value} {F : List Nat} (h : ArgsOk m w bs ((([.val x0, .val x1, .hd (.mp (kvB e M))] : List CA) ++ cs).map .ca) vs F) :
    ∃ r clock es, vs[2]? = some (.map (some r)) ∧ w.heap[r]? = some (.map es clock) ∧ NqM es (M.map (·.1)) clock := by
  cases h with
  | cons h0 r0 _ =>
    cases r0 with
    | cons h1 r1 _ =>
      cases r1 with
      | cons h2 r2 _ =>
        obtain ⟨hg, _⟩ := h2
        obtain ⟨b, ents, clock, F1, rfl, k2, _, k4, k5, k6, k7, _⟩ := mp_inv hg
        exact ⟨b, clock, ents, rfl, k2, by rw [k4, kvB_keys], k6, k7⟩
theorem args_mem {m : Mem} {w : World} {bs : List Nat} : ∀ {cs : List CA} {vs : List Value} {F : List Nat}, (∀ c ∈ cs, (∃ x, c = .val x) ∨ ∃ x, c = .hd x) → ArgsOk m w bs (cs.map .ca) vs F → ∀ b ∈ F, b < w.heap.size
  | [], _, _, _, h, b, hb => by cases h; cases hb
  | c :: cs, _, _, hc, h, b, hb => by
    cases h with
    | cons h0 hs hd =>
      rcases List.mem_append.1 hb with hb | hb
      · rcases hc c (by simp) with ⟨x, rfl⟩ | ⟨x, rfl⟩
        · obtain ⟨_, rfl⟩ := h0; cases hb
        · exact (h0.1.mem b hb).1
      · exact args_mem (fun c' h' => hc c' (by simp [h'])) hs b hb
theorem netO_cs {m : N28} {e : TypeId} : ∀ c ∈ ([.val (vi m.most), .val (vi m.bytes), .hd (.mp (kvB e m.m)), .val (vi m.sent), .val (vi m.lost), .val (vi m.taken), .val (vi m.twins), .val (vi m.turned), .val (vi m.forged)] : List CA), (∃ x, c = .val x) ∨ ∃ x, c = .hd x := by
  intro c hc
  simp at hc
  rcases hc with rfl | rfl | rfl | rfl | rfl | rfl | rfl | rfl | rfl
  · exact .inl ⟨_, rfl⟩
  · exact .inl ⟨_, rfl⟩
  · exact .inr ⟨_, rfl⟩
  · exact .inl ⟨_, rfl⟩
  · exact .inl ⟨_, rfl⟩
  · exact .inl ⟨_, rfl⟩
  · exact .inl ⟨_, rfl⟩
  · exact .inl ⟨_, rfl⟩
  · exact .inl ⟨_, rfl⟩
def pathsB (N : N28) (way : Int) : List Int := srt (pkL way (N.m.map (·.1)))
set_option maxRecDepth 100000 in
set_option maxHeartbeats 8000000 in
theorem net_paths (N : N28) (way : Int) (hl : N.m.length ≤ 1000000000) : Spec Try.prog 29 [.ptr 0 0, .ca (.val (vi way))] [netO N] (.ca (.hd (.rw 3 1 ((pathsB N way).map nEl)))) [netO N] := by
  unfold netO
  intro m w vals bs F G hh
  obtain ⟨hms, ar, ob, di⟩ := hh
  cases ar with
  | cons h0 r0 d0 =>
    cases r0 with
    | cons h1 r1 d1 =>
      cases r1
      obtain ⟨⟨b, hb, rfl⟩, rfl⟩ := h0
      obtain ⟨h1, rfl⟩ := h1
      have e1 := Rd.sc_eq h1
      subst e1
      cases ob with
      | cons o1 o2 o3 o4 o5 o6 =>
        cases o5
        rename_i b0 vs ty F0
        simp at hb
        subst hb
        obtain ⟨r, clock, es, k1, k2, k3⟩ := cells_map2 (cs := [.val (vi N.sent), .val (vi N.lost), .val (vi N.taken), .val (vi N.twins), .val (vi N.turned), .val (vi N.forged)]) o3
        have hcell : w.cell? ⟨b0, 2, none⟩ = some (.map (some r)) := by simp [World.cell?, o1, k1]
        have hls : (N.m.map (·.1)).length ≤ 1000000000 := by rw [List.length_map]; exact hl
        have hcall := callsIn_wide.1 (nq_paths Fence.wide trivial trivial trivial trivial trivial trivial trivial trivial rfl (fun n₀ blk cap zs w hz ho => callsIn_wide.2 (srt_row n₀ blk cap zs hz w ho)) b0 r clock es _ k3 hls way w hcell k2)
        refine Calls.mono hcall ?_
        rintro e w' ⟨v, rfl, hown, hB⟩
        have hlt : b0 < w.heap.size := (Array.getElem?_eq_some_iff.1 o1).1
        have hc : Chg Nothing w w' := (Chg.ofBelow hB).mono fun i hi h => by omega
        have hnew : ∀ b', v.ownBlock = some b' → w.heap.size ≤ b' := fun b' hb' => by
          rcases hown.2 with ⟨rfl, _⟩ | ⟨g, c2, cur, rfl, hge, _⟩
          · cases hb'
          · cases hb'; exact Nat.le_of_succ_le hge
        have hlen : ((pathsB N way).map nEl).length = (pkL way (N.m.map (·.1))).length := by rw [List.length_map]; exact srt_len _
        have hown0 : w'.ownsRow 0 3 1 v ((pathsB N way).map nEl).length ((pathsB N way).map (Value.int .i64)) := by
          rw [hlen]
          exact ⟨hown.1, hown.2.imp id fun ⟨g, c2, cur, k1, _, k3⟩ => ⟨g, c2, cur, k1, Nat.zero_le _, k3⟩⟩
        have hmn : ∀ b', v.ownBlock = some b' → ∀ i, m b' i = none := fun b' hb' i => by
          cases hm : m b' i with
          | none => rfl
          | some u => have := World.block_lt_of_cell? w _ (hms _ _ _ hm); have := hnew b' hb'; simp at *; omega
        have hh : Hg m w' [.rw 3 1 ((pathsB N way).map nEl)] [v] v.ownBlock.toList := rw_mk hown0 (fun r h => by obtain ⟨z, _, rfl⟩ := List.mem_map.1 h; rfl) (fun i j hi hj => by
          simp at hi hj
          subst hj
          exact ⟨.int .i64 (pathsB N way)[i], by simp [hi], by simp; exact Rd.sc _⟩) hmn
        have hms' : ∀ b i v, m b i = some v → w'.cell? ⟨b, i, none⟩ = some v := fun b i v h => by
          have h1 := hms _ _ _ h
          rw [hB.cell (p := ⟨b, i, none⟩) (World.block_lt_of_cell? w _ h1)]
          exact h1
        have hF0 : ∀ b ∈ F0, b < w.heap.size := args_mem netO_cs o3
        refine ⟨v, m, [b0], v.ownBlock.toList ++ [], (b0 :: F0) ++ [], rfl, ⟨hms', .cons ⟨hh, fun y h => by cases h⟩ .nil (fun b hb => by simp), .cons (by rw [hB.block b0 hlt]; exact o1) o2 (args_stay (fun i hi => hB.block i hi) netO_cs o3) o4 .nil (fun i hi => by simp), ?_⟩, Mem.le_refl _, ?_, fun i b h => h, fun _ _ _ _ => rfl, ?_⟩
        · intro b hb hb2
          simp at hb hb2
          have := hnew b hb
          rcases hb2 with rfl | hb2
          · omega
          · have := hF0 b hb2; omega
        · exact hc.mono fun i hi h => by simp [Nothing] at h
        · intro b hb
          rcases List.mem_append.1 hb with hb | hb
          · simp at hb; exact .inr (hnew b hb)
          · exact .inl (by simpa using hb)
end Go.Proofs.Ytdkgnlmojmafbaa
