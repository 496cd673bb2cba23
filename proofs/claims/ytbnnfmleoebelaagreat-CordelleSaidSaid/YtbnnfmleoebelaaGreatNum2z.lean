/- The numbers of a pair: the walk, where a loop goes over a method's iterator (turned from the kit's worked ones). -/
import Derived.RangeFuncBox
import Derived.RangeFuncNested
import Derived.RangeFuncLeaves
import Derived.Shelf.Abstract
import Derived.OwnWalkIn
import Derived.TacticsInMore
import Derived.LoopNIn
import Derived.LoopIn
import Derived.Test.YtbnnfmleoebelaaGreatNum1z
namespace Go.Proofs.YtbnnfmleoebelaaGreat
open Go.RowKit Go.Shelf
set_option linter.unusedVariables false
set_option linter.unusedSimpArgs false

attribute [local go_sem] Oper.semAt_some
def prN (p b : Int) (k : Nat) : List Int := p :: (List.range k).filterMap fun i => if b.toNat.testBit i = true then some ((p + 1 + (i : Int)) % 65536) else none
theorem prN_succ (p b : Int) (k : Nat) : prN p b (k + 1) = prN p b k ++ (if b.toNat.testBit k = true then [(p + 1 + (k : Int)) % 65536] else []) := by
  unfold prN
  rw [List.range_succ, List.filterMap_append, List.cons_append]
  congr 2
  by_cases h : b.toNat.testBit k = true <;> simp [h]
theorem prN_len (p b : Int) (k : Nat) : (prN p b k).length ≤ k + 1 := by
  unfold prN
  rw [List.length_cons]
  have := List.length_filterMap_le (fun i : Nat => if b.toNat.testBit i = true then some ((p + 1 + (i : Int)) % 65536) else none) (List.range k)
  rw [List.length_range] at this
  omega
theorem u16_bit {b : Int} (hb : 0 ≤ b ∧ b < 65536) (k : Nat) : bits .and .u16 (b / 2 ^ k) 1 = if b.toNat.testBit k = true then 1 else 0 := by
  obtain ⟨n, rfl⟩ : ∃ n : Nat, b = (n : Int) := ⟨b.toNat, by omega⟩
  have e0 : ((n : Int) / 2 ^ k) = ((n / 2 ^ k : Nat) : Int) := by simp
  have hlt : n / 2 ^ k < 65536 := Nat.lt_of_le_of_lt (Nat.div_le_self ..) (by omega)
  have e2 : (BitVec.ofInt 16 ((n / 2 ^ k : Nat) : Int)).toNat = n / 2 ^ k := by
    rw [BitVec.toNat_ofInt, ← Int.natCast_emod, Int.toNat_natCast, Nat.mod_eq_of_lt hlt]
  rw [e0]
  show IntKind.u16.wrap ((BitVec.ofInt 16 ((n / 2 ^ k : Nat) : Int) &&& BitVec.ofInt 16 1).toNat : Int) = _
  rw [BitVec.toNat_and, e2, show (BitVec.ofInt 16 1).toNat = 1 by decide, Nat.and_one_is_mod, Int.toNat_natCast, Nat.testBit_eq_decide_div_mod_eq]
  have h2 : n / 2 ^ k % 2 < 2 := Nat.mod_lt _ (by decide)
  rw [wrap_u16 (Int.natCast_nonneg _) (by omega)]
  by_cases h : n / 2 ^ k % 2 = 1
  · rw [if_pos (by simpa using h)]; omega
  · rw [if_neg (by simpa using h)]; omega
theorem u16_at {p : Int} (hp : 0 ≤ p ∧ p < 65536) (k : Nat) (hk : k < 16) : IntKind.u16.wrap (IntKind.u16.wrap (p + 1) + (k : Int)) = (p + 1 + (k : Int)) % 65536 := by
  have h : ∀ n : Int, IntKind.u16.wrap n = n % 65536 := fun n => by simp [IntKind.wrap, IntKind.bits, IntKind.signed]
  rw [h, h]
  omega
def pairAt (W : World) (B : Nat) (p b : Int) : Prop := W.heap[B]? = some (.cells #[.int .u16 p, .int .u16 b] 76 (0, 0))
def PairKeep (W W' : World) : Prop := ∀ (B : Nat) (cs : Array Value), W.heap[B]? = some (.cells cs 76 (0, 0)) → W'.heap[B]? = some (.cells cs 76 (0, 0))
set_option maxRecDepth 100000 in
set_option maxHeartbeats 2000000 in
theorem pn_each_in (F : Fence) (n : Nat) (h7 : F.fn 48) (hro : F.round = none) (hn : 1 ≤ n) (l : Nat) (p b : Int) (hp : 0 ≤ p ∧ p < 65536) (hb : 0 ≤ b ∧ b < 65536) (J : List Int → World → Prop) (hJ : ∀ s W o, J s W → J s (W.alloc o))
    (hY : ∀ pre x W1, J pre W1 → pre.length < 17 → YieldAt F (n - 1) Tryz.prog l #[.int .u16 x] W1 fun e W' => e = .returned (.bool true) ∧ J (pre ++ [x]) W' ∧ PairKeep W1 W') (W : World) (h0 : J [] W) :
    CallsIn F n Tryz.prog 48 #[.agg #[.int .u16 p, .int .u16 b], .func (.yield l) #[] #[]] W fun e W' => (∃ v, e = .returned v) ∧ J (prN p b 16) W' := by
  refine callsIn_of_wp Tryz.func48 rfl h7 ?_ hro
  simp only [Tryz.ntmps48, List.size_toArray, List.length_cons, List.length_nil, Nat.reduceAdd, Nat.reduceSub, Array.replicate_succ, Array.replicate_zero, List.push_toArray, List.append_toArray, List.nil_append, List.cons_append]
  obtain ⟨fn, tmps, assign, body, hy, hR⟩ := hY [] p (W.alloc (.cells #[.int .u16 p, .int .u16 b] 76)) (hJ _ _ _ h0) (by simp)
  have hpa : pairAt (W.alloc (.cells #[.int .u16 p, .int .u16 b] 76)) W.heap.size p b := World.alloc_heap_new W _
  have hY := Lib.hid hY
  have hJ := Lib.hid hJ
  gi_wp2_with (simp only [hy, Result.andThen_ok])
  refine hR.mono ?_
  rintro e W3 ⟨rfl, hJ3, hk3⟩
  have hpa3 : pairAt W3 W.heap.size p b := hk3 _ _ hpa
  have hc0 : W3.cell? ⟨W.heap.size, 0, none⟩ = some (.int .u16 p) := by simp [World.cell?, show W3.heap[W.heap.size]? = _ from hpa3]
  gi_wp2
  gi_loopw [10] (fun i wr => ∃ k : Nat, k ≤ 16 ∧ i = .int .u16 k ∧ J (prN p b k) wr ∧ pairAt wr W.heap.size p b) (fun i _ => 16 - (intOf i).toNat)
  case atStart => exact ⟨0, by decide, rfl, hJ3, hpa3⟩
  case round =>
    obtain ⟨k, hk, rfl, hJk, hpk⟩ := hrel
    have hc0 : wr.cell? ⟨W.heap.size, 0, none⟩ = some (.int .u16 p) := by simp [World.cell?, show wr.heap[W.heap.size]? = _ from hpk]
    have hc1 : wr.cell? ⟨W.heap.size, 1, none⟩ = some (.int .u16 b) := by simp [World.cell?, show wr.heap[W.heap.size]? = _ from hpk]
    by_cases hlt : k < 16
    · have hus := prN_succ p b k
      by_cases hbit : b.toNat.testBit k = true
      · rw [if_pos hbit, ← u16_at hp k hlt] at hus
        have hus := Lib.hid hus
        have hbt := u16_bit hb k
        rw [if_pos hbit] at hbt
        clear hbit
        obtain ⟨fn2, tmps2, assign2, body2, hy2, hR2⟩ := hY.out _ (IntKind.u16.wrap (IntKind.u16.wrap (p + 1) + (k : Int))) wr hJk (by have := prN_len p b k; omega)
        gi_wp2_with (simp only [hy2, Result.andThen_ok])
        refine hR2.mono ?_
        rintro e W4 ⟨rfl, hJ4, hk4⟩
        have hpa4 : pairAt W4 W.heap.size p b := hk4 _ _ hpk
        gi_wp2
        go_roundw
        case rel => exact ⟨k + 1, by omega, by simp, by rw [hus.out]; exact hJ4, hpa4⟩
        case measure => simp [intOf]; omega
      · rw [if_neg hbit, List.append_nil] at hus
        have hus := Lib.hid hus
        have hbt := u16_bit hb k
        rw [if_neg hbit] at hbt
        clear hbit
        gi_wp2
        refine ⟨fun f e => (by cases e), ?_⟩
        gi_wp2
        go_roundw
        case rel => exact ⟨k + 1, by omega, by simp, by rw [hus.out]; exact hJk, hpk⟩
        case measure => simp [intOf]; omega
    · obtain rfl : k = 16 := by omega
      gi_wp2
      go_end0
      exact ⟨⟨_, rfl⟩, hJk⟩
/-- Between two rounds: what was met lies in the box. -/
structure NumAt (w : World) (rec : Loop) (l D : Nat) (pre : List Int) (W : World) : Prop where
  o : ∃ v, Boxed W (w.heap.size + 1) 29 v ∧ W.ownsRow w.heap.size 40 1 v pre.length (pre.map (Value.int .u16))
  L : W.heap[l]? = some (.loop rec)
  K : W.heap[D]? = some (.deferred (some []))
  b : Below w.heap.size w W
theorem NumAt.alloc {w W : World} {rec : Loop} {l D : Nat} {pre : List Int} (h : NumAt w rec l D pre W) (o : Obj) : NumAt w rec l D pre (W.alloc o) := by
  obtain ⟨v, h1, h2⟩ := h.o
  refine ⟨⟨v, h1.alloc o, h2.alloc o⟩, (Below.heap_alloc W o l (Array.getElem?_eq_some_iff.1 h.L).1).trans h.L, (Below.heap_alloc W o D (Array.getElem?_eq_some_iff.1 h.K).1).trans h.K, h.b.alloc h.b.size _⟩
theorem num_info : (Tryz.prog.info? 40).map (fun i => (i.zero, i.size, i.bytes)) = some (some (.int .u16 0), 1, 2) := by kernel_rfl
/-- A loop over a function that is bound to a value: the call of that function, and what follows; the loop's record is told. -/
theorem loop_inM {F : Fence} {n : Nat} {P : Program} {g : Operand} {ps : Array Tmp} {assign body : Code} {Q : Exit → Act → World → Prop} {a : Act} {w : World} (hro : F.round = none) (h1 : 1 ≤ n) (gf : Nat) (fa lb : Array Value) (hg : a.eval g = .func (.func gf) fa lb) (hFg : F.fn gf)
    (eg : ∀ args w, (callFunc gf args).run P w = .ok (.enter gf args) w)
    (h : ∀ (fn : FuncId) (lp : Loop), F.fn fn → lp = { state := .ready, pending := none, fn, tmps := a.tmps, params := ps, assign, body, defers := w.heap.size } → CallsIn F (n - 1) P gf ((fa ++ #[.func (.yield (w.heap.size + 1)) #[] #[]]) ++ lb) ((w.alloc (.deferred (some []))).alloc (.loop lp)) (rangePost F n P (w.heap.size + 1) Q { a with defers := { target := .collected w.heap.size, args := #[] } :: a.defers })) :
    (Code.rangeFunc g ps assign body).wpIn F n P Q a w := by
  refine wpIn_rangeFunc ?_
  intro fn hfn
  rw [hro]
  obtain ⟨lp, hlp⟩ : ∃ lp : Loop, lp = { state := .ready, pending := none, fn, tmps := a.tmps, params := ps, assign, body, defers := w.heap.size } := ⟨_, rfl⟩
  refine ⟨w.heap.size + 1, [{ target := .collected w.heap.size, args := #[] }], (w.alloc (.deferred (some []))).alloc (.loop lp), { target := .fn (.func gf) lb, args := fa ++ #[.func (.yield (w.heap.size + 1)) #[] #[]] }, (w.alloc (.deferred (some []))).alloc (.loop lp), gf,
    (fa ++ #[.func (.yield (w.heap.size + 1)) #[] #[]]) ++ lb, (w.alloc (.deferred (some []))).alloc (.loop lp), ?_, ?_, ?_, ?_, fun _ => h1, ?_⟩
  · subst hlp; exact run_enterLoop_outer _ _ _ _ _
  · simp only [resolve, hg]
    simp [go_sem]
  · intro f' hf'; simp [Target.leads] at hf'; subst hf'; exact hFg
  · simp [invoke, go_sem, eg]
  · exact h fn lp hfn hlp
set_option maxRecDepth 100000 in
set_option maxHeartbeats 4000000 in
theorem pn_numbers (F : Fence) (h3 : F.fn 31) (h7 : F.fn 48) (hro : F.round = none) (p b : Int) (hp : 0 ≤ p ∧ p < 65536) (hb : 0 ≤ b ∧ b < 65536) (w : World) :
    CallsIn F 3 Tryz.prog 31 #[.agg #[.int .u16 p, .int .u16 b]] w fun e w' => ∃ v, e = .returned v ∧ w'.ownsRow w.heap.size 40 1 v (prN p b 16).length ((prN p b 16).map (Value.int .u16)) ∧ Below w.heap.size w w' := by
  have h1 : 1 ≤ 3 := by omega
  obtain ⟨i0, hi, hz0, hz1, hz2⟩ := info_parts num_info
  refine callsIn_of_wp_marks Tryz.func31 rfl h3 ?_ hro
  simp only [Tryz.ntmps31, List.size_toArray, List.length_cons, List.length_nil, Nat.reduceAdd, Nat.reduceSub, Array.replicate_succ, Array.replicate_zero, List.push_toArray, List.append_toArray, List.nil_append, List.cons_append]
  have bO := Boxed.new (w.alloc (.cells #[.int .u16 p, .int .u16 b] 76)) 29 (.slice none 0 0)
  simp only [World.size_alloc] at bO
  have B2 : Below w.heap.size w ((w.alloc (.cells #[.int .u16 p, .int .u16 b] 76)).alloc (.cells #[.slice none 0 0] 29)) := ((Below.refl _ w).alloc (Nat.le_refl _) _).alloc (by simp) _
  have hs2 : ((w.alloc (.cells #[.int .u16 p, .int .u16 b] 76)).alloc (.cells #[.slice none 0 0] 29)).heap.size = w.heap.size + 2 := by simp
  gi_wp2
  generalize ((w.alloc (.cells #[.int .u16 p, .int .u16 b] 76)).alloc (.cells #[.slice none 0 0] 29)) = W2 at *
  refine loop_inM hro h1 48 #[.agg #[.int .u16 p, .int .u16 b]] #[] rfl h7 (enters_of Tryz.func48 (by kernel_rfl) rfl) fun fn lp hfn hlp => ?_
  have hL4 : ((W2.alloc (.deferred (some []))).alloc (.loop lp)).heap[W2.heap.size + 1]? = some (.loop lp) := by
    have := World.alloc_heap_new (W2.alloc (.deferred (some []))) (.loop lp); rwa [World.size_alloc] at this
  have hK4 : ((W2.alloc (.deferred (some []))).alloc (.loop lp)).heap[W2.heap.size]? = some (.deferred (some [])) := (Below.heap_alloc _ _ _ (by simp)).trans (World.alloc_heap_new W2 _)
  have hN : NumAt w lp (W2.heap.size + 1) W2.heap.size [] ((W2.alloc (.deferred (some []))).alloc (.loop lp)) :=
    ⟨⟨_, (bO.alloc _).alloc _, World.ownsRow_nil _ _ _ _⟩, hL4, hK4, (B2.alloc B2.size _).alloc (by have := B2.size; simp; omega) _⟩
  generalize ((W2.alloc (.deferred (some []))).alloc (.loop lp)) = W4 at *
  clear hL4 hK4
  refine (pn_each_in F (3 - 1) h7 hro (by omega) (W2.heap.size + 1) p b hp hb (NumAt w lp (W2.heap.size + 1) W2.heap.size) (fun s W o h => h.alloc o) (fun pre x W hJ hlt => ?_) W4 hN).mono ?_
  · obtain ⟨v, hv, hrow⟩ := hJ.o
    have hl : W2.heap.size + 1 < W.heap.size := (Array.getElem?_eq_some_iff.1 hJ.L).1
    have hy := run_yield (P := Tryz.prog) (args := #[.int .u16 x]) hJ.L (by rw [hlp]; rfl)
    rw [hlp] at hy
    refine ⟨fn, _, _, _, hy, roundIn_of_wpIn hfn ?_⟩
    have hst : lp.state = .ready := by rw [hlp]
    have hbr := run_beginRound (P := Tryz.prog) hJ.L hst
    obtain ⟨W5, hW5⟩ : ∃ W5, W.putObj (W2.heap.size + 1) (.loop { lp with state := .busy }) = W5 := ⟨_, rfl⟩
    rw [hW5] at hbr
    have hDl : W2.heap.size ≠ W2.heap.size + 1 := by omega
    have hOl : w.heap.size + 1 ≠ W2.heap.size + 1 := by omega
    have hL5 : W5.heap[W2.heap.size + 1]? = some (.loop { lp with state := .busy }) := by rw [← hW5]; exact World.putObj_heap_same hl
    have hv5 : Boxed W5 (w.heap.size + 1) 29 v := by rw [← hW5]; exact (World.putObj_heap_other hOl).trans hv
    have hrow5 : W5.ownsRow w.heap.size 40 1 v pre.length (pre.map (Value.int .u16)) := by rw [← hW5]; exact ownsRow_putObj hrow _ hJ.L rfl
    have hK5 : W5.heap[W2.heap.size]? = some (.deferred (some [])) := by rw [← hW5]; exact (World.putObj_heap_other hDl).trans hJ.K
    have hB5 : Below w.heap.size w W5 := by rw [← hW5]; exact hJ.b.trans (belowK_b (w := w) (Nat.le_refl _) W _ _ _ (by omega) hJ.L rfl rfl)
    have hP5 : PairKeep W W5 := fun B cs hB => by
      rw [← hW5]
      refine (World.putObj_heap_other ?_).trans hB
      intro e
      rw [e, hJ.L] at hB
      cases hB
    have hs5 := hB5.size
    clear hW5 hrow hl hst
    have hc := hv5.cell
    have hlp := Lib.hid hlp
    gi_wp2_with (first | simp only [hbr, Result.andThen_ok] | (gi_at_builtin; refine wpListIn_append_own _ rfl _ _ 29 rfl w.heap.size 40 i0 (.int .u16 0) 1 2 Tryz.underlying29 hi hz0 hz1 hz2 rfl (by decide) _ _ _ rfl (hrow5.alloc _) ⟨W5.heap.size, 0, none⟩ 1 1 [.int .u16 x] rfl rfl (cell_one_new _ _ _) (by simp [Value.oneCell']) (by unfold maxLen; omega) (by omega) (by simp; omega) ?_; intro v' w1 hown' hgrow _; obtain ⟨g', cap', rfl⟩ := ownsRow_succ hown'; obtain ⟨hv1, hv2, hr2, hk2, hb2⟩ := hv5.appended (by decide) hrow5 hs5 (Nat.le_succ _) hown' hgrow; have hc1 := hv1.cell; have hf1 := hv1.frozen))
    have hL6 := hk2.same _ _ hL5 rfl
    have hK6 := hk2.same _ _ hK5 rfl
    rw [hs2] at hL6 hK6
    have hl6 := (Array.getElem?_eq_some_iff.1 hL6).1
    have hP6 : PairKeep W5 (w1.setCell ⟨w.heap.size + 1, 0, none⟩ (Value.slice (some ⟨g', 0, none⟩) (pre.length + 1) cap')) := fun B cs hB => by
      have hlt : B < W5.heap.size := (Array.getElem?_eq_some_iff.1 hB).1
      have hne : B ≠ w.heap.size + 1 := fun e => by
        have := show W5.heap[w.heap.size + 1]? = _ from hv5
        rw [← e, hB] at this
        simp at this
      rw [Below.heap_setCell _ _ _ B hne]
      have hw1 := hgrow.block B (by simp; omega) (fun e => by
        rcases (hrow5.alloc (.cells #[.int .u16 x] 40)).2 with ⟨e2, _⟩ | ⟨g, cap, cur, e2, hb3, hgb, _⟩
        · have e3 : some B = v.ownBlock := e
          rw [e2] at e3
          cases e3
        · have e3 : some B = v.ownBlock := e
          rw [e2] at e3
          cases e3
          rw [Below.heap_alloc _ _ _ hlt, hB] at hgb
          simp at hgb)
      rw [hw1, Below.heap_alloc _ _ _ hlt]
      exact hB
    rw [show w.heap.size + 2 = W2.heap.size from hs2.symm] at hL6 hK6 hl6
    rw [← hs2]
    obtain ⟨W6, hW6⟩ : ∃ W6, W6 = w1.setCell ⟨w.heap.size + 1, 0, none⟩ (Value.slice (some ⟨g', 0, none⟩) (pre.length + 1) cap') := ⟨_, rfl⟩
    rw [← hW6] at hv2 hr2 hk2 hb2 hL6 hK6 hl6 hP6 ⊢
    clear hW6 hown' hgrow hv1 hc1 hf1 hc
    have hlp2 : ({ lp with state := .ready, pending := none } : Loop) = lp := by rw [hlp.out]
    refine ⟨_, _, run_endRound none hL6, rfl, ?_, ?_⟩
    · refine ⟨⟨_, (World.putObj_heap_other hOl).trans hv2, by
        have := ownsRow_putObj hr2 (.loop lp) hL6 rfl
        simpa [hlp2] using this⟩, ?_, (World.putObj_heap_other hDl).trans hK6, (hB5.trans hb2).trans (belowK_b (w := w) (Nat.le_refl _) W6 _ _ _ (by omega) hL6 rfl rfl)⟩
      have := World.putObj_heap_same (o := .loop lp) hl6
      refine Eq.trans ?_ (congrArg (fun x => some (Obj.loop x)) hlp.out)
      simpa [hlp2] using this
    · intro B cs hB
      refine (World.putObj_heap_other ?_).trans (hP6 B cs (hP5 B cs hB))
      intro e
      have := hP6 B cs (hP5 B cs hB)
      rw [e, hL6] at this
      cases this
  · rintro e W' ⟨⟨v, rfl⟩, hN⟩
    have hst : lp.state = .ready := by rw [hlp]
    have hpe : lp.pending = none := by rw [hlp]
    obtain ⟨v2, hv2, hrow2⟩ := hN.o
    have hl := (Array.getElem?_eq_some_iff.1 hN.L).1
    have hOl : w.heap.size + 1 ≠ W2.heap.size + 1 := by omega
    refine ⟨none, W'.putObj (W2.heap.size + 1) (.loop { lp with state := .exhausted }), by rw [run_endLoop hN.L (by rw [hst]; decide), hpe], ?_⟩
    have hv6 : Boxed (W'.putObj (W2.heap.size + 1) (.loop { lp with state := .exhausted })) (w.heap.size + 1) 29 v2 := (World.putObj_heap_other hOl).trans hv2
    have hrow6 := ownsRow_putObj hrow2 (.loop { lp with state := .exhausted }) hN.L rfl
    have hK6 : (W'.putObj (W2.heap.size + 1) (.loop { lp with state := .exhausted })).heap[W2.heap.size]? = some (.deferred (some [])) := (World.putObj_heap_other (by omega)).trans hN.K
    have hB6 := hN.b.trans (belowK_b (w := w) (Nat.le_refl _) W' _ _ (.loop { lp with state := .exhausted }) (by omega) hN.L rfl rfl)
    generalize W'.putObj (W2.heap.size + 1) (.loop { lp with state := .exhausted }) = W6 at *
    have hc6 := hv6.cell
    clear hlp
    dsimp only
    gi_wp2
    refine ⟨by simp, .inl ⟨_, _, rfl, run_takeDeferred hK6, ?_⟩⟩
    exact ⟨_, results_tmp rfl _ _ _, v2, rfl, ownsRow_putObj hrow6 _ hK6 rfl, hB6.trans (belowK_b (w := w) (Nat.le_refl _) _ _ _ _ (by omega) hK6 rfl rfl)⟩
theorem rd_pair {m : Mem} {p b : Int} {v : Value} (h : Rd m (.agg [vh p, vh b]) v) : v = .agg #[.int .u16 p, .int .u16 b] := by
  cases h with
  | agg _ ys hl hr =>
    have h0 := hr 0 (by simp)
    have h1 := hr 1 (by simp)
    simp at hl h0 h1
    have e0 := Rd.sc_eq h0
    have e1 := Rd.sc_eq h1
    congr 1
    apply Array.ext
    · simpa using hl
    · intro i h2 h3
      have : i < 2 := by simpa using h3
      match i, this with
      | 0, _ => simpa [h2] using e0
      | 1, _ => simpa [h2] using e1
set_option maxRecDepth 100000 in
set_option maxHeartbeats 8000000 in
theorem pair_numbers (x : P10) (hp : 0 ≤ x.pid ∧ x.pid < 65536) (hb : 0 ≤ x.blp ∧ x.blp < 65536) : Spec Tryz.prog 31 [.ca (.val (.agg (p10El x)))] [] (.ca (.hd (.rw 40 1 ((prN x.pid x.blp 16).map hEl)))) [] := by
  intro m w vals bs F G hh
  obtain ⟨hms, ar, ob, di⟩ := hh
  cases ar with
  | cons h0 r0 d0 =>
    cases r0
    obtain ⟨h0, rfl⟩ := h0
    have e1 := rd_pair h0
    subst e1
    cases ob
    have hcall := callsIn_wide.1 (pn_numbers Fence.wide trivial trivial rfl x.pid x.blp hp hb w)
    refine Calls.mono hcall ?_
    rintro e w' ⟨v, rfl, hown, hB⟩
    generalize prN x.pid x.blp 16 = ns at *
    have hnew : ∀ b', v.ownBlock = some b' → w.heap.size ≤ b' := fun b' hb' => by
      rcases hown.2 with ⟨rfl, _⟩ | ⟨g, c2, cur, rfl, hge, _⟩
      · cases hb'
      · cases hb'; exact hge
    have hown0 : w'.ownsRow 0 40 1 v (ns.map hEl).length (ns.map (Value.int .u16)) := by
      rw [List.length_map]
      exact ⟨hown.1, hown.2.imp id fun ⟨g, c2, cur, k1, _, k3⟩ => ⟨g, c2, cur, k1, Nat.zero_le _, k3⟩⟩
    have hmn : ∀ b', v.ownBlock = some b' → ∀ i, m b' i = none := fun b' hb' i => by
      cases hm : m b' i with
      | none => rfl
      | some u => have := World.block_lt_of_cell? w _ (hms _ _ _ hm); have := hnew b' hb'; simp at *; omega
    have hh : Hg m w' [.rw 40 1 (ns.map hEl)] [v] v.ownBlock.toList := rw_mk hown0 (fun r h => by obtain ⟨z, _, rfl⟩ := List.mem_map.1 h; rfl) (fun i j hi hj => by
      simp at hi hj
      subst hj
      exact ⟨.int .u16 ns[i], by simp [hi], by simp; exact Rd.sc _⟩) hmn
    have hms' : ∀ b i v, m b i = some v → w'.cell? ⟨b, i, none⟩ = some v := fun b i v h => by
      have h1 := hms _ _ _ h
      rw [hB.cell (p := ⟨b, i, none⟩) (World.block_lt_of_cell? w _ h1)]
      exact h1
    refine ⟨v, m, [], v.ownBlock.toList ++ [], [], rfl, ⟨hms', .cons ⟨hh, fun y h => by cases h⟩ .nil (fun b hb => by simp), .nil, fun b _ hb => by cases hb⟩, Mem.le_refl _, (Chg.ofBelow hB).mono fun i hi h => by omega, fun i b h => h, fun _ _ _ _ => rfl, ?_⟩
    intro b hb
    simp at hb
    exact .inr (hnew b hb)
/-- All numbers of pairs. -/
def allN (ps : List P10) : List Int := ps.flatMap fun p => prN p.pid p.blp 16
theorem allN_len (ps : List P10) : (allN ps).length ≤ 17 * ps.length := by
  unfold allN
  induction ps with
  | nil => simp
  | cons p ps ih =>
    rw [List.flatMap_cons, List.length_append, List.length_cons]
    have := prN_len p.pid p.blp 16
    omega
theorem allN_take (ps : List P10) (i : Nat) (h : i < ps.length) : allN (ps.take (i + 1)) = allN (ps.take i) ++ prN ps[i].pid ps[i].blp 16 := by
  unfold allN
  rw [List.take_succ_eq_append_getElem h, List.flatMap_append]
  simp
set_option maxRecDepth 100000 in
set_option maxHeartbeats 8000000 in
theorem nack_numbers (x : N10) (hx : ∀ p ∈ x.ps, (0 ≤ p.pid ∧ p.pid < 65536) ∧ 0 ≤ p.blp ∧ p.blp < 65536) (hl : x.ps.length ≤ 1000) : Spec Tryz.prog 13 [.ca (.val (.agg (n10L x)))] [] (.ca (.own 40 1 ((distL (allN x.ps)).map hEl))) [] := by
  have c2 := ser_dist (allN x.ps) (by have := allN_len x.ps; omega)
  obtain ⟨f, a, ps⟩ := x
  dsimp only at hx hl c2 ⊢
  refine spec_of Tryz.func13 rfl Tryz.ntmps13 Tryz.results13 ⟨by decide, by simp⟩ fun C hC => ?_
  (repeat' ((fail_if_success (first | refine stop_at 2 ?_ | refine stop_l 2 ?_)); (first | refine sp_ ?_ | exact ex0 | (refine ret_s [] ?_; simp (decide := true) (disch := omega) only [go_sem, ↓reduceIte, ↓put_at]))))
  refine own_s 3 (3, 9) 40 1 ?_
  simp (decide := true) (disch := omega) only [go_sem, ↓reduceIte, ↓put_at]
  (repeat' ((fail_if_success (refine stop_reg 3 ?_)); (first | refine sp_ ?_ | exact ex0 | (refine ret_s [] ?_; simp (decide := true) (disch := omega) only [go_sem, ↓reduceIte, ↓put_at]))))
  refine loop_s (α := {i : Nat // i ≤ ps.length}) (fun i => [(.k (3, 9), .row 40 1 (allN (ps.take i.1)).length), (.s 3, .av (.own (3, 9) 0 40 1 ((allN (ps.take i.1)).map hEl))), (.s 7, .av (.val (.lst 2 (ps.map p10El)))), (.s 8, .av (.val (vi ps.length))), (.s 9, .av (.val (vi i.1)))]) (fun i => ps.length - i.1) ⟨0, Nat.zero_le _⟩ ?_ (fun i => ?_)
  · rw [List.take_zero, show allN [] = [] from rfl]
    simp (decide := true) (disch := omega) only [go_sem, ↓reduceIte, ↓put_at]
  obtain ⟨i, hi⟩ := i
  dsimp only at hi ⊢
  by_cases hlt : i < ps.length
  · have hge : (ps.map p10El).getD i [] = p10El ps[i] := by simp [hlt]
    obtain ⟨q1, q2⟩ := hx ps[i] (List.getElem_mem hlt)
    have c := pair_numbers ps[i] q1 q2
    have hst := allN_take ps i hlt
    have hlen := allN_len (ps.take i)
    rw [List.length_take] at hlen
    have hlen2 := prN_len ps[i].pid ps[i].blp 16
    have hl1 : ∀ r ∈ (prN ps[i].pid ps[i].blp 16).map hEl, r.length = 1 := fun r h => by obtain ⟨z, _, rfl⟩ := List.mem_map.1 h; rfl
    generalize prN ps[i].pid ps[i].blp 16 = U at *
    generalize allN (ps.take i) = D at *
    (repeat' ((first | refine sp_ ?_ | exact ex0 | refine call_u Tryz.call31 (c) [] ex1 ?_ | (refine ret_s [] ?_; simp (decide := true) (disch := omega) only [go_sem, ↓reduceIte, ↓put_at]))))
    refine ⟨⟨by omega, by omega, hl1, fun r h y hy => by obtain ⟨z, _, rfl⟩ := List.mem_map.1 h; simp at hy; subst hy; rfl⟩, ?_⟩
    (repeat' ((first | refine sp_ ?_ | exact ex0 | (refine ret_s [] ?_; simp (decide := true) (disch := omega) only [go_sem, ↓reduceIte, ↓put_at]))))
    refine next_s (α := {i : Nat // i ≤ ps.length}) ⟨i + 1, hlt⟩ ⟨?_, by (try dsimp only); omega⟩
    (try dsimp only)
    rw [hst]
    simp (decide := true) (disch := omega) only [go_sem, ↓reduceIte, ↓put_at]
    simp
  · obtain rfl : i = ps.length := by omega
    rw [List.take_length]
    (repeat' ((first | refine sp_ ?_ | exact ex0 | refine call_u Tryz.call14 (c2) [] ex1 ?_ | (refine ret_s [] ?_; simp (decide := true) (disch := omega) only [go_sem, ↓reduceIte, ↓put_at]))))
end Go.Proofs.YtbnnfmleoebelaaGreat

