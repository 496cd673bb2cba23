
/- Package net: the paths of a net on which nothing is: the walk, where a loop goes over an iterator (turned from the kit's worked ones). -/
import Derived.RangeFuncBox
import Derived.RangeFuncNested
import Derived.RangeFuncLeaves
import Derived.Shelf.Abstract
import Derived.OwnWalkIn
import Derived.TacticsInMore
import Derived.LoopNIn
import Derived.LoopIn
import Derived.Test.YtdkgnlmojmafbaaNetM
import Derived.Test.YtdkgnlmojmafbaaTi
import Derived.Test.YtdkgnlmojmafbaaShelf
namespace Go.Proofs.Ytdkgnlmojmafbaa
open Go.RowKit Go.Shelf
set_option linter.unusedVariables false
set_option linter.unusedSimpArgs false

attribute [local go_sem] Oper.semAt_some
set_option maxHeartbeats 1000000 in
theorem np_keys_in (F : Fence) (n : Nat) (h5 : F.fn 40) (hro : F.round = none) (r : Nat) (w : World) :
    CallsIn F n Try.prog 40 #[.map (some r)] w fun e w' => e = .returned (.func (.func 45) #[] #[.pointer (some ⟨w.heap.size, 0, none⟩)]) ∧ w' = w.alloc (.cells #[.map (some r)] 50) := by
  refine callsIn_of_wp Try.func40 rfl h5 ?_ hro
  simp only [Try.ntmps40, List.size_toArray, List.length_cons, List.length_nil, Nat.reduceAdd, Nat.reduceSub, Array.replicate_succ, Array.replicate_zero, List.push_toArray, List.append_toArray, List.nil_append, List.cons_append]
  gi_wp2
  go_ret
  exact ⟨rfl, rfl⟩
set_option maxRecDepth 100000 in
set_option maxHeartbeats 1000000 in
theorem np_keys1_in (F : Fence) (n : Nat) (h7 : F.fn 45) (hro : F.round = none) (l Bs r clock : Nat) (J : List Ln → World → Prop) (W : World) (hBs : W.cell? ⟨Bs, 0, none⟩ = some (.map (some r))) (hr : W.heap[r]? = some (.map #[] clock))
    (hJ : J [] (W.alloc (.mapIter (some r) clock #[] clock))) :
    CallsIn F n Try.prog 45 #[.func (.yield l) #[] #[], .pointer (some ⟨Bs, 0, none⟩)] W fun e W' => (∃ v, e = .returned v) ∧ J [] W' := by
  refine callsIn_of_wp Try.func45 rfl h7 ?_ hro
  simp only [Try.ntmps45, List.size_toArray, List.length_cons, List.length_nil, Nat.reduceAdd, Nat.reduceSub, Array.replicate_succ, Array.replicate_zero, List.push_toArray, List.append_toArray, List.nil_append, List.cons_append]
  have hrg := run_range_map (P := Try.prog) W 50 _ _ r #[] clock Try.underlying50 hr
  have hit : (W.alloc (.mapIter (some r) clock #[] clock)).heap[W.heap.size]? = some (.mapIter (some r) clock #[] clock) := (MapKept.heap_alloc W _).1
  have hr2 : (W.alloc (.mapIter (some r) clock #[] clock)).heap[r]? = some (.map #[] clock) := by
    rw [(MapKept.heap_alloc W _).2 r (Array.getElem?_eq_some_iff.1 hr).1]
    exact hr
  have hnx : ∀ ty, (Instr.next (.pointer (some ⟨W.heap.size, 0, none⟩)) false ty).run Try.prog (W.alloc (.mapIter (some r) clock #[] clock)) = .ok (.tuple #[.bool false]) (W.alloc (.mapIter (some r) clock #[] clock)) := fun ty => by
    rcases run_next_at (P := Try.prog) _ ty W.heap.size r clock clock #[] #[] clock hit hr2 (by simp) (Nat.le_refl _) with ⟨_, h⟩ | ⟨e, he, _⟩
    · exact h
    · simp [leftOf] at he
  generalize hW1 : W.alloc (.mapIter (some r) clock #[] clock) = W1 at *
  gi_wp2_with (simp only [hrg, Result.andThen_ok])
  gi_loopw [6] (fun i wr => wr = W1) (fun _ _ => 0)
  case atStart => rfl
  case round =>
    subst hrel
    gi_wp2_with (simp only [hnx, Result.andThen_ok])
    go_end0
    exact ⟨⟨_, rfl⟩, hJ⟩
set_option maxRecDepth 100000 in
set_option maxHeartbeats 2000000 in
theorem np_len64 (F : Fence) (n : Nat) (hf : F.fn 58) (hro : F.round = none) (w : World) :
    CallsIn F n Try.prog 58 #[.int .u64 0] w fun e w' => e = .returned (.int .i64 0) ∧ w' = w := by
  refine callsIn_of_wp Try.func58 rfl hf ?_ hro
  simp only [Try.ntmps58, List.size_toArray, List.length_cons, List.length_nil, Nat.reduceAdd, Nat.reduceSub, Array.replicate_succ, Array.replicate_zero, List.push_toArray, List.append_toArray, List.nil_append, List.cons_append]
  gi_wp2
  go_ret
  exact ⟨by kernel_rfl, rfl⟩
set_option maxRecDepth 100000 in
set_option maxHeartbeats 2000000 in
theorem np_len (F : Fence) (n : Nat) (hf : F.fn 47) (h2 : F.fn 58) (hn : 1 ≤ n) (hro : F.round = none) (w : World) :
    CallsIn F n Try.prog 47 #[.int .u64 0] w fun e w' => e = .returned (.int .i64 0) ∧ w' = w := by
  refine callsIn_of_wp Try.func47 rfl hf ?_ hro
  simp only [Try.ntmps47, List.size_toArray, List.length_cons, List.length_nil, Nat.reduceAdd, Nat.reduceSub, Array.replicate_succ, Array.replicate_zero, List.push_toArray, List.append_toArray, List.nil_append, List.cons_append]
  gi_wp2_with (gi_at_call 58; refine (np_len64 F (n - 1) h2 hro _).mono ?_; rintro e W ⟨rfl, rfl⟩)
  go_ret
  exact ⟨rfl, rfl⟩
set_option maxRecDepth 100000 in
set_option maxHeartbeats 2000000 in
theorem np_ins (F : Fence) (n : Nat) (hf : F.fn 48) (hro : F.round = none) (w : World) :
    CallsIn F n Try.prog 48 #[.slice none 0 0, .int .i64 0, .int .i64 0] w fun e w' => e = .returned (.tuple #[]) ∧ w' = w := by
  refine callsIn_of_wp Try.func48 rfl hf ?_ hro
  simp only [Try.ntmps48, List.size_toArray, List.length_cons, List.length_nil, Nat.reduceAdd, Nat.reduceSub, Array.replicate_succ, Array.replicate_zero, List.push_toArray, List.append_toArray, List.nil_append, List.cons_append]
  gi_wp2
  gi_loopw [6] (fun i wr => i = .int .i64 1 ∧ wr = w) (fun _ _ => 0)
  case atStart => exact ⟨rfl, rfl⟩
  case round =>
    obtain ⟨rfl, rfl⟩ := hrel
    gi_wp2
    go_end0
    exact ⟨rfl, rfl⟩
set_option maxRecDepth 100000 in
set_option maxHeartbeats 2000000 in
theorem np_pdq (F : Fence) (n : Nat) (hf : F.fn 46) (h2 : F.fn 48) (hn : 1 ≤ n) (hro : F.round = none) (w : World) :
    CallsIn F n Try.prog 46 #[.slice none 0 0, .int .i64 0, .int .i64 0, .int .i64 0] w fun e w' => e = .returned (.tuple #[]) ∧ w' = w := by
  refine callsIn_of_wp Try.func46 rfl hf ?_ hro
  simp only [Try.ntmps46, List.size_toArray, List.length_cons, List.length_nil, Nat.reduceAdd, Nat.reduceSub, Array.replicate_succ, Array.replicate_zero, List.push_toArray, List.append_toArray, List.nil_append, List.cons_append]
  have h1 : 1 ≤ n := hn
  gi_wp2
  gi_loopw [1, 2, 3] (fun i j k wr => i = .int .i64 0 ∧ j = .int .i64 0 ∧ k = .int .i64 0 ∧ wr = w) (fun _ _ _ _ => 0)
  case atStart => exact ⟨rfl, rfl, rfl, rfl⟩
  case round =>
    obtain ⟨rfl, rfl, rfl, rfl⟩ := hrel
    gi_wp2_with (gi_at_call 48; refine (np_ins F (n - 1) h2 hro _).mono ?_; rintro e W ⟨rfl, rfl⟩)
    refine bodyPost_ret (results_none rfl _ _ _) rfl ?_
    exact ⟨rfl, rfl⟩
set_option maxRecDepth 100000 in
set_option maxHeartbeats 2000000 in
theorem np_sort (F : Fence) (n : Nat) (hf : F.fn 41) (h2 : F.fn 48) (h3 : F.fn 46) (h4 : F.fn 47) (h5 : F.fn 58) (hn : 2 ≤ n) (hro : F.round = none) (w : World) :
    CallsIn F n Try.prog 41 #[.slice none 0 0] w fun e w' => e = .returned (.tuple #[]) ∧ w' = w := by
  refine callsIn_of_wp Try.func41 rfl hf ?_ hro
  simp only [Try.ntmps41, List.size_toArray, List.length_cons, List.length_nil, Nat.reduceAdd, Nat.reduceSub, Array.replicate_succ, Array.replicate_zero, List.push_toArray, List.append_toArray, List.nil_append, List.cons_append]
  have h1 : 1 ≤ n := by omega
  gi_wp2_with first | (gi_at_call 47; refine (np_len F (n - 1) h4 h5 (by omega) hro _).mono ?_; rintro e W ⟨rfl, rfl⟩) | (gi_at_call 46; refine (np_pdq F (n - 1) h3 h2 (by omega) hro _).mono ?_; rintro e W ⟨rfl, rfl⟩)
  go_end0
  exact ⟨rfl, rfl⟩
set_option maxRecDepth 100000 in
set_option maxHeartbeats 4000000 in
/-- A loop over a function: the call of that function, and what follows. -/
theorem loop_in {F : Fence} {n : Nat} {P : Program} {g : Operand} {ps : Array Tmp} {assign body : Code} {Q : Exit → Act → World → Prop} {a : Act} {w : World} (hro : F.round = none) (h1 : 1 ≤ n) (gf : Nat) (lb : Array Value) (hg : a.eval g = .func (.func gf) #[] lb) (hFg : F.fn gf)
    (eg : ∀ args w, (callFunc gf args).run P w = .ok (.enter gf args) w)
    (h : ∀ lp : Loop, lp.state = .ready → lp.pending = none → CallsIn F (n - 1) P gf (#[.func (.yield (w.heap.size + 1)) #[] #[]] ++ lb) ((w.alloc (.deferred (some []))).alloc (.loop lp)) (rangePost F n P (w.heap.size + 1) Q { a with defers := { target := .collected w.heap.size, args := #[] } :: a.defers })) :
    (Code.rangeFunc g ps assign body).wpIn F n P Q a w := by
  refine wpIn_rangeFunc ?_
  intro fn hfn
  rw [hro]
  obtain ⟨lp, hlp⟩ : ∃ lp : Loop, lp = { state := .ready, pending := none, fn, tmps := a.tmps, params := ps, assign, body, defers := w.heap.size } := ⟨_, rfl⟩
  refine ⟨w.heap.size + 1, [{ target := .collected w.heap.size, args := #[] }], (w.alloc (.deferred (some []))).alloc (.loop lp), { target := .fn (.func gf) lb, args := #[.func (.yield (w.heap.size + 1)) #[] #[]] }, (w.alloc (.deferred (some []))).alloc (.loop lp), gf,
    #[.func (.yield (w.heap.size + 1)) #[] #[]] ++ lb, (w.alloc (.deferred (some []))).alloc (.loop lp), ?_, ?_, ?_, ?_, fun _ => h1, ?_⟩
  · subst hlp; exact run_enterLoop_outer _ _ _ _ _
  · simp only [resolve, hg]
    simp [go_sem]
  · intro f' hf'; simp [Target.leads] at hf'; subst hf'; exact hFg
  · simp [invoke, go_sem, eg]
  · exact h lp (by subst hlp; rfl) (by subst hlp; rfl)
set_option maxRecDepth 100000 in
set_option maxHeartbeats 2000000 in
theorem np_paths (F : Fence) (n : Nat) (h3 : F.fn 29) (hk : F.fn 40) (h7 : F.fn 45) (s1 : F.fn 41) (s2 : F.fn 48) (s3 : F.fn 46) (s4 : F.fn 47) (s5 : F.fn 58)
    (hro : F.round = none) (hn : 4 ≤ n) (b r clock : Nat) (way : Int) (w : World) (hb : w.cell? ⟨b, 2, none⟩ = some (.map (some r))) (hr : w.heap[r]? = some (.map #[] clock)) :
    CallsIn F n Try.prog 29 #[.pointer (some ⟨b, 0, none⟩), .int .i64 way] w fun e w' => e = .returned (.slice none 0 0) ∧ Below w.heap.size w w' := by
  have h1 : 1 ≤ n := by omega
  refine callsIn_of_wp_marks Try.func29 rfl h3 ?_ hro
  simp only [Try.ntmps29, List.size_toArray, List.length_cons, List.length_nil, Nat.reduceAdd, Nat.reduceSub, Array.replicate_succ, Array.replicate_zero, List.push_toArray, List.append_toArray, List.nil_append, List.cons_append]
  have hbl := World.block_lt_of_cell? w _ hb
  have hrl := (Array.getElem?_eq_some_iff.1 hr).1
  have B1 : Below w.heap.size w (w.alloc (.cells #[.int .i64 way] 3)) := (Below.refl _ w).alloc (Nat.le_refl _) _
  have B2 : Below w.heap.size w ((w.alloc (.cells #[.int .i64 way] 3)).alloc (.cells #[.slice none 0 0] 62)) := B1.alloc (by simp) _
  have B3 : Below w.heap.size w (((w.alloc (.cells #[.int .i64 way] 3)).alloc (.cells #[.slice none 0 0] 62)).alloc (.cells #[.map (some r)] 50)) := B2.alloc (by simp; omega) _
  have hb2 := (B2.cell (p := ⟨b, 2, none⟩) hbl).trans hb
  have hr3 := (B3.block r hrl).trans hr
  have hs3 : (((w.alloc (.cells #[.int .i64 way] 3)).alloc (.cells #[.slice none 0 0] 62)).alloc (.cells #[.map (some r)] 50)).heap.size = w.heap.size + 3 := by simp
  have hk3 : (((w.alloc (.cells #[.int .i64 way] 3)).alloc (.cells #[.slice none 0 0] 62)).alloc (.cells #[.map (some r)] 50)).heap[w.heap.size + 2]? = some (.cells #[.map (some r)] 50) := by
    have := World.alloc_heap_new ((w.alloc (.cells #[.int .i64 way] 3)).alloc (.cells #[.slice none 0 0] 62)) (.cells #[.map (some r)] 50)
    simpa using this
  have ho3 : (((w.alloc (.cells #[.int .i64 way] 3)).alloc (.cells #[.slice none 0 0] 62)).alloc (.cells #[.map (some r)] 50)).heap[w.heap.size + 1]? = some (.cells #[.slice none 0 0] 62) := by
    rw [Below.heap_alloc _ _ _ (by simp)]
    have := World.alloc_heap_new (w.alloc (.cells #[.int .i64 way] 3)) (.cells #[.slice none 0 0] 62)
    simpa using this
  gi_wp2_with (gi_at_call 40; refine (np_keys_in F (n - 1) hk hro r _).mono ?_; rintro e W ⟨rfl, rfl⟩)
  generalize (((w.alloc (.cells #[.int .i64 way] 3)).alloc (.cells #[.slice none 0 0] 62)).alloc (.cells #[.map (some r)] 50)) = W3 at *
  refine loop_in hro h1 45 #[.pointer (some ⟨w.heap.size + 1 + 1, 0, none⟩)] rfl h7 (enters_of Try.func45 (by kernel_rfl) rfl) fun lp hst hpe => ?_
  have hK4 : ((W3.alloc (.deferred (some []))).alloc (.loop lp)).heap[W3.heap.size]? = some (.deferred (some [])) := (Below.heap_alloc _ _ _ (by simp)).trans (World.alloc_heap_new W3 _)
  have hL4 : ((W3.alloc (.deferred (some []))).alloc (.loop lp)).heap[W3.heap.size + 1]? = some (.loop lp) := by
    have := World.alloc_heap_new (W3.alloc (.deferred (some []))) (.loop lp); rwa [World.size_alloc] at this
  have B4 : Below W3.heap.size W3 ((W3.alloc (.deferred (some []))).alloc (.loop lp)) := ((Below.refl _ W3).alloc (Nat.le_refl _) _).alloc (by simp) _
  have hs4 : ((W3.alloc (.deferred (some []))).alloc (.loop lp)).heap.size = W3.heap.size + 2 := by simp
  have hr4 := (B4.block r (by omega)).trans hr3
  have hk4 := (B4.block (w.heap.size + 2) (by omega)).trans hk3
  have ho4 := (B4.block (w.heap.size + 1) (by omega)).trans ho3
  generalize ((W3.alloc (.deferred (some []))).alloc (.loop lp)) = W4 at *
  refine (np_keys1_in F (n - 1) h7 hro (W3.heap.size + 1) (w.heap.size + 1 + 1) r clock (fun _ W => W = W4.alloc (.mapIter (some r) clock #[] clock)) W4 (by
    show W4.cell? ⟨w.heap.size + 2, 0, none⟩ = _
    simp [World.cell?, hk4]) hr4 rfl).mono ?_
  rintro e W' ⟨⟨v, rfl⟩, rfl⟩
  have B5 : Below W4.heap.size W4 (W4.alloc (.mapIter (some r) clock #[] clock)) := (Below.refl _ W4).alloc (Nat.le_refl _) _
  have hL5 := (B5.block (W3.heap.size + 1) (by omega)).trans hL4
  have hK5 := (B5.block W3.heap.size (by omega)).trans hK4
  have ho5 := (B5.block (w.heap.size + 1) (by omega)).trans ho4
  generalize W4.alloc (.mapIter (some r) clock #[] clock) = W5 at *
  refine ⟨none, W5.putObj (W3.heap.size + 1) (.loop { lp with state := .exhausted }), by rw [run_endLoop hL5 (by rw [hst]; decide), hpe], ?_⟩
  have ho6 : (W5.putObj (W3.heap.size + 1) (.loop { lp with state := .exhausted })).heap[w.heap.size + 1]? = some (.cells #[.slice none 0 0] 62) := (World.putObj_heap_other (by omega)).trans ho5
  have hK6 : (W5.putObj (W3.heap.size + 1) (.loop { lp with state := .exhausted })).heap[W3.heap.size]? = some (.deferred (some [])) := (World.putObj_heap_other (by omega)).trans hK5
  have B6 : Below w.heap.size w (W5.putObj (W3.heap.size + 1) (.loop { lp with state := .exhausted })) := ((B3.trans (B4.mono (by omega))).trans (B5.mono (by omega))).trans (belowK_b (w := w) (Nat.le_refl _) W5 _ _ _ (by omega) hL5 rfl rfl)
  generalize W5.putObj (W3.heap.size + 1) (.loop { lp with state := .exhausted }) = W6 at *
  have hc6 : W6.cell? ⟨w.heap.size + 1, 0, none⟩ = some (.slice none 0 0) := by simp [World.cell?, ho6]
  have hle : w.heap.size ≤ W3.heap.size := by omega
  clear hs3 hs4 hL4 hL5 hr4 hr3 hk3 hk4 ho3 ho4 ho5
  dsimp only
  gi_wp2_with (gi_at_call 41; refine (np_sort F (n - 1) s1 s2 s3 s4 s5 (by omega) hro _).mono ?_; rintro e W ⟨rfl, rfl⟩)
  refine ⟨by simp, .inl ⟨_, _, rfl, run_takeDeferred hK6, ?_⟩⟩
  exact ⟨_, results_tmp rfl _ _ _, rfl, B6.trans (belowK_b (w := w) (Nat.le_refl _) _ _ _ _ hle hK6 rfl rfl)⟩
end Go.Proofs.Ytdkgnlmojmafbaa
