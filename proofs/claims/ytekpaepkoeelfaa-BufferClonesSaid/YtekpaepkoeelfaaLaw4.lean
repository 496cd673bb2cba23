
/- The statements of layer 24: the fixed fact; behind any calls; walked. -/
import Derived.Test.YtekpaepkoeelfaaLaw3
namespace Go.Proofs.Ytekpaepkoeelfaa
open Go.RowKit
set_option linter.unusedVariables false
set_option linter.unusedSimpArgs false

def awB : Bu := ⟨2, 9, 99, [⟨7, 1, 0, [(0, [120])]⟩], -1, 0, 0, 0⟩
def awC : Bu := ⟨2, 9, 99, [], 7, 1, 0, 0⟩
theorem aw_put : putB (newB24 2 9 99) 7 0 1 [120] 0 = (awB, 2, []) := by kernel_rfl
theorem aw_play4 : playB awB 4 5 9 = (awB, [], []) := by kernel_rfl
theorem aw_play5 : playB awB 5 5 9 = (awC, [(7, [120])], []) := by kernel_rfl
set_option maxRecDepth 100000 in
set_option maxHeartbeats 8000000 in
theorem bufFrame_eql (a1 b1 : Int) (a2 b2 : List UInt8) (w : World) : (binOp .eql 40 (.agg [.int .u32 a1, str a2].toArray) (.agg [.int .u32 b1, str b2].toArray)).run Try.prog w = .ok (.bool (decide (a1 = b1 ∧ a2 = b2))) w := by
  by_cases h1 : a1 = b1
  · by_cases h2 : a2 = b2
    · subst h1 h2; simp [go_sem]
    · have e : (a2 == b2) = false := by simpa using h2
      simp [go_sem, h1, h2, e]
  · simp [go_sem, h1]
set_option maxRecDepth 100000 in
set_option maxHeartbeats 4000000 in
theorem awake24 : Spec Try.prog 7 [] [] (.ca (.val (vb true))) [] := by
  have h0 := newB24_ok 2 9 99
  have c0 := buf_new 2 9 99
  have c1 := buf_put h0 (by omega) 7 0 1 [120] 0 (by omega) (by simp) (by omega) (by omega)
  obtain ⟨h1, _⟩ := put_ok (i := 0) (c := 1) (s := [120]) (now := 0) h0 (t := 7) (by omega) (by simp) (by omega) (by omega)
  rw [aw_put] at c1 h1
  have c2 := buf_play awB 4 5 9 (play_prog h1 (by omega)) (by omega) (by omega) (by omega)
  have c3 := buf_play awB 5 5 9 (play_prog h1 (by omega)) (by omega) (by omega) (by omega)
  rw [aw_play4] at c2
  rw [aw_play5] at c3
  have c4 := buf_hor awC
  rw [show awC.hz = 7 from rfl] at c4
  dsimp only at c1 c2 c3
  generalize newB24 2 9 99 = N at *
  clear h0 h1
  refine spec_of Try.func7 rfl Try.ntmps7 Try.results7 ⟨by decide, by simp⟩ fun C hC => ?_
  (repeat' ((first | refine sp_ ?_ | exact ex0 | refine call_u Try.call8 (c0) [] ex1 ?_ | refine call_u Try.call9 (c1) [(8, 0)] ex1 ?_ | refine call_u Try.call10 (c2) [(8, 0)] ex1 ?_ | refine call_u Try.call10 (c3) [(8, 0)] ex1 ?_ | refine call_u Try.call14 (c4) [(8, 0)] ex1 ?_ | refine pnil_u (by first | exact .inl rfl | exact .inr rfl) (by simp (decide := true) (disch := omega) only [go_sem, ↓reduceIte, ↓put_at]; first | done | assumption | omega) ?_ | (refine ret_s [] ?_; simp (decide := true) (disch := omega) only [go_sem, ↓reduceIte, ↓put_at]))))
  refine gcmpA_s _ _ _ (.inl rfl) (by simp (decide := true) (disch := omega) only [go_sem, ↓reduceIte, ↓put_at]) (by simp (decide := true) (disch := omega) only [go_sem, ↓reduceIte, ↓put_at]) (by simp (decide := true) (disch := omega) only [go_sem, ↓reduceIte, ↓put_at]) (by kernel_rfl) (bufFrame_eql 7 7 [120] [120]) ?_
  (repeat' ((first | refine sp_ ?_ | exact ex0 | refine call_u Try.call14 (c4) [(8, 0)] ex1 ?_ | (refine ret_s [] ?_; simp (decide := true) (disch := omega) only [go_sem, ↓reduceIte, ↓put_at]))))
set_option maxRecDepth 100000 in
set_option maxHeartbeats 8000000 in
theorem refCfg_neq (a1 b1 : Int) (a2 b2 : Int) (a3 b3 : Int) (w : World) : (binOp .neq 43 (.agg [.int .i64 a1, .int .i64 a2, .int .i64 a3].toArray) (.agg [.int .i64 b1, .int .i64 b2, .int .i64 b3].toArray)).run Try.prog w = .ok (.bool (!decide (a1 = b1 ∧ a2 = b2 ∧ a3 = b3))) w := by
  by_cases h1 : a1 = b1
  · by_cases h2 : a2 = b2
    · by_cases h3 : a3 = b3
      · subst h1 h2 h3; simp [go_sem]
      · simp [go_sem, h1, h2, h3]
    · simp [go_sem, h1, h2]
  · simp [go_sem, h1]
attribute [go_sem] i64_and255
set_option maxRecDepth 100000 in
set_option maxHeartbeats 8000000 in
theorem plays24 (a b c : Int) (l : List A24) (hl : l.length ≤ maxLen) (hq : ∀ a ∈ l, a.Ok) : Spec Try.prog 5 [.ca (.val (.agg [vi a, vi b, vi c])), .ca (.val (.lst 8 (l.map a24El)))] [] (.ca (.val (vb true))) [] := by
  unfold maxLen at hl
  have c0 := awake24
  have c1 := buf_new a b c
  have c2 := dob_new a b c
  rw [new_docB] at c2
  have c3 := buf_clip a b c
  have c4 := dob_clip a b c
  have hok := newB24_ok a b c
  have hcm := refCfg_neq (max 1 (min a 1024)) (max 1 (min a 1024)) (max 1 (min b 65536)) (max 1 (min b 65536)) (max 1 (min c 67108864)) (max 1 (min c 67108864))
  generalize newB24 a b c = b0 at *
  refine spec_of Try.func5 rfl Try.ntmps5 Try.results5 ⟨by decide, by simp⟩ fun C hC => ?_
  (repeat' ((fail_if_success (refine stop_reg 8 ?_)); (first | refine sp_ ?_ | exact ex0 | refine call_u Try.call7 (c0) [] ex1 ?_ | refine call_u Try.call8 (c1) [] ex1 ?_ | refine call_u Try.call15 (c2) [] ex1 ?_ | refine call_u Try.call16 (c3) [] ex1 ?_ | refine call_u Try.call17 (c4) [] ex1 ?_ | refine pnil_u (by first | exact .inl rfl | exact .inr rfl) (by simp (decide := true) (disch := omega) only [go_sem, ↓reduceIte, ↓put_at]; first | done | assumption | omega) ?_ | (refine ret_s [] ?_; simp (decide := true) (disch := omega) only [go_sem, ↓reduceIte, ↓put_at]))))
  refine gcmpA_s _ _ _ (.inr rfl) (by simp (decide := true) (disch := omega) only [go_sem, ↓reduceIte, ↓put_at]) (by simp (decide := true) (disch := omega) only [go_sem, ↓reduceIte, ↓put_at]) (by simp (decide := true) (disch := omega) only [go_sem, ↓reduceIte, ↓put_at]) (by kernel_rfl) hcm ?_
  (repeat' ((fail_if_success (refine stop_reg 8 ?_)); (first | refine sp_ ?_ | exact ex0 | (refine ret_s [] ?_; simp (decide := true) (disch := omega) only [go_sem, ↓reduceIte, ↓put_at]))))
  refine loop_s (α := {x : Nat × Bu × Int // x.1 ≤ l.length ∧ x.1 ≤ 40 ∧ x.2.1.Ok (1025 * x.1) ∧ 0 ≤ x.2.2 ∧ x.2.2 ≤ 255 * x.1}) (fun x => [(.o (13, 0), .num 11), (.c (13, 0) 0, .av (.val (vi x.1.2.1.cf))), (.c (13, 0) 1, .av (.val (vi x.1.2.1.cp))), (.c (13, 0) 2, .av (.val (vi x.1.2.1.cb))), (.c (13, 0) 3, .av (.val (vi x.1.2.1.l.length))), (.c (13, 0) 4, .av (.val (vi (pkts x.1.2.1.l)))), (.c (13, 0) 5, .av (.val (vi (bts x.1.2.1.l)))), (.c (13, 0) 6, .av (.ref (13, 7) 0)), (.c (13, 0) 7, .av (.val (vi x.1.2.1.hz))), (.c (13, 0) 8, .av (.val (vi x.1.2.1.pl))), (.c (13, 0) 9, .av (.val (vi x.1.2.1.dr))), (.c (13, 0) 10, .av (.val (vi x.1.2.1.ev))), (.r (13, 7), .tree (.row 66 1 (x.1.2.1.l.map fun f => [T.box (frT f)]))), (.s 5, .av (.ptr (13, 0) 0 0)), (.o (6, 0), .num 8), (.c (6, 0) 0, .av (.val (vi (docB x.1.2.1).cf))), (.c (6, 0) 1, .av (.val (vi (docB x.1.2.1).cp))), (.c (6, 0) 2, .av (.val (vi (docB x.1.2.1).cb))), (.c (6, 0) 3, .av (.val (.lst 4 ((docB x.1.2.1).l.map rfEl)))), (.c (6, 0) 4, .av (.val (vi (docB x.1.2.1).hz))), (.c (6, 0) 5, .av (.val (vi (docB x.1.2.1).pl))), (.c (6, 0) 6, .av (.val (vi (docB x.1.2.1).dr))), (.c (6, 0) 7, .av (.val (vi (docB x.1.2.1).ev))), (.s 6, .av (.ptr (6, 0) 0 0)), (.s 1, .av (.val (.lst 8 (l.map a24El)))), (.s 7, .av (.val (vi x.1.2.2))), (.s 9, .av (.val (vi x.1.1)))]) (fun x => l.length - x.1.1) ⟨(0, b0, 0), Nat.zero_le _, by omega, by simpa using hok, Int.le_refl _, by simp⟩ ?_ (fun x => ?_)
  · simp (decide := true) (disch := omega) only [go_sem, ↓reduceIte, ↓put_at]
  obtain ⟨⟨i, b, now⟩, h1, h2, h3, h4, h5⟩ := x
  dsimp only at h1 h2 h3 h4 h5 ⊢
  by_cases hlt : i < l.length ∧ i < 40
  · obtain ⟨hlt, hlt2⟩ := hlt
    have hltz : (i : Int) < l.length := by omega
    have ha := hq _ (List.getElem_mem hlt)
    have hge : (l.map a24El).getD i [] = a24El l[i] := by simp [hlt]
    have hm := i64_and255 l[i].la
    have hm0 : 0 ≤ l[i].la % 256 := by omega
    have hm1 : l[i].la % 256 ≤ 255 := by omega
    have hla0 := ha.l0
    have hla1 := ha.l1
    have cd := do24 h3 (by omega) ha (now + l[i].la % 256) (by omega) (by omega)
    have hok' := doB_ok h3 ha (now := now + l[i].la % 256) (by omega) (by omega)
    have ci := is24 hok'
    have hno := of_decide_eq_false hok'.no
    obtain ⟨B, hB⟩ : ∃ B, B = doB b l[i] (now + l[i].la % 256) := ⟨_, rfl⟩
    rw [← hB] at cd hok' ci hno
    have n1 : (B.l.length : Int) ≤ (docB B).cf := by show _ ≤ B.cf; omega
    have n2 : (pkts B.l : Int) ≤ (docB B).cp := by show _ ≤ B.cp; omega
    have n3 : (bts B.l : Int) ≤ (docB B).cb := by show _ ≤ B.cb; omega
    have v1 := bv_len B
    have v2 := bv_pack B
    have v3 := bv_bytes B
    clear hno hB
    generalize hD : docB b = D at *
    generalize hD2 : docB B = D2 at *
    (repeat' ((first | refine sp_ ?_ | exact ex0 | refine call_u Try.call18 (cd) [(13, 0)] ex1 ?_ | refine call_u Try.call19 (ci) [(13, 0)] ex1 ?_ | refine pcall_u Try.call11 (v1) ex1 ?_ | refine pcall_u Try.call20 (v2) ex1 ?_ | refine pcall_u Try.call21 (v3) ex1 ?_ | (refine ret_s [] ?_; simp (decide := true) (disch := omega) only [go_sem, ↓reduceIte, ↓put_at]))))
    refine next_s (α := {x : Nat × Bu × Int // x.1 ≤ l.length ∧ x.1 ≤ 40 ∧ x.2.1.Ok (1025 * x.1) ∧ 0 ≤ x.2.2 ∧ x.2.2 ≤ 255 * x.1}) ⟨(i + 1, B, now + l[i].la % 256), hlt, hlt2, by (try dsimp only); rw [show (1025 : Int) * ((i + 1 : Nat) : Int) = 1025 * i + 1025 by omega]; exact hok', by (try dsimp only); omega, by (try dsimp only); omega⟩ ⟨?_, by (try dsimp only); omega⟩
    (try dsimp only)
    rw [hD2]
    simp (decide := true) (disch := omega) only [go_sem, ↓reduceIte, ↓put_at]
  · rcases Nat.lt_or_ge i 40 with h | h
    · have hge : (l.length : Int) ≤ i := by omega
      (repeat' ((first | refine sp_ ?_ | exact ex0 | (refine ret_s [] ?_; simp (decide := true) (disch := omega) only [go_sem, ↓reduceIte, ↓put_at]))))
    · have hge : (40 : Int) ≤ i := by omega
      by_cases hi : (i : Int) < l.length
      · (repeat' ((first | refine sp_ ?_ | exact ex0 | (refine ret_s [] ?_; simp (decide := true) (disch := omega) only [go_sem, ↓reduceIte, ↓put_at]))))
      · (repeat' ((first | refine sp_ ?_ | exact ex0 | (refine ret_s [] ?_; simp (decide := true) (disch := omega) only [go_sem, ↓reduceIte, ↓put_at]))))
end Go.Proofs.Ytekpaepkoeelfaa
