/- Layer 12 (compound): what a piece says; walked. -/
import Derived.Test.YtbnnfmleoebelaaGreatCmpMz
import Derived.Test.YtbnnfmleoebelaaGreatSub2z
namespace Go.Proofs.YtbnnfmleoebelaaGreat
open Go.RowKit
set_option linter.unusedVariables false
set_option linter.unusedSimpArgs false

def r8El (r : R8) : List V := r8L r
def y9El (r : Y9) : List V := y9L r
def a9El (r : A9) : List V := a9L r
def n10El (r : N10) : List V := n10L r
def r11El (r : R11) : List V := r11L r
def s11El (r : S11) : List V := s11L r
attribute [go_sem] r8El y9El a9El n10El r11El s11El
abbrev orV (t : TypeId) (y : V) (e : Int) : V := if e = 0 then .ifc t y else .sc .nilIface
set_option maxRecDepth 100000 in
set_option maxHeartbeats 8000000 in
theorem or_1 (x : R8) (e : Int) : Spec Tryz.prog 49 [.ca (.val (.agg (r8L x))), .ca (.val (vi e))] [] (.ca (.val (orV 27 (.agg (r8L x)) e))) [] := by
  by_cases h : e = 0
  · rw [show orV 27 _ e = .ifc 27 _ from if_pos h]
    refine spec_of Tryz.func49 rfl Tryz.ntmps49 Tryz.results49 ⟨by decide, by simp⟩ fun C hC => ?_
    (repeat' ((first | refine sp_ ?_ | exact ex0 | (simp (maxSteps := 2000000) (decide := true) (disch := omega) only [go_sem, ↓reduceIte, ↓put_at]) | (refine ret_s [] ?_; simp (maxSteps := 2000000) (decide := true) (disch := omega) only [go_sem, ↓reduceIte, ↓put_at]))))
    refine mkI_s (by kernel_rfl) ?_
    (repeat' ((first | refine sp_ ?_ | exact ex0 | (simp (maxSteps := 2000000) (decide := true) (disch := omega) only [go_sem, ↓reduceIte, ↓put_at]) | (refine ret_s [] ?_; simp (maxSteps := 2000000) (decide := true) (disch := omega) only [go_sem, ↓reduceIte, ↓put_at]))))
  · rw [show orV 27 _ e = .sc .nilIface from if_neg h]
    refine spec_of Tryz.func49 rfl Tryz.ntmps49 Tryz.results49 ⟨by decide, by simp⟩ fun C hC => ?_
    (repeat' ((first | refine sp_ ?_ | exact ex0 | (simp (maxSteps := 2000000) (decide := true) (disch := omega) only [go_sem, ↓reduceIte, ↓put_at]) | (refine ret_s [] ?_; simp (maxSteps := 2000000) (decide := true) (disch := omega) only [go_sem, ↓reduceIte, ↓put_at]))))
set_option maxRecDepth 100000 in
set_option maxHeartbeats 8000000 in
theorem or_2 (sz : Nat) (ys : List (List V)) (e : Int) : Spec Tryz.prog 51 [.ca (.val (.lst sz ys)), .ca (.val (vi e))] [] (.ca (.val (orV 28 (.lst sz ys) e))) [] := by
  by_cases h : e = 0
  · rw [show orV 28 _ e = .ifc 28 _ from if_pos h]
    refine spec_of Tryz.func51 rfl Tryz.ntmps51 Tryz.results51 ⟨by decide, by simp⟩ fun C hC => ?_
    (repeat' ((first | refine sp_ ?_ | exact ex0 | (simp (maxSteps := 2000000) (decide := true) (disch := omega) only [go_sem, ↓reduceIte, ↓put_at]) | (refine ret_s [] ?_; simp (maxSteps := 2000000) (decide := true) (disch := omega) only [go_sem, ↓reduceIte, ↓put_at]))))
    refine mkI_s (by kernel_rfl) ?_
    (repeat' ((first | refine sp_ ?_ | exact ex0 | (simp (maxSteps := 2000000) (decide := true) (disch := omega) only [go_sem, ↓reduceIte, ↓put_at]) | (refine ret_s [] ?_; simp (maxSteps := 2000000) (decide := true) (disch := omega) only [go_sem, ↓reduceIte, ↓put_at]))))
  · rw [show orV 28 _ e = .sc .nilIface from if_neg h]
    refine spec_of Tryz.func51 rfl Tryz.ntmps51 Tryz.results51 ⟨by decide, by simp⟩ fun C hC => ?_
    (repeat' ((first | refine sp_ ?_ | exact ex0 | (simp (maxSteps := 2000000) (decide := true) (disch := omega) only [go_sem, ↓reduceIte, ↓put_at]) | (refine ret_s [] ?_; simp (maxSteps := 2000000) (decide := true) (disch := omega) only [go_sem, ↓reduceIte, ↓put_at]))))
set_option maxRecDepth 100000 in
set_option maxHeartbeats 8000000 in
theorem or_3 (x : Y9) (e : Int) : Spec Tryz.prog 53 [.ca (.val (.agg (y9L x))), .ca (.val (vi e))] [] (.ca (.val (orV 59 (.agg (y9L x)) e))) [] := by
  by_cases h : e = 0
  · rw [show orV 59 _ e = .ifc 59 _ from if_pos h]
    refine spec_of Tryz.func53 rfl Tryz.ntmps53 Tryz.results53 ⟨by decide, by simp⟩ fun C hC => ?_
    (repeat' ((first | refine sp_ ?_ | exact ex0 | (simp (maxSteps := 2000000) (decide := true) (disch := omega) only [go_sem, ↓reduceIte, ↓put_at]) | (refine ret_s [] ?_; simp (maxSteps := 2000000) (decide := true) (disch := omega) only [go_sem, ↓reduceIte, ↓put_at]))))
    refine mkI_s (by kernel_rfl) ?_
    (repeat' ((first | refine sp_ ?_ | exact ex0 | (simp (maxSteps := 2000000) (decide := true) (disch := omega) only [go_sem, ↓reduceIte, ↓put_at]) | (refine ret_s [] ?_; simp (maxSteps := 2000000) (decide := true) (disch := omega) only [go_sem, ↓reduceIte, ↓put_at]))))
  · rw [show orV 59 _ e = .sc .nilIface from if_neg h]
    refine spec_of Tryz.func53 rfl Tryz.ntmps53 Tryz.results53 ⟨by decide, by simp⟩ fun C hC => ?_
    (repeat' ((first | refine sp_ ?_ | exact ex0 | (simp (maxSteps := 2000000) (decide := true) (disch := omega) only [go_sem, ↓reduceIte, ↓put_at]) | (refine ret_s [] ?_; simp (maxSteps := 2000000) (decide := true) (disch := omega) only [go_sem, ↓reduceIte, ↓put_at]))))
set_option maxRecDepth 100000 in
set_option maxHeartbeats 8000000 in
theorem or_4 (x : A9) (e : Int) : Spec Tryz.prog 55 [.ca (.val (.agg (a9L x))), .ca (.val (vi e))] [] (.ca (.val (orV 86 (.agg (a9L x)) e))) [] := by
  by_cases h : e = 0
  · rw [show orV 86 _ e = .ifc 86 _ from if_pos h]
    refine spec_of Tryz.func55 rfl Tryz.ntmps55 Tryz.results55 ⟨by decide, by simp⟩ fun C hC => ?_
    (repeat' ((first | refine sp_ ?_ | exact ex0 | (simp (maxSteps := 2000000) (decide := true) (disch := omega) only [go_sem, ↓reduceIte, ↓put_at]) | (refine ret_s [] ?_; simp (maxSteps := 2000000) (decide := true) (disch := omega) only [go_sem, ↓reduceIte, ↓put_at]))))
    refine mkI_s (by kernel_rfl) ?_
    (repeat' ((first | refine sp_ ?_ | exact ex0 | (simp (maxSteps := 2000000) (decide := true) (disch := omega) only [go_sem, ↓reduceIte, ↓put_at]) | (refine ret_s [] ?_; simp (maxSteps := 2000000) (decide := true) (disch := omega) only [go_sem, ↓reduceIte, ↓put_at]))))
  · rw [show orV 86 _ e = .sc .nilIface from if_neg h]
    refine spec_of Tryz.func55 rfl Tryz.ntmps55 Tryz.results55 ⟨by decide, by simp⟩ fun C hC => ?_
    (repeat' ((first | refine sp_ ?_ | exact ex0 | (simp (maxSteps := 2000000) (decide := true) (disch := omega) only [go_sem, ↓reduceIte, ↓put_at]) | (refine ret_s [] ?_; simp (maxSteps := 2000000) (decide := true) (disch := omega) only [go_sem, ↓reduceIte, ↓put_at]))))
set_option maxRecDepth 100000 in
set_option maxHeartbeats 8000000 in
theorem or_5 (x : N10) (e : Int) : Spec Tryz.prog 56 [.ca (.val (.agg (n10L x))), .ca (.val (vi e))] [] (.ca (.val (orV 53 (.agg (n10L x)) e))) [] := by
  by_cases h : e = 0
  · rw [show orV 53 _ e = .ifc 53 _ from if_pos h]
    refine spec_of Tryz.func56 rfl Tryz.ntmps56 Tryz.results56 ⟨by decide, by simp⟩ fun C hC => ?_
    (repeat' ((first | refine sp_ ?_ | exact ex0 | (simp (maxSteps := 2000000) (decide := true) (disch := omega) only [go_sem, ↓reduceIte, ↓put_at]) | (refine ret_s [] ?_; simp (maxSteps := 2000000) (decide := true) (disch := omega) only [go_sem, ↓reduceIte, ↓put_at]))))
    refine mkI_s (by kernel_rfl) ?_
    (repeat' ((first | refine sp_ ?_ | exact ex0 | (simp (maxSteps := 2000000) (decide := true) (disch := omega) only [go_sem, ↓reduceIte, ↓put_at]) | (refine ret_s [] ?_; simp (maxSteps := 2000000) (decide := true) (disch := omega) only [go_sem, ↓reduceIte, ↓put_at]))))
  · rw [show orV 53 _ e = .sc .nilIface from if_neg h]
    refine spec_of Tryz.func56 rfl Tryz.ntmps56 Tryz.results56 ⟨by decide, by simp⟩ fun C hC => ?_
    (repeat' ((first | refine sp_ ?_ | exact ex0 | (simp (maxSteps := 2000000) (decide := true) (disch := omega) only [go_sem, ↓reduceIte, ↓put_at]) | (refine ret_s [] ?_; simp (maxSteps := 2000000) (decide := true) (disch := omega) only [go_sem, ↓reduceIte, ↓put_at]))))
set_option maxRecDepth 100000 in
set_option maxHeartbeats 8000000 in
theorem or_6 (x : R11) (e : Int) : Spec Tryz.prog 58 [.ca (.val (.agg (r11L x))), .ca (.val (vi e))] [] (.ca (.val (orV 32 (.agg (r11L x)) e))) [] := by
  by_cases h : e = 0
  · rw [show orV 32 _ e = .ifc 32 _ from if_pos h]
    refine spec_of Tryz.func58 rfl Tryz.ntmps58 Tryz.results58 ⟨by decide, by simp⟩ fun C hC => ?_
    (repeat' ((first | refine sp_ ?_ | exact ex0 | (simp (maxSteps := 2000000) (decide := true) (disch := omega) only [go_sem, ↓reduceIte, ↓put_at]) | (refine ret_s [] ?_; simp (maxSteps := 2000000) (decide := true) (disch := omega) only [go_sem, ↓reduceIte, ↓put_at]))))
    refine mkI_s (by kernel_rfl) ?_
    (repeat' ((first | refine sp_ ?_ | exact ex0 | (simp (maxSteps := 2000000) (decide := true) (disch := omega) only [go_sem, ↓reduceIte, ↓put_at]) | (refine ret_s [] ?_; simp (maxSteps := 2000000) (decide := true) (disch := omega) only [go_sem, ↓reduceIte, ↓put_at]))))
  · rw [show orV 32 _ e = .sc .nilIface from if_neg h]
    refine spec_of Tryz.func58 rfl Tryz.ntmps58 Tryz.results58 ⟨by decide, by simp⟩ fun C hC => ?_
    (repeat' ((first | refine sp_ ?_ | exact ex0 | (simp (maxSteps := 2000000) (decide := true) (disch := omega) only [go_sem, ↓reduceIte, ↓put_at]) | (refine ret_s [] ?_; simp (maxSteps := 2000000) (decide := true) (disch := omega) only [go_sem, ↓reduceIte, ↓put_at]))))
set_option maxRecDepth 100000 in
set_option maxHeartbeats 8000000 in
theorem or_7 (x : S11) (e : Int) : Spec Tryz.prog 60 [.ca (.val (.agg (s11L x))), .ca (.val (vi e))] [] (.ca (.val (orV 56 (.agg (s11L x)) e))) [] := by
  by_cases h : e = 0
  · rw [show orV 56 _ e = .ifc 56 _ from if_pos h]
    refine spec_of Tryz.func60 rfl Tryz.ntmps60 Tryz.results60 ⟨by decide, by simp⟩ fun C hC => ?_
    (repeat' ((first | refine sp_ ?_ | exact ex0 | (simp (maxSteps := 2000000) (decide := true) (disch := omega) only [go_sem, ↓reduceIte, ↓put_at]) | (refine ret_s [] ?_; simp (maxSteps := 2000000) (decide := true) (disch := omega) only [go_sem, ↓reduceIte, ↓put_at]))))
    refine mkI_s (by kernel_rfl) ?_
    (repeat' ((first | refine sp_ ?_ | exact ex0 | (simp (maxSteps := 2000000) (decide := true) (disch := omega) only [go_sem, ↓reduceIte, ↓put_at]) | (refine ret_s [] ?_; simp (maxSteps := 2000000) (decide := true) (disch := omega) only [go_sem, ↓reduceIte, ↓put_at]))))
  · rw [show orV 56 _ e = .sc .nilIface from if_neg h]
    refine spec_of Tryz.func60 rfl Tryz.ntmps60 Tryz.results60 ⟨by decide, by simp⟩ fun C hC => ?_
    (repeat' ((first | refine sp_ ?_ | exact ex0 | (simp (maxSteps := 2000000) (decide := true) (disch := omega) only [go_sem, ↓reduceIte, ↓put_at]) | (refine ret_s [] ?_; simp (maxSteps := 2000000) (decide := true) (disch := omega) only [go_sem, ↓reduceIte, ↓put_at]))))
def saidL (p : Pc) : List V := [orV 27 (.agg (r8L (ofR p))) (ofE p), orV 28 (.lst 2 ((namesR p).map n9El)) (namesE p), orV 59 (.agg (y9L (byeR p))) (byeE p), orV 86 (.agg (a9L (appR p))) (appE p), orV 53 (.agg (n10L (nackR p))) (nackE p), orV 32 (.agg (r11L (linesR p))) (linesE p), orV 56 (.agg (s11L (adsR p))) (adsE p)]
def notNil : V → Bool
  | .ifc _ _ => true
  | _ => false
/-- What a piece says, as a value. -/
def saidV (p : Pc) : V := ((saidL p).find? notNil).getD (.sc .nilIface)
theorem find_at : ∀ (zs : List V) (j : Nat) (h : j < zs.length), (∀ k (hk : k < zs.length), k < j → notNil zs[k] = false) → notNil zs[j] = true → zs.find? notNil = some zs[j]
  | z :: zs, 0, _, _, h => by rw [List.find?_cons]; rw [List.getElem_cons_zero] at h; rw [h]; rfl
  | z :: zs, j + 1, h, hb, hj => by
    have h0 := hb 0 (by simp) (by omega)
    rw [List.getElem_cons_zero] at h0
    rw [List.find?_cons, h0]
    exact find_at zs j (by simpa using h) (fun k hk hkj => by have := hb (k + 1) (by simpa using hk) (by omega); simpa using this) (by simpa using hj)
theorem find_none : ∀ (zs : List V), (∀ k (hk : k < zs.length), notNil zs[k] = false) → zs.find? notNil = none
  | [], _ => rfl
  | z :: zs, h => by
    have h0 := h 0 (by simp)
    rw [List.getElem_cons_zero] at h0
    rw [List.find?_cons, h0]
    exact find_none zs (fun k hk => by have := h (k + 1) (by simpa using hk); simpa using this)
theorem orV_or (t : TypeId) (y : V) (e : Int) : orV t y e = .sc .nilIface ∨ ∃ u x, orV t y e = .ifc u x := by
  unfold orV
  split
  · exact .inr ⟨_, _, rfl⟩
  · exact .inl rfl
def oneI (z : V) : List V := [z]
attribute [go_sem] oneI
set_option maxRecDepth 100000 in
set_option maxHeartbeats 8000000 in
theorem cmp_said (p : Pc) (hp : p.2.2.length ≤ maxLen) : Spec Tryz.prog 32 [.ca (.val (pcV p))] [] (.ca (.val (saidV p))) [] := by
  have hz : ∀ z ∈ saidL p, z = .sc .nilIface ∨ ∃ u x, z = .ifc u x := by
    intro z hz
    unfold saidL at hz
    simp only [List.mem_cons, List.not_mem_nil, or_false] at hz
    rcases hz with rfl | rfl | rfl | rfl | rfl | rfl | rfl <;> exact orV_or _ _ _
  have a0 := report_of p hp
  have b0 := or_1 (ofR p) (ofE p)
  have a1 := notes_tonames p hp
  have b1 := or_2 2 ((namesR p).map n9El) (namesE p)
  have a2 := notes_tobye p hp
  have b2 := or_3 (byeR p) (byeE p)
  have a3 := notes_toapp p hp
  have b3 := or_4 (appR p) (appE p)
  have a4 := nack_of p hp
  have b4 := or_5 (nackR p) (nackE p)
  have a5 := sub_tolines p hp
  have b5 := or_6 (linesR p) (linesE p)
  have a6 := sub_toads p hp
  have b6 := or_7 (adsR p) (adsE p)
  obtain ⟨z0, hz0⟩ : ∃ z, z = orV 27 (.agg (r8L (ofR p))) (ofE p) := ⟨_, rfl⟩
  have hP0 : partV (.val z0) = some [z0] := by rw [hz0]; rcases orV_or 27 (.agg (r8L (ofR p))) (ofE p) with h | ⟨_, _, h⟩ <;> rw [h] <;> rfl
  rw [← hz0] at b0
  obtain ⟨z1, hz1⟩ : ∃ z, z = orV 28 (.lst 2 ((namesR p).map n9El)) (namesE p) := ⟨_, rfl⟩
  have hP1 : partV (.val z1) = some [z1] := by rw [hz1]; rcases orV_or 28 (.lst 2 ((namesR p).map n9El)) (namesE p) with h | ⟨_, _, h⟩ <;> rw [h] <;> rfl
  rw [← hz1] at b1
  obtain ⟨z2, hz2⟩ : ∃ z, z = orV 59 (.agg (y9L (byeR p))) (byeE p) := ⟨_, rfl⟩
  have hP2 : partV (.val z2) = some [z2] := by rw [hz2]; rcases orV_or 59 (.agg (y9L (byeR p))) (byeE p) with h | ⟨_, _, h⟩ <;> rw [h] <;> rfl
  rw [← hz2] at b2
  obtain ⟨z3, hz3⟩ : ∃ z, z = orV 86 (.agg (a9L (appR p))) (appE p) := ⟨_, rfl⟩
  have hP3 : partV (.val z3) = some [z3] := by rw [hz3]; rcases orV_or 86 (.agg (a9L (appR p))) (appE p) with h | ⟨_, _, h⟩ <;> rw [h] <;> rfl
  rw [← hz3] at b3
  obtain ⟨z4, hz4⟩ : ∃ z, z = orV 53 (.agg (n10L (nackR p))) (nackE p) := ⟨_, rfl⟩
  have hP4 : partV (.val z4) = some [z4] := by rw [hz4]; rcases orV_or 53 (.agg (n10L (nackR p))) (nackE p) with h | ⟨_, _, h⟩ <;> rw [h] <;> rfl
  rw [← hz4] at b4
  obtain ⟨z5, hz5⟩ : ∃ z, z = orV 32 (.agg (r11L (linesR p))) (linesE p) := ⟨_, rfl⟩
  have hP5 : partV (.val z5) = some [z5] := by rw [hz5]; rcases orV_or 32 (.agg (r11L (linesR p))) (linesE p) with h | ⟨_, _, h⟩ <;> rw [h] <;> rfl
  rw [← hz5] at b5
  obtain ⟨z6, hz6⟩ : ∃ z, z = orV 56 (.agg (s11L (adsR p))) (adsE p) := ⟨_, rfl⟩
  have hP6 : partV (.val z6) = some [z6] := by rw [hz6]; rcases orV_or 56 (.agg (s11L (adsR p))) (adsE p) with h | ⟨_, _, h⟩ <;> rw [h] <;> rfl
  rw [← hz6] at b6
  unfold saidV
  have hZ0 : saidL p = saidL p := rfl
  conv at hZ0 => rhs; unfold saidL
  rw [← hz0, ← hz1, ← hz2, ← hz3, ← hz4, ← hz5, ← hz6] at hZ0
  clear hz0 hz1 hz2 hz3 hz4 hz5 hz6
  obtain ⟨Z, hZ⟩ : ∃ Z, Z = saidL p := ⟨_, rfl⟩
  have hlen : Z.length = 7 := by rw [hZ]; rfl
  rw [← hZ] at hz hZ0 ⊢
  clear hZ
  have hZm : Z.map oneI = [[z0], [z1], [z2], [z3], [z4], [z5], [z6]] := by rw [hZ0]; rfl
  clear hZ0
  refine spec_of Tryz.func32 rfl Tryz.ntmps32 Tryz.results32 ⟨by decide, by simp⟩ fun C hC => ?_
  (repeat' ((fail_if_success (refine stop_reg 2 ?_)); (first | refine sp_ ?_ | exact ex0 | (simp (maxSteps := 2000000) (decide := true) (disch := omega) only [go_sem, ↓reduceIte, ↓put_at]) | refine call_u Tryz.call50 (a0) [] ex1 ?_ | refine call_u Tryz.call49 (b0) [] ex1 ?_ | refine call_u Tryz.call52 (a1) [] ex1 ?_ | refine call_u Tryz.call51 (b1) [] ex1 ?_ | refine call_u Tryz.call54 (a2) [] ex1 ?_ | refine call_u Tryz.call53 (b2) [] ex1 ?_ | refine call_u Tryz.call47 (a3) [] ex1 ?_ | refine call_u Tryz.call55 (b3) [] ex1 ?_ | refine call_u Tryz.call57 (a4) [] ex1 ?_ | refine call_u Tryz.call56 (b4) [] ex1 ?_ | refine call_u Tryz.call59 (a5) [] ex1 ?_ | refine call_u Tryz.call58 (b5) [] ex1 ?_ | refine call_u Tryz.call61 (a6) [] ex1 ?_ | (refine ret_s [] ?_; simp (maxSteps := 2000000) (decide := true) (disch := omega) only [go_sem, ↓reduceIte, ↓put_at]))))
  refine call_s Tryz.call60 b6 [] ?_
  simp only [go_sem] at hP0 hP1 hP2 hP3 hP4 hP5 hP6
  simp (maxSteps := 2000000) (decide := true) (disch := omega) only [go_sem, hP0, hP1, hP2, hP3, hP4, hP5, hP6, ↓reduceIte, ↓put_at]
  (repeat' ((fail_if_success (refine stop_reg 2 ?_)); (first | refine sp_ ?_ | exact ex0 | (simp (maxSteps := 2000000) (decide := true) (disch := omega) only [go_sem, ↓reduceIte, ↓put_at]) | (refine ret_s [] ?_; simp (maxSteps := 2000000) (decide := true) (disch := omega) only [go_sem, ↓reduceIte, ↓put_at]))))
  refine loop_s (α := {j : Nat // j ≤ 7 ∧ ∀ k (hk : k < Z.length), k < j → notNil Z[k] = false}) (fun j => [(.s 40, .av (.val (.lst 1 (Z.map oneI)))), (.s 41, .av (.val (vi 7))), (.s 42, .av (.val (vi j.1)))]) (fun j => 7 - j.1) ⟨0, by omega, fun k _ h => by omega⟩ ?_ (fun j => ?_)
  · (try dsimp only)
    rw [hZm]
    simp (maxSteps := 2000000) (decide := true) (disch := omega) only [go_sem, ↓reduceIte, ↓put_at]
  · obtain ⟨j, hj, hb⟩ := j
    dsimp only at hj hb ⊢
    clear hZm hP0 hP1 hP2 hP3 hP4 hP5 hP6
    by_cases hlt : j < Z.length
    · have hge : (Z.map oneI).getD j [] = [Z[j]] := by simp [hlt, oneI]
      rcases hz _ (List.getElem_mem hlt) with h0 | ⟨u, x, h0⟩
      · have hb2 : ∀ k (hk : k < Z.length), k < j + 1 → notNil Z[k] = false := fun k hk hkj => by
          rcases Nat.lt_succ_iff_lt_or_eq.1 hkj with h | rfl
          · exact hb k hk h
          · rw [h0]; rfl
        rw [h0] at hge
        (repeat' ((first | refine sp_ ?_ | exact ex0 | (simp (maxSteps := 2000000) (decide := true) (disch := omega) only [go_sem, ↓reduceIte, ↓put_at]) | (refine ret_s [] ?_; simp (maxSteps := 2000000) (decide := true) (disch := omega) only [go_sem, ↓reduceIte, ↓put_at]))))
        simp only [h0]
        (repeat' ((first | refine sp_ ?_ | exact ex0 | (simp (maxSteps := 2000000) (decide := true) (disch := omega) only [go_sem, ↓reduceIte, ↓put_at]) | (refine ret_s [] ?_; simp (maxSteps := 2000000) (decide := true) (disch := omega) only [go_sem, ↓reduceIte, ↓put_at]))))
        refine inil_s (.inr rfl) (by kernel_rfl) true (by simp (maxSteps := 2000000) (decide := true) (disch := omega) only [go_sem, ↓reduceIte, ↓put_at]) ?_
        (repeat' ((first | refine sp_ ?_ | exact ex0 | (simp (maxSteps := 2000000) (decide := true) (disch := omega) only [go_sem, ↓reduceIte, ↓put_at]) | (refine ret_s [] ?_; simp (maxSteps := 2000000) (decide := true) (disch := omega) only [go_sem, ↓reduceIte, ↓put_at]))))
        refine next_s (α := {j : Nat // j ≤ 7 ∧ ∀ k (hk : k < Z.length), k < j → notNil Z[k] = false}) ⟨j + 1, by omega, hb2⟩ ⟨?_, by (try dsimp only); omega⟩
        simp (maxSteps := 2000000) (decide := true) (disch := omega) only [go_sem, ↓reduceIte, ↓put_at]
      · have hf := find_at Z j hlt hb (by rw [h0]; rfl)
        rw [hf, h0]
        rw [h0] at hge
        dsimp only [Option.getD_some]
        (repeat' ((first | refine sp_ ?_ | exact ex0 | (simp (maxSteps := 2000000) (decide := true) (disch := omega) only [go_sem, ↓reduceIte, ↓put_at]) | (refine ret_s [] ?_; simp (maxSteps := 2000000) (decide := true) (disch := omega) only [go_sem, ↓reduceIte, ↓put_at]))))
        simp only [h0]
        (repeat' ((first | refine sp_ ?_ | exact ex0 | (simp (maxSteps := 2000000) (decide := true) (disch := omega) only [go_sem, ↓reduceIte, ↓put_at]) | (refine ret_s [] ?_; simp (maxSteps := 2000000) (decide := true) (disch := omega) only [go_sem, ↓reduceIte, ↓put_at]))))
        refine inil_s (.inr rfl) (by kernel_rfl) false (by simp (maxSteps := 2000000) (decide := true) (disch := omega) only [go_sem, ↓reduceIte, ↓put_at]) ?_
        (repeat' ((first | refine sp_ ?_ | exact ex0 | (simp (maxSteps := 2000000) (decide := true) (disch := omega) only [go_sem, ↓reduceIte, ↓put_at]) | (refine ret_s [] ?_; simp (maxSteps := 2000000) (decide := true) (disch := omega) only [go_sem, ↓reduceIte, ↓put_at]))))
    · have hf := find_none Z (fun k hk => hb k hk (by omega))
      rw [hf]
      dsimp only [Option.getD_none]
      (repeat' ((first | refine sp_ ?_ | exact ex0 | (simp (maxSteps := 2000000) (decide := true) (disch := omega) only [go_sem, ↓reduceIte, ↓put_at]) | (refine ret_s [] ?_; simp (maxSteps := 2000000) (decide := true) (disch := omega) only [go_sem, ↓reduceIte, ↓put_at]))))
end Go.Proofs.YtbnnfmleoebelaaGreat

