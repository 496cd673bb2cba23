/- Package notes: pad, Names, goodbyes, words; and their references. -/
import Derived.Test.YtbnnfmleoebelaaGreatShelfz
import Derived.Test.YtbnnfmleoebelaaGreatShelfz
import Derived.Test.YtbnnfmleoebelaaGreatRLz
import Derived.Test.YtbnnfmleoebelaaGreatQRefZz
import Derived.Test.YtbnnfmleoebelaaGreatRLz
namespace Go.Proofs.YtbnnfmleoebelaaGreat
open Go.RowKit
set_option linter.unusedVariables false
set_option linter.unusedSimpArgs false

theorem rep0 (c : Nat) (hc : c ≤ 1000) : Spec Tryz.prog 65 [.ca (.val (vs [0])), .ca (.val (vi c))] [] (.ca (.val (vs (zer c)))) [] := by
  have e : Lib.repeatL [0] c = zer c := by
    induction c with
    | zero => rfl
    | succ c ih => rw [Lib.repeatL, ih (by omega)]; rfl
  refine spec_lib (us := [str [0], .int .i64 c]) (u := str (zer c)) fun w => ?_
  have := Tryz.strings_Repeat ⟨#[0]⟩ c w (by omega) (by show 1 * c ≤ _; omega)
  rw [show ((⟨#[0]⟩ : ByteArray).data.toList) = [0] from rfl, e] at this
  exact this
set_option maxRecDepth 100000 in
set_option maxHeartbeats 8000000 in
theorem notes_pad (l : List UInt8) (k : Nat) (hk : k ≤ 1) (hl : l.length ≤ 1099511627776) : Spec Tryz.prog 40 [.ptr 0 0, .ca (.val (vi k))] [outO l] (.ca (.val (.tup []))) [outO (l ++ zer (padN l.length k))] := by
  have hp : padN l.length k ≤ 4 := by unfold padN; omega
  have hc := rep0 (padN l.length k) (by omega)
  have e : (k : Int) + (4 - ((l.length : Int) + k) % 4) % 4 = (padN l.length k : Int) := by unfold padN; omega
  refine spec_of Tryz.func40 rfl Tryz.ntmps40 Tryz.results40 ⟨by decide, by simp⟩ fun C hC => ?_
  (repeat (first | refine sp_ ?_ | exact ex0))
  refine call_s Tryz.call37 (out_bytes l (by omega)) [(1000, 0)] ?_
  (repeat (first | refine sp_ ?_ | exact ex0))
  refine call_s Tryz.call65 hc [] ?_
  (repeat (first | refine sp_ ?_ | exact ex0))
  have hz := zer_len (padN l.length k)
  (repeat (first | refine sp_ ?_ | exact ex0))
  refine call_s Tryz.call36 (out_raw l [zer (padN l.length k)] (by simp only [List.flatten_cons, List.flatten_nil, List.append_nil]; omega) (by simp)) [(1000, 0)] ?_
  (repeat (first | refine sp_ ?_ | exact ex0))
  (refine ret_s [] ?_; simp (decide := true) (disch := omega) only [go_sem, ↓reduceIte, ↓put_at])
  simp
abbrev n9L (x : N9) : List V := [vu x.src, vs x.text]
def n9El (x : N9) : List V := n9L x
abbrev zn9L (x : N9) : List V := [vi x.src, vs x.text]
def zn9El (x : N9) : List V := zn9L x
attribute [go_sem] n9El zn9El
def N9.Ok (x : N9) : Prop := (0 ≤ x.src ∧ x.src < 4294967296) ∧ x.text.length ≤ maxLen
set_option maxRecDepth 100000 in
set_option maxHeartbeats 4000000 in
theorem notes_names (l : List N9) (hl : l.length ≤ maxLen) (ho : ∀ x ∈ l, x.Ok) : Spec Tryz.prog 20 [.ca (.val (.lst 2 (l.map n9El)))] [] (.ca (.val (pcV (namesP l)))) [] := by
  unfold maxLen at hl
  obtain ⟨R, hR⟩ : ∃ R, R = namesP l := ⟨_, rfl⟩
  rw [← hR]
  unfold namesP at hR
  by_cases h31 : 31 < l.length
  · rw [if_neg (by omega)] at hR
    subst hR
    refine spec_of Tryz.func20 rfl Tryz.ntmps20 Tryz.results20 ⟨by decide, by simp⟩ fun C hC => ?_
    (repeat (first | refine sp_ ?_ | exact ex0))
    (refine ret_s [] ?_; simp (decide := true) (disch := omega) only [go_sem, ↓reduceIte, ↓put_at])
  refine spec_of Tryz.func20 rfl Tryz.ntmps20 Tryz.results20 ⟨by decide, by simp⟩ fun C hC => ?_
  (repeat (first | refine sp_ ?_ | exact ex0))
  refine own_c (3, 0) 0 (3, 1) 5 1 ?_
  simp (decide := true) (disch := omega) only [go_sem, ↓reduceIte, ↓put_at]
  refine loop_s (α := {j : Nat // j ≤ l.length ∧ (l.take j).all mayN = true}) (fun j => [(.s 0, .av (.val (.lst 2 (l.map n9El)))), (.s 2, .av (.ptr (2, 0) 0 0)), (.o (2, 0), .num 3), (.s 3, .av (.ptr (3, 0) 0 0)), (.o (3, 0), .num 1), (.c (3, 0) 0, .av (.own (3, 1) 0 5 1 (((l.take j.1).flatMap itemB).map byteEl))), (.k (3, 1), .row 5 1 (((l.take j.1).flatMap itemB).map byteEl).length), (.s 10, .av (.val (.lst 2 (l.map n9El)))), (.s 11, .av (.val (vi l.length))), (.s 12, .av (.val (vi j.1)))]) (fun j => l.length - j.1) ⟨0, Nat.zero_le _, rfl⟩ ?_ (fun j => ?_)
  · simp only [List.take_zero, List.flatMap_nil]
    simp (decide := true) (disch := omega) only [go_sem, ↓reduceIte, ↓put_at]
  · obtain ⟨j, hj, ha⟩ := j
    dsimp only at hj ⊢
    have hw := items_le _ ha
    have hwm := items_mod (l.take j)
    rw [List.length_take, Nat.min_eq_left hj] at hw
    by_cases hlt : j < l.length
    · have ht : l.take (j + 1) = l.take j ++ [l[j]] := List.take_succ_eq_append_getElem hlt
      have hmem := List.getElem_mem hlt
      obtain ⟨o1, o2⟩ := ho _ hmem
      by_cases hm : mayN l[j] = true
      · have hn : (l.take (j + 1)).all mayN = true := by rw [ht, List.all_append, ha]; simp [hm]
        unfold mayN at hm
        rw [decide_eq_true_eq] at hm
        have hne : l[j].text ≠ [] := fun h => by rw [h] at hm; simp at hm
        generalize hB : (l.take j).flatMap itemB = B at *
        have hq := puts'_length 4 [l[j].src]
        have hq2 := puts'_length 1 [1, (l[j].text.length : Int)]
        simp only [List.length_cons, List.length_nil] at hq hq2
        have c1 := out_u32 B [l[j].src] (by simp only [List.length_cons, List.length_nil]; omega) (by simpa using o1)
        have c2 := out_u8 (B ++ puts' 4 [l[j].src]) [1, (l[j].text.length : Int)] (by simp only [List.length_append, List.length_cons, List.length_nil]; omega)
        have c3 := out_raw (B ++ puts' 4 [l[j].src] ++ puts' 1 [1, (l[j].text.length : Int)]) [l[j].text] (by simp only [List.length_append, List.flatten_cons, List.flatten_nil, List.append_nil]; omega) (by simp)
        have c4 := notes_pad (B ++ puts' 4 [l[j].src] ++ puts' 1 [1, (l[j].text.length : Int)] ++ [l[j].text].flatten) 1 (by decide) (by simp only [List.length_append, List.flatten_cons, List.flatten_nil, List.append_nil]; omega)
        have c5 : padN (B ++ puts' 4 [l[j].src] ++ puts' 1 [1, (l[j].text.length : Int)] ++ [l[j].text].flatten).length 1 = padN (6 + l[j].text.length) 1 := padN_mod _ _ _ (by simp only [List.length_append, List.flatten_cons, List.flatten_nil, List.append_nil]; omega)
        rw [c5] at c4
        have hb : (l[j].text == []) = false := by simpa using hne
        (repeat (first | refine sp_ ?_ | exact ex0))
        simp only [hb]
        (repeat (first | refine sp_ ?_ | exact ex0))
        refine call_s Tryz.call39 c1 [(3, 0)] ?_
        (repeat (first | refine sp_ ?_ | exact ex0))
        refine call_s Tryz.call34 c2 [(3, 0)] ?_
        (repeat (first | refine sp_ ?_ | exact ex0))
        refine call_s Tryz.call36 c3 [(3, 0)] ?_
        (repeat (first | refine sp_ ?_ | exact ex0))
        refine call_s Tryz.call40 c4 [(3, 0)] ?_
        (repeat (first | refine sp_ ?_ | exact ex0))
        have e1 : (l.take (j + 1)).flatMap itemB = B ++ puts' 4 [l[j].src] ++ puts' 1 [1, (l[j].text.length : Int)] ++ [l[j].text].flatten ++ zer (padN (6 + l[j].text.length) 1) := by
          rw [ht, List.flatMap_append, hB]
          simp [itemB]
        refine next_s ⟨j + 1, hlt, hn⟩ ⟨?_, by dsimp only; omega⟩
        dsimp only
        rw [e1]
        simp (decide := true) (disch := omega) only [go_sem, ↓reduceIte, ↓put_at]
      · have hR0 : R = (0, 0, []) := by
          rw [hR, if_neg]
          intro h
          have := List.all_eq_true.1 h.2 _ hmem
          exact hm this
        subst hR0
        unfold mayN at hm
        rw [decide_eq_true_eq] at hm
        by_cases h0 : l[j].text = []
        · have hb : (l[j].text == []) = true := by simpa using h0
          (repeat (first | refine sp_ ?_ | exact ex0))
          simp only [hb]
          (repeat (first | refine sp_ ?_ | exact ex0))
          (refine ret_s [] ?_; simp (decide := true) (disch := omega) only [go_sem, ↓reduceIte, ↓put_at])
        · have h1 : 0 < l[j].text.length := List.length_pos_iff.2 h0
          have hb : (l[j].text == []) = false := by simpa using h0
          (repeat (first | refine sp_ ?_ | exact ex0))
          simp only [hb]
          (repeat (first | refine sp_ ?_ | exact ex0))
          (refine ret_s [] ?_; simp (decide := true) (disch := omega) only [go_sem, ↓reduceIte, ↓put_at])
    · have e : l.take j = l := List.take_of_length_le (by omega)
      rw [e] at hw ha
      simp only [e]
      have hR0 : R = ((l.length : Int), 202, l.flatMap itemB) := by rw [hR, if_pos ⟨by omega, ha⟩]
      subst hR0
      (repeat (first | refine sp_ ?_ | exact ex0))
      refine call_s Tryz.call37 (out_bytes (l.flatMap itemB) (by omega)) [(3, 0)] ?_
      (repeat (first | refine sp_ ?_ | exact ex0))
      (refine ret_s [] ?_; simp (decide := true) (disch := omega) only [go_sem, ↓reduceIte, ↓put_at])
end Go.Proofs.YtbnnfmleoebelaaGreat

namespace Go.Proofs.YtbnnfmleoebelaaGreat
open Go.RowKit
set_option linter.unusedVariables false
set_option linter.unusedSimpArgs false

attribute [go_sem] putZ_length
abbrev y9L (b : Y9) : List V := [vs b.reason, .lst 1 (b.srcs.map u32El)]
structure Y9.Ok (b : Y9) : Prop where
  reason : b.reason.length ≤ maxLen
  len : b.srcs.length ≤ maxLen
  srcs : ∀ n ∈ b.srcs, 0 ≤ n ∧ n < 4294967296
set_option maxRecDepth 100000 in
set_option maxHeartbeats 4000000 in
theorem notes_bye (b : Y9) (ho : b.Ok) : Spec Tryz.prog 79 [.ca (.val (.agg (y9L b)))] [] (.ca (.val (pcV (byeP b)))) [] := by
  obtain ⟨r, ss⟩ := b
  obtain ⟨o1, o2, o3⟩ := ho
  obtain ⟨R, hR⟩ : ∃ R, R = byeP ⟨r, ss⟩ := ⟨_, rfl⟩
  rw [← hR]
  unfold byeP mayY at hR
  unfold maxLen at o1 o2
  dsimp only at *
  by_cases h1 : 31 < ss.length
  · rw [if_neg (by simp; omega)] at hR
    subst hR
    refine spec_of Tryz.func79 rfl Tryz.ntmps79 Tryz.results79 ⟨by decide, by simp⟩ fun C hC => ?_
    (repeat (first | refine sp_ ?_ | exact ex0))
    (refine ret_s [] ?_; simp (decide := true) (disch := omega) only [go_sem, ↓reduceIte, ↓put_at])
  by_cases h2 : 255 < r.length
  · rw [if_neg (by simp; omega)] at hR
    subst hR
    refine spec_of Tryz.func79 rfl Tryz.ntmps79 Tryz.results79 ⟨by decide, by simp⟩ fun C hC => ?_
    (repeat (first | refine sp_ ?_ | exact ex0))
    (refine ret_s [] ?_; simp (decide := true) (disch := omega) only [go_sem, ↓reduceIte, ↓put_at])
  rw [if_pos (by simp; omega)] at hR
  have hq := puts'_length 4 ss
  have c1 := out_u32 [] ss (by simp only [List.length_nil]; omega) o3
  rw [List.nil_append] at c1
  by_cases hr : r = []
  · subst hr
    have hR' : R = ((ss.length : Int), 203, puts' 4 ss) := by rw [hR]; simp [reasonB]
    subst hR'
    refine spec_of Tryz.func79 rfl Tryz.ntmps79 Tryz.results79 ⟨by decide, by simp⟩ fun C hC => ?_
    (repeat (first | refine sp_ ?_ | exact ex0))
    refine call_s Tryz.call39 c1 [(3, 0)] ?_
    (repeat (first | refine sp_ ?_ | exact ex0))
    refine call_s Tryz.call37 (out_bytes (puts' 4 ss) (by omega)) [(3, 0)] ?_
    (repeat (first | refine sp_ ?_ | exact ex0))
    (refine ret_s [] ?_; simp (decide := true) (disch := omega) only [go_sem, ↓reduceIte, ↓put_at])
  · have hb : (r == []) = false := by simpa using hr
    have hrl : 0 < r.length := List.length_pos_iff.2 hr
    have hq2 := puts'_length 1 [(r.length : Int)]
    simp only [List.length_cons, List.length_nil] at hq2
    have c2 := out_u8 (puts' 4 ss) [(r.length : Int)] (by simp only [List.length_cons, List.length_nil]; omega)
    have c3 := out_raw (puts' 4 ss ++ puts' 1 [(r.length : Int)]) [r] (by simp only [List.length_append, List.flatten_cons, List.flatten_nil, List.append_nil]; omega) (by simp)
    have c4 := notes_pad (puts' 4 ss ++ puts' 1 [(r.length : Int)] ++ [r].flatten) 0 (by decide) (by simp only [List.length_append, List.flatten_cons, List.flatten_nil, List.append_nil]; omega)
    have e1 : padN (puts' 4 ss ++ puts' 1 [(r.length : Int)] ++ [r].flatten).length 0 = padN (1 + r.length) 0 := padN_mod _ _ _ (by simp only [List.length_append, List.flatten_cons, List.flatten_nil, List.append_nil]; omega)
    rw [e1] at c4
    have hpz := zer_len (padN (1 + r.length) 0)
    have hpz2 : padN (1 + r.length) 0 ≤ 4 := by unfold padN; omega
    have e2 : puts' 4 ss ++ puts' 1 [(r.length : Int)] ++ [r].flatten ++ zer (padN (1 + r.length) 0) = puts' 4 ss ++ reasonB r := by unfold reasonB; rw [if_neg hr]; simp
    have e3 : (puts' 4 ss ++ reasonB r).length ≤ 1000 := by rw [← e2]; simp only [List.length_append, List.flatten_cons, List.flatten_nil, List.append_nil]; omega
    rw [e2] at c4
    subst hR
    refine spec_of Tryz.func79 rfl Tryz.ntmps79 Tryz.results79 ⟨by decide, by simp⟩ fun C hC => ?_
    (repeat (first | refine sp_ ?_ | exact ex0))
    refine call_s Tryz.call39 c1 [(3, 0)] ?_
    (repeat (first | refine sp_ ?_ | exact ex0))
    simp only [hb]
    (repeat (first | refine sp_ ?_ | exact ex0))
    refine call_s Tryz.call34 c2 [(3, 0)] ?_
    (repeat (first | refine sp_ ?_ | exact ex0))
    refine call_s Tryz.call36 c3 [(3, 0)] ?_
    (repeat (first | refine sp_ ?_ | exact ex0))
    refine call_s Tryz.call40 c4 [(3, 0)] ?_
    (repeat (first | refine sp_ ?_ | exact ex0))
    refine call_s Tryz.call37 (out_bytes (puts' 4 ss ++ reasonB r) (by omega)) [(3, 0)] ?_
    (repeat (first | refine sp_ ?_ | exact ex0))
    (refine ret_s [] ?_; simp (decide := true) (disch := omega) only [go_sem, ↓reduceIte, ↓put_at])
end Go.Proofs.YtbnnfmleoebelaaGreat

namespace Go.Proofs.YtbnnfmleoebelaaGreat
open Go.RowKit
set_option linter.unusedVariables false
set_option linter.unusedSimpArgs false

set_option maxRecDepth 100000 in
set_option maxHeartbeats 8000000 in
theorem pp_ne (a1 b1 : Int) (a2 b2 : Int) (a3 b3 : List UInt8) (w : World) : (binOp .neq 67 (.agg [.int .i64 a1, .int .i64 a2, str a3].toArray) (.agg [.int .i64 b1, .int .i64 b2, str b3].toArray)).run Tryz.prog w = .ok (.bool (!decide (a1 = b1 ∧ a2 = b2 ∧ a3 = b3))) w := by
  by_cases h1 : a1 = b1
  · by_cases h2 : a2 = b2
    · by_cases h3 : a3 = b3
      · subst h1 h2 h3; simp [go_sem]
      · have e : (a3 == b3) = false := by simpa using h3
        simp [go_sem, h1, h2, h3, e]
    · simp [go_sem, h1, h2]
  · simp [go_sem, h1]
end Go.Proofs.YtbnnfmleoebelaaGreat

