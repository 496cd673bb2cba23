/- Package pen, by abstract values. -/
import Derived.Test.YtbnnfmleoebelaaGreatREz
import Derived.Test.YtbnnfmleoebelaaGreatBytez
import Derived.Test.YtbnnfmleoebelaaGreatBytez
namespace Go.Proofs.YtbnnfmleoebelaaGreat
open Go.RowKit
set_option linter.unusedVariables false
set_option linter.unusedSimpArgs false

/-- What an In holds. -/
abbrev inO (l : List UInt8) (e : Int) : List CA := [.val (vs l), .val (vi e)]
/-- What an Out holds. -/
abbrev outO (l : List UInt8) : List CA := [.own 5 1 (l.map byteEl)]
def failL (l : List UInt8) (e f : Int) : List UInt8 := if e = 0 ∧ f ≠ 0 then [] else l
def failE (e f : Int) : Int := if e = 0 ∧ f ≠ 0 then f else e
def rawT (l : List UInt8) (n : Int) : List UInt8 := if n ≤ l.length then l.take n.toNat else []
def rawL (l : List UInt8) (e n : Int) : List UInt8 := if n ≤ l.length then l.drop n.toNat else failL l e 2
def rawE (l : List UInt8) (e n : Int) : Int := if n ≤ l.length then e else failE e 2
def endE (l : List UInt8) (e : Int) : Int := if l = [] then e else 1

set_option maxRecDepth 100000 in
set_option maxHeartbeats 8000000 in
theorem pen_of (l : List UInt8) : Spec Tryz.prog 43 [.ca (.val (vs l))] [] (.ptr 0 0) [inO l 0] := by
  refine spec_of Tryz.func43 rfl Tryz.ntmps43 Tryz.results43 ⟨by decide, by simp⟩ fun C hC => ?_
  (repeat (first | refine sp_ ?_ | exact ex0))
  (refine ret_s [(5, 0)] ?_; simp (decide := true) (disch := omega) only [go_sem, ↓reduceIte, ↓put_at])
set_option maxRecDepth 100000 in
set_option maxHeartbeats 8000000 in
theorem in_left (l : List UInt8) (e : Int) : Spec Tryz.prog 44 [.ptr 0 0] [inO l e] (.ca (.val (vi l.length))) [inO l e] := by
  refine spec_of Tryz.func44 rfl Tryz.ntmps44 Tryz.results44 ⟨by decide, by simp⟩ fun C hC => ?_
  (repeat (first | refine sp_ ?_ | exact ex0))
  (refine ret_s [] ?_; simp (decide := true) (disch := omega) only [go_sem, ↓reduceIte, ↓put_at])
set_option maxRecDepth 100000 in
set_option maxHeartbeats 8000000 in
theorem in_err (l : List UInt8) (e : Int) : Spec Tryz.prog 46 [.ptr 0 0] [inO l e] (.ca (.val (vi e))) [inO l e] := by
  refine spec_of Tryz.func46 rfl Tryz.ntmps46 Tryz.results46 ⟨by decide, by simp⟩ fun C hC => ?_
  (repeat (first | refine sp_ ?_ | exact ex0))
  (refine ret_s [] ?_; simp (decide := true) (disch := omega) only [go_sem, ↓reduceIte, ↓put_at])
set_option maxRecDepth 100000 in
set_option maxHeartbeats 8000000 in
theorem in_end (l : List UInt8) (e : Int) : Spec Tryz.prog 75 [.ptr 0 0] [inO l e] (.ca (.val (vi (endE l e)))) [inO l e] := by
  refine spec_of Tryz.func75 rfl Tryz.ntmps75 Tryz.results75 ⟨by decide, by simp⟩ fun C hC => ?_
  (repeat (first | refine sp_ ?_ | exact ex0))
  (first | refine condK_eq (fun h => ?_) (fun h => ?_) | refine condK_dec (fun h => ?_) (fun h => ?_) | refine condK_if (fun h => ?_) (fun h => ?_))
  · (repeat (first | refine sp_ ?_ | exact ex0))
    (refine ret_s [] ?_; simp (decide := true) (disch := omega) only [go_sem, ↓reduceIte, ↓put_at])
    all_goals simp_all [endE]
  · (repeat (first | refine sp_ ?_ | exact ex0))
    (refine ret_s [] ?_; simp (decide := true) (disch := omega) only [go_sem, ↓reduceIte, ↓put_at])
    all_goals simp_all [endE]
set_option maxRecDepth 100000 in
set_option maxHeartbeats 8000000 in
theorem in_fail (l : List UInt8) (e f : Int) : Spec Tryz.prog 67 [.ptr 0 0, .ca (.val (vi f))] [inO l e] (.ca (.val (.tup []))) [inO (failL l e f) (failE e f)] := by
  refine spec_of Tryz.func67 rfl Tryz.ntmps67 Tryz.results67 ⟨by decide, by simp⟩ fun C hC => ?_
  rcases h1 : (e == 0) with _ | _
  · (repeat (first | refine sp_ ?_ | exact ex0))
    simp only [h1]
    (repeat (first | refine sp_ ?_ | exact ex0))
    (refine ret_s [] ?_; simp (decide := true) (disch := omega) only [go_sem, ↓reduceIte, ↓put_at])
    all_goals simp_all [failL, failE]
  · (repeat (first | refine sp_ ?_ | exact ex0))
    simp only [h1]
    (repeat (first | refine sp_ ?_ | exact ex0))
    (first | refine condK_eq (fun h => ?_) (fun h => ?_) | refine condK_dec (fun h => ?_) (fun h => ?_) | refine condK_if (fun h => ?_) (fun h => ?_))
    · (repeat (first | refine sp_ ?_ | exact ex0))
      (refine ret_s [] ?_; simp (decide := true) (disch := omega) only [go_sem, ↓reduceIte, ↓put_at])
      all_goals simp_all [failL, failE]
    · (repeat (first | refine sp_ ?_ | exact ex0))
      (refine ret_s [] ?_; simp (decide := true) (disch := omega) only [go_sem, ↓reduceIte, ↓put_at])
      all_goals simp_all [failL, failE]
set_option maxRecDepth 100000 in
set_option maxHeartbeats 8000000 in
theorem in_raw (l : List UInt8) (e n : Int) (hl : l.length ≤ maxLen) (hn : 0 ≤ n ∧ n ≤ maxLen) : Spec Tryz.prog 70 [.ptr 0 0, .ca (.val (vi n))] [inO l e] (.ca (.val (vs (rawT l n)))) [inO (rawL l e n) (rawE l e n)] := by
  unfold maxLen at *
  refine spec_of Tryz.func70 rfl Tryz.ntmps70 Tryz.results70 ⟨by decide, by simp⟩ fun C hC => ?_
  (repeat (first | refine sp_ ?_ | exact ex0))
  (first | refine condK_eq (fun h => ?_) (fun h => ?_) | refine condK_dec (fun h => ?_) (fun h => ?_) | refine condK_if (fun h => ?_) (fun h => ?_))
  · (repeat (first | refine sp_ ?_ | exact ex0))
    refine call_s Tryz.call67 (in_fail l e 2) [(1000, 0)] ?_
    simp (decide := true) (disch := omega) only [go_sem, ↓reduceIte, ↓put_at]
    (repeat (first | refine sp_ ?_ | exact ex0))
    (refine ret_s [] ?_; simp (decide := true) (disch := omega) only [go_sem, ↓reduceIte, ↓put_at])
    have h' : ¬n ≤ l.length := by omega
    simp only [rawT, rawL, rawE, if_neg h', and_self]
  · (repeat (first | refine sp_ ?_ | exact ex0))
    (refine ret_s [] ?_; simp (decide := true) (disch := omega) only [go_sem, ↓reduceIte, ↓put_at])
    have h' : n ≤ l.length := by omega
    try rw [show max 0 n = n by omega]
    simp only [rawT, rawL, rawE, if_pos h', and_true, true_and]
    try exact List.take_of_length_le (by simp)
set_option maxRecDepth 100000 in
set_option maxHeartbeats 8000000 in
theorem in_number (l : List UInt8) (e n : Int) (hl : l.length ≤ maxLen) (hn : 0 ≤ n ∧ n ≤ 4) : Spec Tryz.prog 90 [.ptr 0 0, .ca (.val (vi n))] [inO l e] (.ca (.val (vu (getN (rawT l n))))) [inO (rawL l e n) (rawE l e n)] := by
  refine spec_of Tryz.func90 rfl Tryz.ntmps90 Tryz.results90 ⟨by decide, by simp⟩ fun C hC => ?_
  (repeat (first | refine sp_ ?_ | exact ex0))
  refine call_s Tryz.call70 (in_raw l e n hl (by unfold maxLen; omega)) [(1000, 0)] ?_
  simp (decide := true) (disch := omega) only [go_sem, ↓reduceIte, ↓put_at]
  (repeat (first | refine sp_ ?_ | exact ex0))
  generalize hT : rawT l n = T
  have hTn : T.length ≤ 4 := by
    subst hT; unfold rawT; split
    · simp; omega
    · simp
  refine loop_s (α := {j : Nat // j ≤ T.length}) (fun j => [(.s 5, .av (.val (vu (getN (T.take j.1))))), (.s 6, .av (.val (vs T))), (.s 12, .av (.val (vi T.length))), (.s 13, .av (.val (vi j.1))), (.o (1000, 0), .num 2), (.c (1000, 0) 0, .av (.val (vs (rawL l e n)))), (.c (1000, 0) 1, .av (.val (vi (rawE l e n))))]) (fun j => T.length - j.1) ⟨0, Nat.zero_le _⟩ ?_ (fun j => ?_)
  · simp (decide := true) (disch := omega) only [go_sem, ↓reduceIte, ↓put_at]
  · obtain ⟨j, hj⟩ := j
    dsimp only
    have hb : getN (T.take j) < 256 ^ (T.take j).length := getN_lt _
    have hs : ∀ h : j < T.length, T.take (j + 1) = T.take j ++ [T[j]] := fun h => List.take_succ_eq_append_getElem h
    by_cases hlt : j < T.length
    · have hb : getN (T.take j) < 16777216 := by
        have h2 : (T.take j).length ≤ 3 := by rw [List.length_take]; omega
        have h3 : 256 ^ (T.take j).length ≤ 256 ^ 3 := Nat.pow_le_pow_right (by decide) h2
        omega
      have hbt := T[j].toNat_lt
      (repeat (first | refine sp_ ?_ | exact ex0))
      refine next_s ⟨j + 1, hlt⟩ ⟨?_, by dsimp only; omega⟩
      simp (decide := true) (disch := omega) only [go_sem, ↓reduceIte, ↓put_at]
      rw [hs hlt, getN_snoc, show T.getD j 0 = T[j] by simp [hlt], u32_byte_join _ _ hb hbt]
    · (repeat (first | refine sp_ ?_ | exact ex0))
      (refine ret_s [] ?_; simp (decide := true) (disch := omega) only [go_sem, ↓reduceIte, ↓put_at])
      rw [List.take_of_length_le (by omega)]
theorem raw_lt (l : List UInt8) (k m : Nat) (h : 256 ^ k = m) : (getN (rawT l k) : Int) < m := by
  have h1 := getN_lt (rawT l k)
  have h2 : (rawT l k).length ≤ k := by unfold rawT; split <;> simp <;> omega
  have h3 : 256 ^ (rawT l k).length ≤ 256 ^ k := Nat.pow_le_pow_right (by decide) h2
  omega
set_option maxRecDepth 100000 in
set_option maxHeartbeats 8000000 in
theorem in_u8 (l : List UInt8) (e : Int) (hl : l.length ≤ maxLen) : Spec Tryz.prog 68 [.ptr 0 0] [inO l e] (.ca (.val (vi (getN (rawT l 1))))) [inO (rawL l e 1) (rawE l e 1)] := by
  have hlt : (getN (rawT l 1) : Int) < 256 := raw_lt l 1 256 (by decide)
  refine spec_of Tryz.func68 rfl Tryz.ntmps68 Tryz.results68 ⟨by decide, by simp⟩ fun C hC => ?_
  (repeat (first | refine sp_ ?_ | exact ex0))
  refine call_s Tryz.call90 (in_number l e 1 hl (by omega)) [(1000, 0)] ?_
  (repeat (first | refine sp_ ?_ | exact ex0))
  (refine ret_s [] ?_; simp (decide := true) (disch := omega) only [go_sem, ↓reduceIte, ↓put_at])
set_option maxRecDepth 100000 in
set_option maxHeartbeats 8000000 in
theorem in_u16 (l : List UInt8) (e : Int) (hl : l.length ≤ maxLen) : Spec Tryz.prog 69 [.ptr 0 0] [inO l e] (.ca (.val (vi (getN (rawT l 2))))) [inO (rawL l e 2) (rawE l e 2)] := by
  have hlt : (getN (rawT l 2) : Int) < 65536 := raw_lt l 2 65536 (by decide)
  refine spec_of Tryz.func69 rfl Tryz.ntmps69 Tryz.results69 ⟨by decide, by simp⟩ fun C hC => ?_
  (repeat (first | refine sp_ ?_ | exact ex0))
  refine call_s Tryz.call90 (in_number l e 2 hl (by omega)) [(1000, 0)] ?_
  (repeat (first | refine sp_ ?_ | exact ex0))
  (refine ret_s [] ?_; simp (decide := true) (disch := omega) only [go_sem, ↓reduceIte, ↓put_at])
set_option maxRecDepth 100000 in
set_option maxHeartbeats 8000000 in
theorem in_u24 (l : List UInt8) (e : Int) (hl : l.length ≤ maxLen) : Spec Tryz.prog 92 [.ptr 0 0] [inO l e] (.ca (.val (vi (getN (rawT l 3))))) [inO (rawL l e 3) (rawE l e 3)] := by
  have hlt : (getN (rawT l 3) : Int) < 16777216 := raw_lt l 3 16777216 (by decide)
  refine spec_of Tryz.func92 rfl Tryz.ntmps92 Tryz.results92 ⟨by decide, by simp⟩ fun C hC => ?_
  (repeat (first | refine sp_ ?_ | exact ex0))
  refine call_s Tryz.call90 (in_number l e 3 hl (by omega)) [(1000, 0)] ?_
  (repeat (first | refine sp_ ?_ | exact ex0))
  (refine ret_s [] ?_; simp (decide := true) (disch := omega) only [go_sem, ↓reduceIte, ↓put_at])
set_option maxRecDepth 100000 in
set_option maxHeartbeats 8000000 in
theorem in_u32 (l : List UInt8) (e : Int) (hl : l.length ≤ maxLen) : Spec Tryz.prog 71 [.ptr 0 0] [inO l e] (.ca (.val (vu (getN (rawT l 4))))) [inO (rawL l e 4) (rawE l e 4)] := by
  have hlt : (getN (rawT l 4) : Int) < 4294967296 := raw_lt l 4 4294967296 (by decide)
  refine spec_of Tryz.func71 rfl Tryz.ntmps71 Tryz.results71 ⟨by decide, by simp⟩ fun C hC => ?_
  (repeat (first | refine sp_ ?_ | exact ex0))
  refine call_s Tryz.call90 (in_number l e 4 hl (by omega)) [(1000, 0)] ?_
  (repeat (first | refine sp_ ?_ | exact ex0))
  (refine ret_s [] ?_; simp (decide := true) (disch := omega) only [go_sem, ↓reduceIte, ↓put_at])

/-! ### Out -/
theorem putZ_snoc (n : Int) (p : List UInt8) (a k : Nat) (h : p ++ putZ n (a + 1) = putZ n k) : (p ++ [UInt8.ofNat ((n / 256 ^ a) % 256).toNat]) ++ putZ n a = putZ n k := by
  rw [← h, List.append_assoc]; rfl
set_option maxRecDepth 100000 in
set_option maxHeartbeats 8000000 in
theorem out_put (l : List UInt8) (n : Int) (k : Nat) (hl : l.length + 4 ≤ 140737488355328) (hn : 0 ≤ n ∧ n < 4294967296) (hk : k ≤ 4) : Spec Tryz.prog 64 [.ptr 0 0, .ca (.val (vu n)), .ca (.val (vi k))] [outO l] (.ca (.val (.tup []))) [outO (l ++ putZ n k)] := by
  refine spec_of Tryz.func64 rfl Tryz.ntmps64 Tryz.results64 ⟨by decide, by simp⟩ fun C hC => ?_
  (repeat (first | refine sp_ ?_ | exact ex0))
  refine loop_s (α := {q : Nat × List UInt8 // q.1 ≤ k ∧ q.2 ++ putZ n q.1 = putZ n k}) (fun q => [(.s 0, .av (.ptr (1000, 0) 0 0)), (.s 1, .av (.val (vu n))), (.s 6, .av (.val (vi ((q.1.1 : Int) - 1)))), (.o (1000, 0), .num 1), (.c (1000, 0) 0, .av (.own (1000, 1) 0 5 1 ((l ++ q.1.2).map byteEl))), (.k (1000, 1), .row 5 1 ((l ++ q.1.2).map byteEl).length)]) (fun q => q.1.1) ⟨(k, []), Nat.le_refl _, rfl⟩ ?_ (fun q => ?_)
  · simp (decide := true) (disch := omega) only [go_sem, ↓reduceIte, ↓put_at]
    trace_state
  · obtain ⟨⟨a, p⟩, ha, hp⟩ := q
    dsimp only at ha hp ⊢
    have hpl : p.length + a = k := by
      have := congrArg List.length hp
      rw [List.length_append, putZ_length, putZ_length] at this
      exact this
    have h5 : a = 0 ∨ a = 1 ∨ a = 2 ∨ a = 3 ∨ a = 4 := by omega
    rcases h5 with rfl | rfl | rfl | rfl | rfl
    · have e : p = putZ n k := by simpa [putZ] using hp
      (repeat (first | refine sp_ ?_ | exact ex0))
      (refine ret_s [] ?_; simp (decide := true) (disch := omega) only [go_sem, ↓reduceIte, ↓put_at])
      rw [e]
    · (repeat (first | refine sp_ ?_ | exact ex0))
      refine next_s ⟨(0, p ++ [_]), by dsimp only; omega, putZ_snoc n p 0 k hp⟩ ⟨?_, by dsimp only; omega⟩
      simp (decide := true) (disch := omega) only [go_sem, ↓reduceIte, ↓put_at]
      rw [byte_of]
      simp [Nat.add_assoc]
    · (repeat (first | refine sp_ ?_ | exact ex0))
      refine next_s ⟨(1, p ++ [_]), by dsimp only; omega, putZ_snoc n p 1 k hp⟩ ⟨?_, by dsimp only; omega⟩
      simp (decide := true) (disch := omega) only [go_sem, ↓reduceIte, ↓put_at]
      rw [byte_of]
      simp [Nat.add_assoc]
    · (repeat (first | refine sp_ ?_ | exact ex0))
      refine next_s ⟨(2, p ++ [_]), by dsimp only; omega, putZ_snoc n p 2 k hp⟩ ⟨?_, by dsimp only; omega⟩
      simp (decide := true) (disch := omega) only [go_sem, ↓reduceIte, ↓put_at]
      rw [byte_of]
      simp [Nat.add_assoc]
    · (repeat (first | refine sp_ ?_ | exact ex0))
      refine next_s ⟨(3, p ++ [_]), by dsimp only; omega, putZ_snoc n p 3 k hp⟩ ⟨?_, by dsimp only; omega⟩
      simp (decide := true) (disch := omega) only [go_sem, ↓reduceIte, ↓put_at]
      have e := byte_of (n / 16777216)
      rw [wrap_u8 (by omega) (by omega)] at e
      rw [e]
      simp [Nat.add_assoc]
/-- Whole numbers as elements. -/
def intEl (n : Int) : List V := [.sc (.int .i64 n)]
def u32El (n : Int) : List V := [.sc (.int .u32 n)]
def puts' (k : Nat) (ns : List Int) : List UInt8 := ns.flatMap (putZ · k)
attribute [go_sem] intEl u32El
theorem putZ_mod' (n : Int) (k : Nat) (hk : k ≤ 4) : putZ (n % 4294967296) k = putZ n k := putZ_mod n k 4 hk
theorem puts'_length (k : Nat) (ns : List Int) : (puts' k ns).length = k * ns.length := by
  unfold puts'
  induction ns with
  | nil => simp
  | cons n ns ih => simp [putZ_length, ih, Nat.mul_add]; omega
theorem puts'_snoc (k : Nat) (ns : List Int) (n : Int) : puts' k (ns ++ [n]) = puts' k ns ++ putZ n k := by simp [puts']
set_option maxRecDepth 100000 in
set_option maxHeartbeats 8000000 in
theorem out_each (l : List UInt8) (k : Nat) (ns : List Int) (hl : l.length + 4 * ns.length ≤ 140737488355328) (hk : k ≤ 4) : Spec Tryz.prog 63 [.ptr 0 0, .ca (.val (vi k)), .ca (.val (.lst 1 (ns.map intEl)))] [outO l] (.ptr 0 0) [outO (l ++ puts' k ns)] := by
  refine spec_of Tryz.func63 rfl Tryz.ntmps63 Tryz.results63 ⟨by decide, by simp⟩ fun C hC => ?_
  (repeat (first | refine sp_ ?_ | exact ex0))
  have hpl := fun j => puts'_length k (ns.take j)
  refine loop_s (α := {j : Nat // j ≤ ns.length}) (fun j => [(.s 0, .av (.ptr (1000, 0) 0 0)), (.s 1, .av (.val (vi k))), (.s 9, .av (.val (.lst 1 (ns.map intEl)))), (.s 10, .av (.val (vi ns.length))), (.s 11, .av (.val (vi j.1))), (.o (1000, 0), .num 1), (.c (1000, 0) 0, .av (.own (1000, 1) 0 5 1 ((l ++ puts' k (ns.take j.1)).map byteEl))), (.k (1000, 1), .row 5 1 ((l ++ puts' k (ns.take j.1)).map byteEl).length)]) (fun j => ns.length - j.1) ⟨0, Nat.zero_le _⟩ ?_ (fun j => ?_)
  · simp only [List.take_zero, puts', List.flatMap_nil, List.append_nil]
    simp (decide := true) (disch := omega) only [go_sem, ↓reduceIte, ↓put_at]
  · obtain ⟨j, hj⟩ := j
    dsimp only at hj ⊢
    have hpj := hpl j
    rw [List.length_take, Nat.min_eq_left hj] at hpj
    by_cases hlt : j < ns.length
    · have hkj : k * j ≤ 4 * j := Nat.mul_le_mul_right _ hk
      have hs : ns.take (j + 1) = ns.take j ++ [ns[j]] := List.take_succ_eq_append_getElem hlt
      (repeat (first | refine sp_ ?_ | exact ex0))
      refine call_s Tryz.call64 (out_put (l ++ puts' k (ns.take j)) (ns[j] % 4294967296) k (by rw [List.length_append]; omega) (by omega) hk) [(1000, 0)] ?_
      (repeat (first | refine sp_ ?_ | exact ex0))
      refine ⟨IntKind.wrap_u32 _, ?_⟩
      rw [putZ_mod' _ k hk]
      (repeat (first | refine sp_ ?_ | exact ex0))
      refine next_s ⟨j + 1, hlt⟩ ⟨?_, by dsimp only; omega⟩
      rw [hs, puts'_snoc]
      simp (decide := true) (disch := omega) only [go_sem, ↓reduceIte, ↓put_at]
      simp [Nat.add_assoc]
    · (repeat (first | refine sp_ ?_ | exact ex0))
      (refine ret_s [] ?_; simp (decide := true) (disch := omega) only [go_sem, ↓reduceIte, ↓put_at])
      rw [List.take_of_length_le (by omega)]
set_option maxRecDepth 100000 in
set_option maxHeartbeats 8000000 in
theorem out_u32 (l : List UInt8) (ns : List Int) (hl : l.length + 4 * ns.length ≤ 140737488355328) (hn : ∀ n ∈ ns, 0 ≤ n ∧ n < 4294967296) : Spec Tryz.prog 39 [.ptr 0 0, .ca (.val (.lst 1 (ns.map u32El)))] [outO l] (.ptr 0 0) [outO (l ++ puts' 4 ns)] := by
  refine spec_of Tryz.func39 rfl Tryz.ntmps39 Tryz.results39 ⟨by decide, by simp⟩ fun C hC => ?_
  (repeat (first | refine sp_ ?_ | exact ex0))
  have hpl := fun j => puts'_length 4 (ns.take j)
  refine loop_s (α := {j : Nat // j ≤ ns.length}) (fun j => [(.s 0, .av (.ptr (1000, 0) 0 0)), (.s 7, .av (.val (.lst 1 (ns.map u32El)))), (.s 8, .av (.val (vi ns.length))), (.s 9, .av (.val (vi j.1))), (.o (1000, 0), .num 1), (.c (1000, 0) 0, .av (.own (1000, 1) 0 5 1 ((l ++ puts' 4 (ns.take j.1)).map byteEl))), (.k (1000, 1), .row 5 1 ((l ++ puts' 4 (ns.take j.1)).map byteEl).length)]) (fun j => ns.length - j.1) ⟨0, Nat.zero_le _⟩ ?_ (fun j => ?_)
  · simp only [List.take_zero, puts', List.flatMap_nil, List.append_nil]
    simp (decide := true) (disch := omega) only [go_sem, ↓reduceIte, ↓put_at]
  · obtain ⟨j, hj⟩ := j
    dsimp only at hj ⊢
    have hpj := hpl j
    rw [List.length_take, Nat.min_eq_left hj] at hpj
    by_cases hlt : j < ns.length
    · have hs : ns.take (j + 1) = ns.take j ++ [ns[j]] := List.take_succ_eq_append_getElem hlt
      (repeat (first | refine sp_ ?_ | exact ex0))
      refine call_s Tryz.call64 (out_put (l ++ puts' 4 (ns.take j)) ns[j] 4 (by rw [List.length_append]; omega) (hn _ (List.getElem_mem hlt)) (by decide)) [(1000, 0)] ?_
      (repeat (first | refine sp_ ?_ | exact ex0))
      refine next_s ⟨j + 1, hlt⟩ ⟨?_, by dsimp only; omega⟩
      rw [hs, puts'_snoc]
      simp (decide := true) (disch := omega) only [go_sem, ↓reduceIte, ↓put_at]
      simp [Nat.add_assoc]
    · (repeat (first | refine sp_ ?_ | exact ex0))
      (refine ret_s [] ?_; simp (decide := true) (disch := omega) only [go_sem, ↓reduceIte, ↓put_at])
      rw [List.take_of_length_le (by omega)]
/-- Texts as elements. -/
def strEl (s : List UInt8) : List V := [.sc (str s)]
attribute [go_sem] strEl
theorem flat_take (ss : List (List UInt8)) (j : Nat) : (ss.take j).flatten.length ≤ ss.flatten.length := by
  have h := congrArg (fun l : List (List UInt8) => l.flatten.length) (List.take_append_drop j ss)
  simp only [List.flatten_append, List.length_append] at h
  omega
set_option maxRecDepth 100000 in
set_option maxHeartbeats 8000000 in
theorem out_raw (l : List UInt8) (ss : List (List UInt8)) (hl : l.length + ss.flatten.length ≤ 140737488355328) (hn : ss.length ≤ 140737488355328) : Spec Tryz.prog 36 [.ptr 0 0, .ca (.val (.lst 1 (ss.map strEl)))] [outO l] (.ptr 0 0) [outO (l ++ ss.flatten)] := by
  refine spec_of Tryz.func36 rfl Tryz.ntmps36 Tryz.results36 ⟨by decide, by simp⟩ fun C hC => ?_
  (repeat (first | refine sp_ ?_ | exact ex0))
  refine loop_s (α := {j : Nat // j ≤ ss.length}) (fun j => [(.s 0, .av (.ptr (1000, 0) 0 0)), (.s 7, .av (.val (.lst 1 (ss.map strEl)))), (.s 8, .av (.val (vi ss.length))), (.s 9, .av (.val (vi j.1))), (.o (1000, 0), .num 1), (.c (1000, 0) 0, .av (.own (1000, 1) 0 5 1 ((l ++ (ss.take j.1).flatten).map byteEl))), (.k (1000, 1), .row 5 1 ((l ++ (ss.take j.1).flatten).map byteEl).length)]) (fun j => ss.length - j.1) ⟨0, Nat.zero_le _⟩ ?_ (fun j => ?_)
  · simp only [List.take_zero, List.flatten_nil, List.append_nil]
    simp (decide := true) (disch := omega) only [go_sem, ↓reduceIte, ↓put_at]
  · obtain ⟨j, hj⟩ := j
    dsimp only at hj ⊢
    by_cases hlt : j < ss.length
    · have hs : ss.take (j + 1) = ss.take j ++ [ss[j]] := List.take_succ_eq_append_getElem hlt
      have hf := flat_take ss (j + 1)
      rw [hs, List.flatten_append, List.length_append, List.flatten_singleton] at hf
      (repeat (first | refine sp_ ?_ | exact ex0))
      refine next_s ⟨j + 1, hlt⟩ ⟨?_, by dsimp only; omega⟩
      rw [hs, List.flatten_append, List.flatten_singleton]
      simp (decide := true) (disch := omega) only [go_sem, ↓reduceIte, ↓put_at]
      simp [Nat.add_assoc]
    · (repeat (first | refine sp_ ?_ | exact ex0))
      (refine ret_s [] ?_; simp (decide := true) (disch := omega) only [go_sem, ↓reduceIte, ↓put_at])
      rw [List.take_of_length_le (by omega)]
set_option maxRecDepth 100000 in
set_option maxHeartbeats 8000000 in
theorem out_bytes (l : List UInt8) (hl : l.length ≤ 140737488355328) : Spec Tryz.prog 37 [.ptr 0 0] [outO l] (.ca (.val (vs l))) [outO l] := by
  refine spec_of Tryz.func37 rfl Tryz.ntmps37 Tryz.results37 ⟨by decide, by simp⟩ fun C hC => ?_
  (repeat (first | refine sp_ ?_ | exact ex0))
  refine convBS_s l (by simp (decide := true) (disch := omega) only [go_sem, ↓reduceIte, ↓put_at]) (by simp (decide := true) (disch := omega) only [go_sem, ↓reduceIte, ↓put_at]) (by simp (decide := true) (disch := omega) only [go_sem, ↓reduceIte, ↓put_at]) ?_
  (repeat (first | refine sp_ ?_ | exact ex0))
  (refine ret_s [] ?_; simp (decide := true) (disch := omega) only [go_sem, ↓reduceIte, ↓put_at])
  trace_state
set_option maxRecDepth 100000 in
set_option maxHeartbeats 8000000 in
theorem out_u8 (l : List UInt8) (ns : List Int) (hl : l.length + 4 * ns.length ≤ 140737488355328) : Spec Tryz.prog 34 [.ptr 0 0, .ca (.val (.lst 1 (ns.map intEl)))] [outO l] (.ptr 0 0) [outO (l ++ puts' 1 ns)] := by
  refine spec_of Tryz.func34 rfl Tryz.ntmps34 Tryz.results34 ⟨by decide, by simp⟩ fun C hC => ?_
  (repeat (first | refine sp_ ?_ | exact ex0))
  refine call_s Tryz.call63 (out_each l 1 ns hl (by decide)) [(1000, 0)] ?_
  (repeat (first | refine sp_ ?_ | exact ex0))
  (refine ret_s [] ?_; simp (decide := true) (disch := omega) only [go_sem, ↓reduceIte, ↓put_at])
set_option maxRecDepth 100000 in
set_option maxHeartbeats 8000000 in
theorem out_u16 (l : List UInt8) (ns : List Int) (hl : l.length + 4 * ns.length ≤ 140737488355328) : Spec Tryz.prog 35 [.ptr 0 0, .ca (.val (.lst 1 (ns.map intEl)))] [outO l] (.ptr 0 0) [outO (l ++ puts' 2 ns)] := by
  refine spec_of Tryz.func35 rfl Tryz.ntmps35 Tryz.results35 ⟨by decide, by simp⟩ fun C hC => ?_
  (repeat (first | refine sp_ ?_ | exact ex0))
  refine call_s Tryz.call63 (out_each l 2 ns hl (by decide)) [(1000, 0)] ?_
  (repeat (first | refine sp_ ?_ | exact ex0))
  (refine ret_s [] ?_; simp (decide := true) (disch := omega) only [go_sem, ↓reduceIte, ↓put_at])
set_option maxRecDepth 100000 in
set_option maxHeartbeats 8000000 in
theorem out_u24 (l : List UInt8) (ns : List Int) (hl : l.length + 4 * ns.length ≤ 140737488355328) : Spec Tryz.prog 124 [.ptr 0 0, .ca (.val (.lst 1 (ns.map intEl)))] [outO l] (.ptr 0 0) [outO (l ++ puts' 3 ns)] := by
  refine spec_of Tryz.func124 rfl Tryz.ntmps124 Tryz.results124 ⟨by decide, by simp⟩ fun C hC => ?_
  (repeat (first | refine sp_ ?_ | exact ex0))
  refine call_s Tryz.call63 (out_each l 3 ns hl (by decide)) [(1000, 0)] ?_
  (repeat (first | refine sp_ ?_ | exact ex0))
  (refine ret_s [] ?_; simp (decide := true) (disch := omega) only [go_sem, ↓reduceIte, ↓put_at])
end Go.Proofs.YtbnnfmleoebelaaGreat

namespace Go.Proofs.YtbnnfmleoebelaaGreat
open Go.RowKit
set_option linter.unusedVariables false
set_option linter.unusedSimpArgs false

/-- What an In is after so many bytes, and the number they are. -/
def nx (k : Nat) (x : List UInt8 × Int) : List UInt8 × Int := (rawL x.1 x.2 k, rawE x.1 x.2 k)
def vl (k : Nat) (x : List UInt8 × Int) : Int := getN (rawT x.1 k)
theorem nx_len (k : Nat) (x : List UInt8 × Int) : (nx k x).1.length ≤ x.1.length := by
  unfold nx rawL failL
  dsimp only
  split
  · simp
  · split <;> simp
theorem vl_lt (k m : Nat) (x : List UInt8 × Int) (h : 256 ^ k = m) : 0 ≤ vl k x ∧ vl k x < m := ⟨by unfold vl; omega, raw_lt x.1 k m h⟩
theorem rd8 (x : List UInt8 × Int) (h : x.1.length ≤ maxLen) : Spec Tryz.prog 68 [.ptr 0 0] [inO x.1 x.2] (.ca (.val (vi (vl 1 x)))) [inO (nx 1 x).1 (nx 1 x).2] := in_u8 x.1 x.2 h
theorem rd24 (x : List UInt8 × Int) (h : x.1.length ≤ maxLen) : Spec Tryz.prog 92 [.ptr 0 0] [inO x.1 x.2] (.ca (.val (vi (vl 3 x)))) [inO (nx 3 x).1 (nx 3 x).2] := in_u24 x.1 x.2 h
theorem rd32 (x : List UInt8 × Int) (h : x.1.length ≤ maxLen) : Spec Tryz.prog 71 [.ptr 0 0] [inO x.1 x.2] (.ca (.val (vu (vl 4 x)))) [inO (nx 4 x).1 (nx 4 x).2] := in_u32 x.1 x.2 h
/-- What an In is when so many bytes have been asked of it. -/
def goX (T : Nat) (l : List UInt8) : List UInt8 × Int := if T ≤ l.length then (l.drop T, 0) else ([], 2)
theorem goX_zero (l : List UInt8) : (l, (0 : Int)) = goX 0 l := by simp [goX]
theorem goX_nx (k T : Nat) (l : List UInt8) (hk : 0 < k) : nx k (goX T l) = goX (T + k) l := by
  unfold goX nx rawL rawE failL failE
  by_cases h : T ≤ l.length
  · rw [if_pos h]
    by_cases h2 : T + k ≤ l.length
    · have hh : (k : Int) ≤ ((l.drop T).length : Int) := by rw [List.length_drop]; omega
      dsimp only
      rw [if_pos hh, if_pos hh, if_pos h2]
      simp [List.drop_drop]
    · have hh : ¬ (k : Int) ≤ ((l.drop T).length : Int) := by rw [List.length_drop]; omega
      dsimp only
      rw [if_neg hh, if_neg hh, if_neg h2]
      rfl
  · have hh : ¬ (k : Int) ≤ (([] : List UInt8).length : Int) := by simp only [List.length_nil]; omega
    rw [if_neg h, if_neg (show ¬ T + k ≤ l.length by omega)]
    dsimp only
    rw [if_neg hh, if_neg hh]
    rfl
theorem goX_vl (k T : Nat) (l : List UInt8) (h : T + k ≤ l.length) : vl k (goX T l) = getN ((l.drop T).take k) := by
  have hh : (k : Int) ≤ ((l.drop T).length : Int) := by rw [List.length_drop]; omega
  unfold goX vl rawT
  rw [if_pos (show T ≤ l.length by omega)]
  dsimp only
  rw [if_pos hh]
  rfl
theorem puts1 (k : Nat) (n : Int) : puts' k [n] = putZ n k := by simp [puts']
end Go.Proofs.YtbnnfmleoebelaaGreat

namespace Go.Proofs.YtbnnfmleoebelaaGreat
open Go.RowKit
set_option linter.unusedVariables false
set_option linter.unusedSimpArgs false

theorem fm_len {α : Type} (c : Nat) (wr : α → List UInt8) (hw : ∀ x, (wr x).length = c) (xs : List α) : (xs.flatMap wr).length = c * xs.length := by
  induction xs with
  | nil => rfl
  | cons x xs ih => rw [List.flatMap_cons, List.length_append, hw, ih, List.length_cons, Nat.mul_add]; omega
/-- The i-th part of so many bytes. -/
def blkN (c : Nat) (l : List UInt8) (i : Nat) : List UInt8 := (l.drop (4 + c * i)).take c
/-- Parts that may be, whose paths rise. -/
def rises {α : Type} (may : α → Bool) (path : α → Int) : Int → List α → Bool
  | _, [] => true
  | last, x :: xs => may x && decide (last < path x) && rises may path (path x) xs
theorem rises_map {α β : Type} (f : β → α) (may : α → Bool) (path : α → Int) : ∀ (last : Int) (xs : List β), rises may path last (xs.map f) = rises (fun y => may (f y)) (fun y => path (f y)) last xs
  | _, [] => rfl
  | last, x :: xs => by rw [List.map_cons, rises, rises, rises_map f may path]
theorem rises_few {α : Type} (may : α → Bool) (path : α → Int) (hm : ∀ x, may x = true → path x ≤ 15) : ∀ (last : Int) (xs : List α), last ≤ 15 → rises may path last xs = true → (xs.length : Int) ≤ 15 - last
  | last, [], h0, _ => by simp; omega
  | last, x :: xs, h0, h => by
    simp only [rises, Bool.and_eq_true, decide_eq_true_eq] at h
    have h1 := hm x h.1.1
    have := rises_few may path hm (path x) xs h1 h.2
    rw [List.length_cons]
    omega
/-- The last path behind so many parts. -/
def lastP {α : Type} (path : α → Int) (last : Int) (xs : List α) : Int := xs.foldl (fun _ x => path x) last
theorem lastP_snoc {α : Type} (path : α → Int) (last : Int) (xs : List α) (x : α) : lastP path last (xs ++ [x]) = path x := by simp [lastP]
theorem rises_snoc {α : Type} (may : α → Bool) (path : α → Int) (x : α) : ∀ (last : Int) (xs : List α), rises may path last (xs ++ [x]) = (rises may path last xs && (may x && decide (lastP path last xs < path x)))
  | last, [] => by rw [List.nil_append, rises, rises, rises, Bool.true_and, Bool.and_true]; rfl
  | last, y :: ys => by
    rw [List.cons_append, rises, rises, rises_snoc may path x (path y) ys, Bool.and_assoc, Bool.and_assoc, Bool.and_assoc]
    rfl
theorem rises_app {α : Type} (may : α → Bool) (path : α → Int) : ∀ (last : Int) (xs ys : List α), rises may path last (xs ++ ys) = true → rises may path last xs = true
  | _, [], _, _ => rfl
  | last, x :: xs, ys, h => by
    simp only [List.cons_append, rises, Bool.and_eq_true] at h ⊢
    exact ⟨h.1, rises_app may path _ xs ys h.2⟩
theorem rises_pre {α : Type} (may : α → Bool) (path : α → Int) (last : Int) (xs : List α) (n : Nat) (h : rises may path last xs = true) : rises may path last (xs.take n) = true := by
  apply rises_app may path last _ (xs.drop n)
  rwa [List.take_append_drop]
section
variable {α : Type} (c : Nat) (rd : List UInt8 → α) (wr : α → List UInt8) (may : α → Bool) (path : α → Int) (good : List UInt8 → Bool)
def rawN11 (l : List UInt8) : Nat := min 15 ((l.length - 4) / c)
def rawL11 (l : List UInt8) : List α := (List.range (rawN11 c l)).map fun i => rd (blkN c l i)
end
end Go.Proofs.YtbnnfmleoebelaaGreat

