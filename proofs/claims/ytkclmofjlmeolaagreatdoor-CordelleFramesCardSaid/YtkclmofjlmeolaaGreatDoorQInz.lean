/- Package buffer: Put, whatever part. -/
import Derived.Test.YtkclmofjlmeolaaGreatDoorBuf5z
import Derived.Test.YtkclmofjlmeolaaGreatDoorBufSz
import Derived.Below
import Derived.Test.YtkclmofjlmeolaaGreatDoorREz
import Derived.Test.YtkclmofjlmeolaaGreatDoorTiz
namespace Go.Proofs.YtkclmofjlmeolaaGreatDoor
open Go.RowKit
set_option linter.unusedVariables false
set_option linter.unusedSimpArgs false

theorem buf_put {b : Bu} {K : Int} (h : b.Ok K) (hK : K ≤ 549755813888) (t : Nat) (i c : Int) (s : List UInt8) (now : Int) (ht : t < 4294967296) (hs : s.length ≤ 1048576) (h2 : -1099511627776 ≤ now) (h3 : now ≤ 1099511627776) :
    Spec Tryz.prog 10 [.ptr 0 0, .ca (.val (vu t)), .ca (.val (.agg [vi i, vi c])), .ca (.val (vs s)), .ca (.val (vi now))] [buO b] (.ca (.val (cmV (putB b t i c s now).2.1 (putB b t i c s now).2.2))) [buO (putB b t i c s now).1] := by
  unfold putB
  by_cases hl : (t : Int) ≤ b.hz
  · rw [if_pos hl]
    exact buf_put_late b t i c s now hl ht
  rw [if_neg hl]
  cases hb : badB i c with
  | true =>
    rw [if_pos rfl]
    exact buf_put_bad b t i c s now (by omega) hb ht
  | false =>
    rw [if_neg (by decide)]
    have hlen := h.len
    obtain ⟨f, f1, f2, f3, f4, f5, f6, f7⟩ := frameB_facts (c := c) h.fr h.so ht h2 h3
    have hfr : Spec Tryz.prog 25 [.ptr 0 0, .ca (.val (vu t)), .ca (.val (vi c)), .ca (.val (vi now))] [buO b] (.ptr 1 0) [buL (frameB b t c now) (frameB b t c now).l.length (pkts (frameB b t c now).l) (bts (frameB b t c now).l) (atF b.l t), frO f] := by
      cases hi : isF b.l t with
      | true =>
        have e : frameB b t c now = b := by unfold frameB; rw [if_pos hi]
        rw [e] at f1 ⊢
        exact buf_frame_is b t c now hi f f1 ht (by omega) h.fr h.so
      | false =>
        have e : frameB b t c now = { b with l := b.l.take (atF b.l t) ++ newF t c now :: b.l.drop (atF b.l t) } := by unfold frameB; rw [if_neg (by rw [hi]; decide)]
        have hfe : f = newF t c now := by
          rw [e] at f1
          rw [mid_at _ _ _ (atF_le _ _)] at f1
          exact (Option.some.inj f1).symm
        rw [e]
        exact buf_frame_new b t c now hi ht (by omega) h.fr h.so f hfe f3 _ (by rw [hfe])
    have hp : partB (frameB b t c now) (atF b.l t) i c s = ({ frameB b t c now with l := (frameB b t c now).l.set (atF b.l t) (putF f i c s).1 }, (putF f i c s).2) := by
      unfold partB
      rw [f1]
    rw [hp]
    dsimp only
    have hc : (frameB b t c now).cf = b.cf ∧ (frameB b t c now).cp = b.cp ∧ (frameB b t c now).cb = b.cb ∧ (frameB b t c now).ev = b.ev := by
      unfold frameB
      split <;> exact ⟨rfl, rfl, rfl, rfl⟩
    obtain ⟨c1, c2, c3, c4⟩ := hc
    have k0 := h.e0
    have k1 := h.e1
    refine buf_put_main b t i c s now (by omega) hb ht hs (frameB b t c now) f (atF b.l t) ⟨⟨by rw [c1]; exact h.f0, by rw [c1]; exact h.f1, by rw [c2]; exact h.p0, by rw [c2]; exact h.p1, by rw [c3]; exact h.b0, by rw [c3]; exact h.b1⟩, by omega, f4, by rw [c4]; exact h.e0, by rw [c4]; omega⟩ f1 _ ?_ hfr
    rw [List.length_set]
end Go.Proofs.YtkclmofjlmeolaaGreatDoor

namespace Go.Proofs.YtkclmofjlmeolaaGreatDoor
set_option linter.unusedVariables false
set_option linter.unusedSimpArgs false

/-- A whole number in so many bytes, the highest first (two's complement below 0). -/
def putZ (n : Int) : Nat → List UInt8
  | 0 => []
  | k + 1 => UInt8.ofNat ((n / 256 ^ k) % 256).toNat :: putZ n k
/-- The number that bytes are. -/
def getN (l : List UInt8) : Nat := l.foldl (fun n b => 256 * n + b.toNat) 0

theorem putZ_length (n : Int) (k : Nat) : (putZ n k).length = k := by
  induction k with
  | zero => rfl
  | succ k ih => simp [putZ, ih]
theorem getN_snoc (l : List UInt8) (b : UInt8) : getN (l ++ [b]) = 256 * getN l + b.toNat := by
  unfold getN; rw [List.foldl_append]; rfl
theorem getN_foldl (l : List UInt8) (a : Nat) : l.foldl (fun n b => 256 * n + b.toNat) a = a * 256 ^ l.length + getN l := by
  induction l generalizing a with
  | nil => simp [getN]
  | cons b l ih =>
    unfold getN
    simp only [List.foldl_cons, List.length_cons]
    rw [ih, ih (256 * 0 + b.toNat), Nat.pow_succ]
    simp only [Nat.mul_zero, Nat.zero_add, Nat.add_mul]
    rw [Nat.mul_comm (256 ^ l.length) 256, ← Nat.mul_assoc, Nat.mul_comm a 256, Nat.add_assoc]
theorem getN_cons (b : UInt8) (l : List UInt8) : getN (b :: l) = b.toNat * 256 ^ l.length + getN l := by
  have := getN_foldl l (256 * 0 + b.toNat)
  unfold getN at *
  simpa using this
theorem getN_lt (l : List UInt8) : getN l < 256 ^ l.length := by
  induction l with
  | nil => simp [getN]
  | cons b l ih =>
    rw [getN_cons, List.length_cons, Nat.pow_succ]
    have := b.toNat_lt
    have h : b.toNat * 256 ^ l.length ≤ 255 * 256 ^ l.length := Nat.mul_le_mul_right _ (by omega)
    omega
theorem toNat_byte (x : Int) : (UInt8.ofNat (x % 256).toNat).toNat = (x % 256).toNat := by
  rw [UInt8.toNat_ofNat']
  have h1 := Int.emod_nonneg x (show (256 : Int) ≠ 0 by decide)
  have h2 := Int.emod_lt_of_pos x (show (0 : Int) < 256 by decide)
  exact Nat.mod_eq_of_lt (by omega)
theorem pow_cast (k : Nat) : ((256 ^ k : Nat) : Int) = (256 : Int) ^ k := by simp [Int.natCast_pow]
theorem pow_pos' (k : Nat) : (0 : Int) < 256 ^ k := Int.pow_pos (by decide)
/-- What was written is read again, as far as the bytes go. -/
theorem getN_putZ (n : Int) (k : Nat) : (getN (putZ n k) : Int) = n % 256 ^ k := by
  induction k with
  | zero => simp [putZ, getN, Int.emod_one]
  | succ k ih =>
    rw [putZ, getN_cons, putZ_length, Int.natCast_add, Int.natCast_mul, ih, toNat_byte, pow_cast, Int.pow_succ]
    have h1 := Int.emod_nonneg (n / 256 ^ k) (show (256 : Int) ≠ 0 by decide)
    rw [Int.toNat_of_nonneg h1]
    have hp := pow_pos' k
    have e1 := Int.emod_add_mul_ediv n (256 ^ k)
    have e2 := Int.emod_add_mul_ediv (n / 256 ^ k) 256
    have hd : n / (256 ^ k * 256) = n / 256 ^ k / 256 := by rw [Int.ediv_ediv_of_nonneg (by omega)]
    have e3 := Int.emod_add_mul_ediv n (256 ^ k * 256)
    rw [hd] at e3
    have e4 : (256 : Int) ^ k * 256 * (n / 256 ^ k / 256) = 256 ^ k * (256 * (n / 256 ^ k / 256)) := by rw [Int.mul_assoc]
    have e5 : (256 : Int) ^ k * (n / 256 ^ k) = 256 ^ k * (n / 256 ^ k % 256) + 256 ^ k * (256 * (n / 256 ^ k / 256)) := by
      rw [← Int.mul_add, e2]
    rw [Int.mul_comm (n / 256 ^ k % 256)]
    omega
theorem putZ_mod (n : Int) (k m : Nat) (h : k ≤ m) : putZ (n % 256 ^ m) k = putZ n k := by
  induction k with
  | zero => rfl
  | succ k ih =>
    have ih := ih (by omega)
    unfold putZ
    rw [ih]
    congr 3
    obtain ⟨j, rfl⟩ : ∃ j, m = k + 1 + j := ⟨m - (k + 1), by omega⟩
    have hp := pow_pos' k
    have e : (256 : Int) ^ (k + 1 + j) = 256 ^ k * (256 * 256 ^ j) := by rw [Int.pow_add, Int.pow_succ, Int.mul_assoc]
    have h1 := Int.emod_add_mul_ediv n (256 ^ (k + 1 + j))
    rw [e] at h1 ⊢
    have h2 : n / 256 ^ k = n % (256 ^ k * (256 * 256 ^ j)) / 256 ^ k + 256 * 256 ^ j * (n / (256 ^ k * (256 * 256 ^ j))) := by
      conv => lhs; rw [← h1]
      rw [Int.mul_assoc (256 ^ k), Int.add_mul_ediv_left _ _ (by omega)]
    rw [h2, Int.mul_assoc 256, Int.add_mul_emod_self_left]
theorem putZ_getN (l : List UInt8) : putZ (getN l) l.length = l := by
  induction l with
  | nil => rfl
  | cons b l ih =>
    rw [List.length_cons, putZ]
    have hlt := getN_lt l
    have hb := b.toNat_lt
    have hp : 0 < 256 ^ l.length := Nat.pow_pos (by omega)
    have e1 : ((getN (b :: l) : Nat) : Int) / 256 ^ l.length = b.toNat := by
      rw [← pow_cast, ← Int.natCast_ediv, getN_cons, Nat.mul_comm, Nat.mul_add_div hp, Nat.div_eq_of_lt hlt, Nat.add_zero]
    have e2 : putZ (getN (b :: l)) l.length = putZ (getN l) l.length := by
      rw [← putZ_mod _ l.length l.length (Nat.le_refl _), ← pow_cast, ← Int.natCast_emod, getN_cons]
      rw [Nat.add_comm, Nat.add_mul_mod_self_right, Nat.mod_eq_of_lt hlt]
    rw [e1, e2, ih]
    congr 1
    have : ((b.toNat : Int) % 256).toNat = b.toNat := by omega
    rw [this]
    exact UInt8.ofNat_toNat
end Go.Proofs.YtkclmofjlmeolaaGreatDoor

namespace Go.Proofs.YtkclmofjlmeolaaGreatDoor
open Go.RowKit
set_option linter.unusedVariables false
set_option linter.unusedSimpArgs false

/-- What an In holds. -/
abbrev inO (l : List UInt8) (e : Int) : List CA := [.val (vs l), .val (vi e)]
/-- What an Out holds. -/
abbrev outO (l : List UInt8) : List CA := [.own 5 1 (l.map byteEl)]
def failL (l : List UInt8) (e f : Int) : List UInt8 := if e = 0 ∧ f ≠ 0 then [] else l
def failE (e f : Int) : Int := if e = 0 ∧ f ≠ 0 then f else e
def rawT (l : List UInt8) (n : Int) : List UInt8 := if n ≤ l.length then l.take n.toNat else []
def rawL (l : List UInt8) (e n : Int) : List UInt8 := if n ≤ l.length then l.drop n.toNat else failL l e 2
def rawE (l : List UInt8) (e n : Int) : Int := if n ≤ l.length then e else failE e 2
set_option maxRecDepth 100000 in
set_option maxHeartbeats 8000000 in
theorem pen_of (l : List UInt8) : Spec Tryz.prog 47 [.ca (.val (vs l))] [] (.ptr 0 0) [inO l 0] := by
  refine spec_of Tryz.func47 rfl Tryz.ntmps47 Tryz.results47 ⟨by decide, by simp⟩ fun C hC => ?_
  (repeat (first | refine sp_ ?_ | exact ex0))
  (refine ret_s [(5, 0)] ?_; simp (decide := true) (disch := omega) only [go_sem, ↓reduceIte, ↓put_at])
set_option maxRecDepth 100000 in
set_option maxHeartbeats 8000000 in
theorem in_left (l : List UInt8) (e : Int) : Spec Tryz.prog 52 [.ptr 0 0] [inO l e] (.ca (.val (vi l.length))) [inO l e] := by
  refine spec_of Tryz.func52 rfl Tryz.ntmps52 Tryz.results52 ⟨by decide, by simp⟩ fun C hC => ?_
  (repeat (first | refine sp_ ?_ | exact ex0))
  (refine ret_s [] ?_; simp (decide := true) (disch := omega) only [go_sem, ↓reduceIte, ↓put_at])
set_option maxRecDepth 100000 in
set_option maxHeartbeats 8000000 in
theorem in_err (l : List UInt8) (e : Int) : Spec Tryz.prog 53 [.ptr 0 0] [inO l e] (.ca (.val (vi e))) [inO l e] := by
  refine spec_of Tryz.func53 rfl Tryz.ntmps53 Tryz.results53 ⟨by decide, by simp⟩ fun C hC => ?_
  (repeat (first | refine sp_ ?_ | exact ex0))
  (refine ret_s [] ?_; simp (decide := true) (disch := omega) only [go_sem, ↓reduceIte, ↓put_at])
set_option maxRecDepth 100000 in
set_option maxHeartbeats 8000000 in
theorem in_fail (l : List UInt8) (e f : Int) : Spec Tryz.prog 79 [.ptr 0 0, .ca (.val (vi f))] [inO l e] (.ca (.val (.tup []))) [inO (failL l e f) (failE e f)] := by
  refine spec_of Tryz.func79 rfl Tryz.ntmps79 Tryz.results79 ⟨by decide, by simp⟩ fun C hC => ?_
  rcases h1 : (e == 0) with _ | _
  · (repeat (first | refine sp_ ?_ | exact ex0))
    simp only [h1]
    (repeat (first | refine sp_ ?_ | exact ex0))
    (refine ret_s [] ?_; simp (decide := true) (disch := omega) only [go_sem, ↓reduceIte, ↓put_at])
    all_goals simp_all [failL, failE]
  · (repeat (first | refine sp_ ?_ | exact ex0))
    simp only [h1]
    (repeat (first | refine sp_ ?_ | exact ex0))
    (first | refine condK_eq (fun h => ?_) (fun h => ?_) | refine condK_dec (fun h => ?_) (fun h => ?_) | refine condK_if (fun h => ?_) (fun h => ?_))
    · (repeat (first | refine sp_ ?_ | exact ex0))
      (refine ret_s [] ?_; simp (decide := true) (disch := omega) only [go_sem, ↓reduceIte, ↓put_at])
      all_goals simp_all [failL, failE]
    · (repeat (first | refine sp_ ?_ | exact ex0))
      (refine ret_s [] ?_; simp (decide := true) (disch := omega) only [go_sem, ↓reduceIte, ↓put_at])
      all_goals simp_all [failL, failE]
set_option maxRecDepth 100000 in
set_option maxHeartbeats 8000000 in
theorem in_raw (l : List UInt8) (e n : Int) (hl : l.length ≤ maxLen) (hn : 0 ≤ n ∧ n ≤ maxLen) : Spec Tryz.prog 51 [.ptr 0 0, .ca (.val (vi n))] [inO l e] (.ca (.val (vs (rawT l n)))) [inO (rawL l e n) (rawE l e n)] := by
  unfold maxLen at *
  refine spec_of Tryz.func51 rfl Tryz.ntmps51 Tryz.results51 ⟨by decide, by simp⟩ fun C hC => ?_
  (repeat (first | refine sp_ ?_ | exact ex0))
  (first | refine condK_eq (fun h => ?_) (fun h => ?_) | refine condK_dec (fun h => ?_) (fun h => ?_) | refine condK_if (fun h => ?_) (fun h => ?_))
  · (repeat (first | refine sp_ ?_ | exact ex0))
    refine call_s Tryz.call79 (in_fail l e 2) [(1000, 0)] ?_
    simp (decide := true) (disch := omega) only [go_sem, ↓reduceIte, ↓put_at]
    (repeat (first | refine sp_ ?_ | exact ex0))
    (refine ret_s [] ?_; simp (decide := true) (disch := omega) only [go_sem, ↓reduceIte, ↓put_at])
    have h' : ¬n ≤ l.length := by omega
    simp only [rawT, rawL, rawE, if_neg h', and_self]
  · (repeat (first | refine sp_ ?_ | exact ex0))
    (refine ret_s [] ?_; simp (decide := true) (disch := omega) only [go_sem, ↓reduceIte, ↓put_at])
    have h' : n ≤ l.length := by omega
    try rw [show max 0 n = n by omega]
    simp only [rawT, rawL, rawE, if_pos h', and_true, true_and]
    try exact List.take_of_length_le (by simp)
set_option maxRecDepth 100000 in
set_option maxHeartbeats 8000000 in
theorem in_number (l : List UInt8) (e n : Int) (hl : l.length ≤ maxLen) (hn : 0 ≤ n ∧ n ≤ 4) : Spec Tryz.prog 78 [.ptr 0 0, .ca (.val (vi n))] [inO l e] (.ca (.val (vu (getN (rawT l n))))) [inO (rawL l e n) (rawE l e n)] := by
  refine spec_of Tryz.func78 rfl Tryz.ntmps78 Tryz.results78 ⟨by decide, by simp⟩ fun C hC => ?_
  (repeat (first | refine sp_ ?_ | exact ex0))
  refine call_s Tryz.call51 (in_raw l e n hl (by unfold maxLen; omega)) [(1000, 0)] ?_
  simp (decide := true) (disch := omega) only [go_sem, ↓reduceIte, ↓put_at]
  (repeat (first | refine sp_ ?_ | exact ex0))
  generalize hT : rawT l n = T
  have hTn : T.length ≤ 4 := by
    subst hT; unfold rawT; split
    · simp; omega
    · simp
  refine loop_s (α := {j : Nat // j ≤ T.length}) (fun j => [(.s 5, .av (.val (vu (getN (T.take j.1))))), (.s 6, .av (.val (vs T))), (.s 12, .av (.val (vi T.length))), (.s 13, .av (.val (vi j.1))), (.o (1000, 0), .num 2), (.c (1000, 0) 0, .av (.val (vs (rawL l e n)))), (.c (1000, 0) 1, .av (.val (vi (rawE l e n))))]) (fun j => T.length - j.1) ⟨0, Nat.zero_le _⟩ ?_ (fun j => ?_)
  · simp (decide := true) (disch := omega) only [go_sem, ↓reduceIte, ↓put_at]
  · obtain ⟨j, hj⟩ := j
    dsimp only
    have hb : getN (T.take j) < 256 ^ (T.take j).length := getN_lt _
    have hs : ∀ h : j < T.length, T.take (j + 1) = T.take j ++ [T[j]] := fun h => List.take_succ_eq_append_getElem h
    by_cases hlt : j < T.length
    · have hb : getN (T.take j) < 16777216 := by
        have h2 : (T.take j).length ≤ 3 := by rw [List.length_take]; omega
        have h3 : 256 ^ (T.take j).length ≤ 256 ^ 3 := Nat.pow_le_pow_right (by decide) h2
        omega
      have hbt := T[j].toNat_lt
      (repeat (first | refine sp_ ?_ | exact ex0))
      refine next_s ⟨j + 1, hlt⟩ ⟨?_, by dsimp only; omega⟩
      simp (decide := true) (disch := omega) only [go_sem, ↓reduceIte, ↓put_at]
      rw [hs hlt, getN_snoc, show T.getD j 0 = T[j] by simp [hlt], u32_byte_join _ _ hb hbt]
    · (repeat (first | refine sp_ ?_ | exact ex0))
      (refine ret_s [] ?_; simp (decide := true) (disch := omega) only [go_sem, ↓reduceIte, ↓put_at])
      rw [List.take_of_length_le (by omega)]
theorem raw_lt (l : List UInt8) (k m : Nat) (h : 256 ^ k = m) : (getN (rawT l k) : Int) < m := by
  have h1 := getN_lt (rawT l k)
  have h2 : (rawT l k).length ≤ k := by unfold rawT; split <;> simp <;> omega
  have h3 : 256 ^ (rawT l k).length ≤ 256 ^ k := Nat.pow_le_pow_right (by decide) h2
  omega
set_option maxRecDepth 100000 in
set_option maxHeartbeats 8000000 in
theorem in_u8 (l : List UInt8) (e : Int) (hl : l.length ≤ maxLen) : Spec Tryz.prog 48 [.ptr 0 0] [inO l e] (.ca (.val (vi (getN (rawT l 1))))) [inO (rawL l e 1) (rawE l e 1)] := by
  have hlt : (getN (rawT l 1) : Int) < 256 := raw_lt l 1 256 (by decide)
  refine spec_of Tryz.func48 rfl Tryz.ntmps48 Tryz.results48 ⟨by decide, by simp⟩ fun C hC => ?_
  (repeat (first | refine sp_ ?_ | exact ex0))
  refine call_s Tryz.call78 (in_number l e 1 hl (by omega)) [(1000, 0)] ?_
  (repeat (first | refine sp_ ?_ | exact ex0))
  (refine ret_s [] ?_; simp (decide := true) (disch := omega) only [go_sem, ↓reduceIte, ↓put_at])
set_option maxRecDepth 100000 in
set_option maxHeartbeats 8000000 in
theorem in_u16 (l : List UInt8) (e : Int) (hl : l.length ≤ maxLen) : Spec Tryz.prog 49 [.ptr 0 0] [inO l e] (.ca (.val (vi (getN (rawT l 2))))) [inO (rawL l e 2) (rawE l e 2)] := by
  have hlt : (getN (rawT l 2) : Int) < 65536 := raw_lt l 2 65536 (by decide)
  refine spec_of Tryz.func49 rfl Tryz.ntmps49 Tryz.results49 ⟨by decide, by simp⟩ fun C hC => ?_
  (repeat (first | refine sp_ ?_ | exact ex0))
  refine call_s Tryz.call78 (in_number l e 2 hl (by omega)) [(1000, 0)] ?_
  (repeat (first | refine sp_ ?_ | exact ex0))
  (refine ret_s [] ?_; simp (decide := true) (disch := omega) only [go_sem, ↓reduceIte, ↓put_at])
set_option maxRecDepth 100000 in
set_option maxHeartbeats 8000000 in
theorem in_u32 (l : List UInt8) (e : Int) (hl : l.length ≤ maxLen) : Spec Tryz.prog 50 [.ptr 0 0] [inO l e] (.ca (.val (vu (getN (rawT l 4))))) [inO (rawL l e 4) (rawE l e 4)] := by
  have hlt : (getN (rawT l 4) : Int) < 4294967296 := raw_lt l 4 4294967296 (by decide)
  refine spec_of Tryz.func50 rfl Tryz.ntmps50 Tryz.results50 ⟨by decide, by simp⟩ fun C hC => ?_
  (repeat (first | refine sp_ ?_ | exact ex0))
  refine call_s Tryz.call78 (in_number l e 4 hl (by omega)) [(1000, 0)] ?_
  (repeat (first | refine sp_ ?_ | exact ex0))
  (refine ret_s [] ?_; simp (decide := true) (disch := omega) only [go_sem, ↓reduceIte, ↓put_at])

/-! ### Out -/
theorem putZ_snoc (n : Int) (p : List UInt8) (a k : Nat) (h : p ++ putZ n (a + 1) = putZ n k) : (p ++ [UInt8.ofNat ((n / 256 ^ a) % 256).toNat]) ++ putZ n a = putZ n k := by
  rw [← h, List.append_assoc]; rfl
set_option maxRecDepth 100000 in
set_option maxHeartbeats 8000000 in
theorem out_put (l : List UInt8) (n : Int) (k : Nat) (hl : l.length + 4 ≤ 140737488355328) (hn : 0 ≤ n ∧ n < 4294967296) (hk : k ≤ 4) : Spec Tryz.prog 68 [.ptr 0 0, .ca (.val (vu n)), .ca (.val (vi k))] [outO l] (.ca (.val (.tup []))) [outO (l ++ putZ n k)] := by
  refine spec_of Tryz.func68 rfl Tryz.ntmps68 Tryz.results68 ⟨by decide, by simp⟩ fun C hC => ?_
  (repeat (first | refine sp_ ?_ | exact ex0))
  refine loop_s (α := {q : Nat × List UInt8 // q.1 ≤ k ∧ q.2 ++ putZ n q.1 = putZ n k}) (fun q => [(.s 0, .av (.ptr (1000, 0) 0 0)), (.s 1, .av (.val (vu n))), (.s 6, .av (.val (vi ((q.1.1 : Int) - 1)))), (.o (1000, 0), .num 1), (.c (1000, 0) 0, .av (.own (1000, 1) 0 5 1 ((l ++ q.1.2).map byteEl))), (.k (1000, 1), .row 5 1 ((l ++ q.1.2).map byteEl).length)]) (fun q => q.1.1) ⟨(k, []), Nat.le_refl _, rfl⟩ ?_ (fun q => ?_)
  · simp (decide := true) (disch := omega) only [go_sem, ↓reduceIte, ↓put_at]
    trace_state
  · obtain ⟨⟨a, p⟩, ha, hp⟩ := q
    dsimp only at ha hp ⊢
    have hpl : p.length + a = k := by
      have := congrArg List.length hp
      rw [List.length_append, putZ_length, putZ_length] at this
      exact this
    have h5 : a = 0 ∨ a = 1 ∨ a = 2 ∨ a = 3 ∨ a = 4 := by omega
    rcases h5 with rfl | rfl | rfl | rfl | rfl
    · have e : p = putZ n k := by simpa [putZ] using hp
      (repeat (first | refine sp_ ?_ | exact ex0))
      (refine ret_s [] ?_; simp (decide := true) (disch := omega) only [go_sem, ↓reduceIte, ↓put_at])
      rw [e]
    · (repeat (first | refine sp_ ?_ | exact ex0))
      refine next_s ⟨(0, p ++ [_]), by dsimp only; omega, putZ_snoc n p 0 k hp⟩ ⟨?_, by dsimp only; omega⟩
      simp (decide := true) (disch := omega) only [go_sem, ↓reduceIte, ↓put_at]
      rw [byte_of]
      simp [Nat.add_assoc]
    · (repeat (first | refine sp_ ?_ | exact ex0))
      refine next_s ⟨(1, p ++ [_]), by dsimp only; omega, putZ_snoc n p 1 k hp⟩ ⟨?_, by dsimp only; omega⟩
      simp (decide := true) (disch := omega) only [go_sem, ↓reduceIte, ↓put_at]
      rw [byte_of]
      simp [Nat.add_assoc]
    · (repeat (first | refine sp_ ?_ | exact ex0))
      refine next_s ⟨(2, p ++ [_]), by dsimp only; omega, putZ_snoc n p 2 k hp⟩ ⟨?_, by dsimp only; omega⟩
      simp (decide := true) (disch := omega) only [go_sem, ↓reduceIte, ↓put_at]
      rw [byte_of]
      simp [Nat.add_assoc]
    · (repeat (first | refine sp_ ?_ | exact ex0))
      refine next_s ⟨(3, p ++ [_]), by dsimp only; omega, putZ_snoc n p 3 k hp⟩ ⟨?_, by dsimp only; omega⟩
      simp (decide := true) (disch := omega) only [go_sem, ↓reduceIte, ↓put_at]
      have e := byte_of (n / 16777216)
      rw [wrap_u8 (by omega) (by omega)] at e
      rw [e]
      simp [Nat.add_assoc]
/-- Whole numbers as elements. -/
def intEl (n : Int) : List V := [.sc (.int .i64 n)]
def u32El (n : Int) : List V := [.sc (.int .u32 n)]
def puts' (k : Nat) (ns : List Int) : List UInt8 := ns.flatMap (putZ · k)
attribute [go_sem] intEl u32El
theorem putZ_mod' (n : Int) (k : Nat) (hk : k ≤ 4) : putZ (n % 4294967296) k = putZ n k := putZ_mod n k 4 hk
theorem puts'_length (k : Nat) (ns : List Int) : (puts' k ns).length = k * ns.length := by
  unfold puts'
  induction ns with
  | nil => simp
  | cons n ns ih => simp [putZ_length, ih, Nat.mul_add]; omega
theorem puts'_snoc (k : Nat) (ns : List Int) (n : Int) : puts' k (ns ++ [n]) = puts' k ns ++ putZ n k := by simp [puts']
set_option maxRecDepth 100000 in
set_option maxHeartbeats 8000000 in
theorem out_each (l : List UInt8) (k : Nat) (ns : List Int) (hl : l.length + 4 * ns.length ≤ 140737488355328) (hk : k ≤ 4) : Spec Tryz.prog 36 [.ptr 0 0, .ca (.val (vi k)), .ca (.val (.lst 1 (ns.map intEl)))] [outO l] (.ptr 0 0) [outO (l ++ puts' k ns)] := by
  refine spec_of Tryz.func36 rfl Tryz.ntmps36 Tryz.results36 ⟨by decide, by simp⟩ fun C hC => ?_
  (repeat (first | refine sp_ ?_ | exact ex0))
  have hpl := fun j => puts'_length k (ns.take j)
  refine loop_s (α := {j : Nat // j ≤ ns.length}) (fun j => [(.s 0, .av (.ptr (1000, 0) 0 0)), (.s 1, .av (.val (vi k))), (.s 9, .av (.val (.lst 1 (ns.map intEl)))), (.s 10, .av (.val (vi ns.length))), (.s 11, .av (.val (vi j.1))), (.o (1000, 0), .num 1), (.c (1000, 0) 0, .av (.own (1000, 1) 0 5 1 ((l ++ puts' k (ns.take j.1)).map byteEl))), (.k (1000, 1), .row 5 1 ((l ++ puts' k (ns.take j.1)).map byteEl).length)]) (fun j => ns.length - j.1) ⟨0, Nat.zero_le _⟩ ?_ (fun j => ?_)
  · simp only [List.take_zero, puts', List.flatMap_nil, List.append_nil]
    simp (decide := true) (disch := omega) only [go_sem, ↓reduceIte, ↓put_at]
  · obtain ⟨j, hj⟩ := j
    dsimp only at hj ⊢
    have hpj := hpl j
    rw [List.length_take, Nat.min_eq_left hj] at hpj
    by_cases hlt : j < ns.length
    · have hkj : k * j ≤ 4 * j := Nat.mul_le_mul_right _ hk
      have hs : ns.take (j + 1) = ns.take j ++ [ns[j]] := List.take_succ_eq_append_getElem hlt
      (repeat (first | refine sp_ ?_ | exact ex0))
      refine call_s Tryz.call68 (out_put (l ++ puts' k (ns.take j)) (ns[j] % 4294967296) k (by rw [List.length_append]; omega) (by omega) hk) [(1000, 0)] ?_
      (repeat (first | refine sp_ ?_ | exact ex0))
      refine ⟨IntKind.wrap_u32 _, ?_⟩
      rw [putZ_mod' _ k hk]
      (repeat (first | refine sp_ ?_ | exact ex0))
      refine next_s ⟨j + 1, hlt⟩ ⟨?_, by dsimp only; omega⟩
      rw [hs, puts'_snoc]
      simp (decide := true) (disch := omega) only [go_sem, ↓reduceIte, ↓put_at]
      simp [Nat.add_assoc]
    · (repeat (first | refine sp_ ?_ | exact ex0))
      (refine ret_s [] ?_; simp (decide := true) (disch := omega) only [go_sem, ↓reduceIte, ↓put_at])
      rw [List.take_of_length_le (by omega)]
set_option maxRecDepth 100000 in
set_option maxHeartbeats 8000000 in
theorem out_u32 (l : List UInt8) (ns : List Int) (hl : l.length + 4 * ns.length ≤ 140737488355328) (hn : ∀ n ∈ ns, 0 ≤ n ∧ n < 4294967296) : Spec Tryz.prog 45 [.ptr 0 0, .ca (.val (.lst 1 (ns.map u32El)))] [outO l] (.ptr 0 0) [outO (l ++ puts' 4 ns)] := by
  refine spec_of Tryz.func45 rfl Tryz.ntmps45 Tryz.results45 ⟨by decide, by simp⟩ fun C hC => ?_
  (repeat (first | refine sp_ ?_ | exact ex0))
  have hpl := fun j => puts'_length 4 (ns.take j)
  refine loop_s (α := {j : Nat // j ≤ ns.length}) (fun j => [(.s 0, .av (.ptr (1000, 0) 0 0)), (.s 7, .av (.val (.lst 1 (ns.map u32El)))), (.s 8, .av (.val (vi ns.length))), (.s 9, .av (.val (vi j.1))), (.o (1000, 0), .num 1), (.c (1000, 0) 0, .av (.own (1000, 1) 0 5 1 ((l ++ puts' 4 (ns.take j.1)).map byteEl))), (.k (1000, 1), .row 5 1 ((l ++ puts' 4 (ns.take j.1)).map byteEl).length)]) (fun j => ns.length - j.1) ⟨0, Nat.zero_le _⟩ ?_ (fun j => ?_)
  · simp only [List.take_zero, puts', List.flatMap_nil, List.append_nil]
    simp (decide := true) (disch := omega) only [go_sem, ↓reduceIte, ↓put_at]
  · obtain ⟨j, hj⟩ := j
    dsimp only at hj ⊢
    have hpj := hpl j
    rw [List.length_take, Nat.min_eq_left hj] at hpj
    by_cases hlt : j < ns.length
    · have hs : ns.take (j + 1) = ns.take j ++ [ns[j]] := List.take_succ_eq_append_getElem hlt
      (repeat (first | refine sp_ ?_ | exact ex0))
      refine call_s Tryz.call68 (out_put (l ++ puts' 4 (ns.take j)) ns[j] 4 (by rw [List.length_append]; omega) (hn _ (List.getElem_mem hlt)) (by decide)) [(1000, 0)] ?_
      (repeat (first | refine sp_ ?_ | exact ex0))
      refine next_s ⟨j + 1, hlt⟩ ⟨?_, by dsimp only; omega⟩
      rw [hs, puts'_snoc]
      simp (decide := true) (disch := omega) only [go_sem, ↓reduceIte, ↓put_at]
      simp [Nat.add_assoc]
    · (repeat (first | refine sp_ ?_ | exact ex0))
      (refine ret_s [] ?_; simp (decide := true) (disch := omega) only [go_sem, ↓reduceIte, ↓put_at])
      rw [List.take_of_length_le (by omega)]
/-- Texts as elements. -/
def strEl (s : List UInt8) : List V := [.sc (str s)]
attribute [go_sem] strEl
theorem flat_take (ss : List (List UInt8)) (j : Nat) : (ss.take j).flatten.length ≤ ss.flatten.length := by
  have h := congrArg (fun l : List (List UInt8) => l.flatten.length) (List.take_append_drop j ss)
  simp only [List.flatten_append, List.length_append] at h
  omega
set_option maxRecDepth 100000 in
set_option maxHeartbeats 8000000 in
theorem out_raw (l : List UInt8) (ss : List (List UInt8)) (hl : l.length + ss.flatten.length ≤ 140737488355328) (hn : ss.length ≤ 140737488355328) : Spec Tryz.prog 46 [.ptr 0 0, .ca (.val (.lst 1 (ss.map strEl)))] [outO l] (.ptr 0 0) [outO (l ++ ss.flatten)] := by
  refine spec_of Tryz.func46 rfl Tryz.ntmps46 Tryz.results46 ⟨by decide, by simp⟩ fun C hC => ?_
  (repeat (first | refine sp_ ?_ | exact ex0))
  refine loop_s (α := {j : Nat // j ≤ ss.length}) (fun j => [(.s 0, .av (.ptr (1000, 0) 0 0)), (.s 7, .av (.val (.lst 1 (ss.map strEl)))), (.s 8, .av (.val (vi ss.length))), (.s 9, .av (.val (vi j.1))), (.o (1000, 0), .num 1), (.c (1000, 0) 0, .av (.own (1000, 1) 0 5 1 ((l ++ (ss.take j.1).flatten).map byteEl))), (.k (1000, 1), .row 5 1 ((l ++ (ss.take j.1).flatten).map byteEl).length)]) (fun j => ss.length - j.1) ⟨0, Nat.zero_le _⟩ ?_ (fun j => ?_)
  · simp only [List.take_zero, List.flatten_nil, List.append_nil]
    simp (decide := true) (disch := omega) only [go_sem, ↓reduceIte, ↓put_at]
  · obtain ⟨j, hj⟩ := j
    dsimp only at hj ⊢
    by_cases hlt : j < ss.length
    · have hs : ss.take (j + 1) = ss.take j ++ [ss[j]] := List.take_succ_eq_append_getElem hlt
      have hf := flat_take ss (j + 1)
      rw [hs, List.flatten_append, List.length_append, List.flatten_singleton] at hf
      (repeat (first | refine sp_ ?_ | exact ex0))
      refine next_s ⟨j + 1, hlt⟩ ⟨?_, by dsimp only; omega⟩
      rw [hs, List.flatten_append, List.flatten_singleton]
      simp (decide := true) (disch := omega) only [go_sem, ↓reduceIte, ↓put_at]
      simp [Nat.add_assoc]
    · (repeat (first | refine sp_ ?_ | exact ex0))
      (refine ret_s [] ?_; simp (decide := true) (disch := omega) only [go_sem, ↓reduceIte, ↓put_at])
      rw [List.take_of_length_le (by omega)]
set_option maxRecDepth 100000 in
set_option maxHeartbeats 8000000 in
theorem out_bytes (l : List UInt8) (hl : l.length ≤ 140737488355328) : Spec Tryz.prog 18 [.ptr 0 0] [outO l] (.ca (.val (vs l))) [outO l] := by
  refine spec_of Tryz.func18 rfl Tryz.ntmps18 Tryz.results18 ⟨by decide, by simp⟩ fun C hC => ?_
  (repeat (first | refine sp_ ?_ | exact ex0))
  refine convBS_s l (by simp (decide := true) (disch := omega) only [go_sem, ↓reduceIte, ↓put_at]) (by simp (decide := true) (disch := omega) only [go_sem, ↓reduceIte, ↓put_at]) (by simp (decide := true) (disch := omega) only [go_sem, ↓reduceIte, ↓put_at]) ?_
  (repeat (first | refine sp_ ?_ | exact ex0))
  (refine ret_s [] ?_; simp (decide := true) (disch := omega) only [go_sem, ↓reduceIte, ↓put_at])
  trace_state
set_option maxRecDepth 100000 in
set_option maxHeartbeats 8000000 in
theorem out_u8 (l : List UInt8) (ns : List Int) (hl : l.length + 4 * ns.length ≤ 140737488355328) : Spec Tryz.prog 14 [.ptr 0 0, .ca (.val (.lst 1 (ns.map intEl)))] [outO l] (.ptr 0 0) [outO (l ++ puts' 1 ns)] := by
  refine spec_of Tryz.func14 rfl Tryz.ntmps14 Tryz.results14 ⟨by decide, by simp⟩ fun C hC => ?_
  (repeat (first | refine sp_ ?_ | exact ex0))
  refine call_s Tryz.call36 (out_each l 1 ns hl (by decide)) [(1000, 0)] ?_
  (repeat (first | refine sp_ ?_ | exact ex0))
  (refine ret_s [] ?_; simp (decide := true) (disch := omega) only [go_sem, ↓reduceIte, ↓put_at])
set_option maxRecDepth 100000 in
set_option maxHeartbeats 8000000 in
theorem out_u16 (l : List UInt8) (ns : List Int) (hl : l.length + 4 * ns.length ≤ 140737488355328) : Spec Tryz.prog 15 [.ptr 0 0, .ca (.val (.lst 1 (ns.map intEl)))] [outO l] (.ptr 0 0) [outO (l ++ puts' 2 ns)] := by
  refine spec_of Tryz.func15 rfl Tryz.ntmps15 Tryz.results15 ⟨by decide, by simp⟩ fun C hC => ?_
  (repeat (first | refine sp_ ?_ | exact ex0))
  refine call_s Tryz.call36 (out_each l 2 ns hl (by decide)) [(1000, 0)] ?_
  (repeat (first | refine sp_ ?_ | exact ex0))
  (refine ret_s [] ?_; simp (decide := true) (disch := omega) only [go_sem, ↓reduceIte, ↓put_at])
end Go.Proofs.YtkclmofjlmeolaaGreatDoor

namespace Go.Proofs.YtkclmofjlmeolaaGreatDoor
open Go.RowKit
set_option linter.unusedVariables false
set_option linter.unusedSimpArgs false

/-- What an In is after so many bytes, and the number they are. -/
def nx (k : Nat) (x : List UInt8 × Int) : List UInt8 × Int := (rawL x.1 x.2 k, rawE x.1 x.2 k)
def vl (k : Nat) (x : List UInt8 × Int) : Int := getN (rawT x.1 k)
theorem vl_lt (k m : Nat) (x : List UInt8 × Int) (h : 256 ^ k = m) : 0 ≤ vl k x ∧ vl k x < m := ⟨by unfold vl; omega, raw_lt x.1 k m h⟩
theorem rd8 (x : List UInt8 × Int) (h : x.1.length ≤ maxLen) : Spec Tryz.prog 48 [.ptr 0 0] [inO x.1 x.2] (.ca (.val (vi (vl 1 x)))) [inO (nx 1 x).1 (nx 1 x).2] := in_u8 x.1 x.2 h
theorem rd32 (x : List UInt8 × Int) (h : x.1.length ≤ maxLen) : Spec Tryz.prog 50 [.ptr 0 0] [inO x.1 x.2] (.ca (.val (vu (vl 4 x)))) [inO (nx 4 x).1 (nx 4 x).2] := in_u32 x.1 x.2 h
/-- What an In is when so many bytes have been asked of it. -/
def goX (T : Nat) (l : List UInt8) : List UInt8 × Int := if T ≤ l.length then (l.drop T, 0) else ([], 2)
theorem goX_zero (l : List UInt8) : (l, (0 : Int)) = goX 0 l := by simp [goX]
theorem goX_nx (k T : Nat) (l : List UInt8) (hk : 0 < k) : nx k (goX T l) = goX (T + k) l := by
  unfold goX nx rawL rawE failL failE
  by_cases h : T ≤ l.length
  · rw [if_pos h]
    by_cases h2 : T + k ≤ l.length
    · have hh : (k : Int) ≤ ((l.drop T).length : Int) := by rw [List.length_drop]; omega
      dsimp only
      rw [if_pos hh, if_pos hh, if_pos h2]
      simp [List.drop_drop]
    · have hh : ¬ (k : Int) ≤ ((l.drop T).length : Int) := by rw [List.length_drop]; omega
      dsimp only
      rw [if_neg hh, if_neg hh, if_neg h2]
      rfl
  · have hh : ¬ (k : Int) ≤ (([] : List UInt8).length : Int) := by simp only [List.length_nil]; omega
    rw [if_neg h, if_neg (show ¬ T + k ≤ l.length by omega)]
    dsimp only
    rw [if_neg hh, if_neg hh]
    rfl
theorem goX_vl (k T : Nat) (l : List UInt8) (h : T + k ≤ l.length) : vl k (goX T l) = getN ((l.drop T).take k) := by
  have hh : (k : Int) ≤ ((l.drop T).length : Int) := by rw [List.length_drop]; omega
  unfold goX vl rawT
  rw [if_pos (show T ≤ l.length by omega)]
  dsimp only
  rw [if_pos hh]
  rfl
theorem putZ_take (s : List UInt8) (a k : Nat) (h : a + k ≤ s.length) : putZ (getN ((s.drop a).take k) : Int) k = (s.drop a).take k := by
  have hl : ((s.drop a).take k).length = k := by rw [List.length_take, List.length_drop]; omega
  have := putZ_getN ((s.drop a).take k)
  rwa [hl] at this
theorem bchunk (s : List UInt8) (a k : Nat) (m : Nat) (h : a + k = m) : (s.drop a).take k ++ s.drop m = s.drop a := by
  subst h
  rw [← List.drop_drop, List.take_append_drop]
theorem puts1 (k : Nat) (n : Int) : puts' k [n] = putZ n k := by simp [puts']
end Go.Proofs.YtkclmofjlmeolaaGreatDoor

