/- Numbers of 16 bits: each once; pairs of them; plain, and walked. -/
import Derived.Test.YtbnnfmleoebelaaGreatNack1z
import Derived.Test.YtbnnfmleoebelaaGreatROz
namespace Go.Proofs.YtbnnfmleoebelaaGreat
open Go.RowKit
set_option linter.unusedVariables false
set_option linter.unusedSimpArgs false

abbrev hEl (n : Int) : List V := [vh n]
/-- Each once. -/
def distT (acc : List Int) (n : Int) : List Int := if n ∈ acc then acc else acc ++ [n]
def distL (l : List Int) : List Int := l.foldl distT []
theorem distL_take (l : List Int) (i : Nat) (h : i < l.length) : distL (l.take (i + 1)) = distT (distL (l.take i)) l[i] := by
  unfold distL
  rw [List.take_succ_eq_append_getElem h, List.foldl_append]
  rfl
theorem distT_mem {acc : List Int} {n x : Int} : x ∈ distT acc n ↔ x ∈ acc ∨ x = n := by
  unfold distT
  split
  · rename_i h
    constructor
    · exact .inl
    · rintro (h1 | rfl)
      · exact h1
      · exact h
  · simp
theorem distF_mem : ∀ (l acc : List Int) (x : Int), x ∈ l.foldl distT acc ↔ x ∈ acc ∨ x ∈ l
  | [], acc, x => by simp
  | n :: l, acc, x => by
    rw [List.foldl_cons, distF_mem l, distT_mem, List.mem_cons, or_assoc]
theorem distL_mem (l : List Int) (x : Int) : x ∈ distL l ↔ x ∈ l := by
  unfold distL
  rw [distF_mem]
  simp
theorem distF_nodup : ∀ (l acc : List Int), acc.Nodup → (l.foldl distT acc).Nodup
  | [], acc, h => h
  | n :: l, acc, h => by
    rw [List.foldl_cons]
    refine distF_nodup l _ ?_
    unfold distT
    split
    · exact h
    · rename_i hn
      exact List.nodup_append.2 ⟨h, by simp, fun a ha b hb => by simp at hb; subst hb; exact fun e => hn (e ▸ ha)⟩
theorem distL_nodup (l : List Int) : (distL l).Nodup := distF_nodup l [] List.nodup_nil
theorem distF_len : ∀ (l acc : List Int), (l.foldl distT acc).length ≤ acc.length + l.length
  | [], acc => by simp
  | n :: l, acc => by
    rw [List.foldl_cons]
    have := distF_len l (distT acc n)
    have h2 : (distT acc n).length ≤ acc.length + 1 := by unfold distT; split <;> simp
    simp only [List.length_cons]
    omega
theorem distL_len (l : List Int) : (distL l).length ≤ l.length := by have := distF_len l []; simpa [distL] using this
/-- Numbers that were met, as a map. -/
def seenH (x : T) (s : List Int) : List (Value × T) := s.map fun z => (.int .u16 z, x)
theorem u16_inj {a b : Int} : Value.int .u16 a = Value.int .u16 b ↔ a = b := by
  constructor
  · intro h; injection h
  · rintro rfl; rfl
theorem seenH_get (x : T) (s : List Int) (z : Int) : kvGet (seenH x s) (.int .u16 z) = if z ∈ s then some x else none := by
  induction s with
  | nil => rfl
  | cons y s ih =>
    show kvGet ((_, _) :: seenH x s) _ = _
    rw [kvGet_cons]
    by_cases h : y = z
    · subst h; simp
    · rw [if_neg (fun e => h (u16_inj.1 e)), ih]
      have : z ≠ y := fun e => h e.symm
      simp [this]
theorem seenH_set (x : T) (s : List Int) (z : Int) : kvSet (seenH x s) (.int .u16 z) x = seenH x (distT s z) := by
  unfold distT
  induction s with
  | nil => rfl
  | cons y s ih =>
    show kvSet ((_, _) :: seenH x s) _ _ = _
    rw [kvSet_cons]
    by_cases h : y = z
    · subst h; simp [seenH]
    · have h2 : z ≠ y := fun e => h e.symm
      rw [if_neg (fun e => h (u16_inj.1 e)), ih]
      by_cases hz : z ∈ s
      · simp [hz, seenH]
      · simp [hz, h2, seenH]
theorem seenH_keys (x : T) (s : List Int) : keysIs (.int .u16) ((seenH x s).map (·.1)) = True := eq_true (keysIs_of fun k hk => by
  obtain ⟨p, hp, rfl⟩ := List.mem_map.1 hk
  obtain ⟨z, _, rfl⟩ := List.mem_map.1 hp
  exact rfl)
attribute [go_sem] seenH_keys seenH_set
set_option maxRecDepth 100000 in
set_option maxHeartbeats 8000000 in
theorem ser_diff (a b : Int) (ha : 0 ≤ a ∧ a < 65536) (hb : 0 ≤ b ∧ b < 65536) : Spec Tryz.prog 38 [.ca (.val (vh a)), .ca (.val (vh b))] [] (.ca (.val (vi ((b - a + 32768) % 65536 - 32768)))) [] := by
  refine spec_of Tryz.func38 rfl Tryz.ntmps38 Tryz.results38 ⟨by decide, by simp⟩ fun C hC => ?_
  (repeat' ((first | refine sp_ ?_ | exact ex0 | (refine ret_s [] ?_; simp (decide := true) (disch := omega) only [go_sem, ↓reduceIte, ↓put_at]))))
  have h1 : IntKind.u16.wrap (b - a) = (b - a) % 65536 := by simp [IntKind.wrap, IntKind.bits, IntKind.signed]
  have h2 : ∀ n : Int, IntKind.i16.wrap n = (n + 32768) % 65536 - 32768 := fun n => by simp [IntKind.wrap, IntKind.bits, IntKind.signed]; omega
  rw [h1, h2, wrap_i64 (by omega) (by omega)]
  omega
set_option maxRecDepth 100000 in
set_option maxHeartbeats 8000000 in
theorem ser_dist (l : List Int) (hl : l.length ≤ 1000000) : Spec Tryz.prog 14 [.ca (.val (.lst 1 (l.map hEl)))] [] (.ca (.own 40 1 ((distL l).map hEl))) [] := by
  refine spec_of Tryz.func14 rfl Tryz.ntmps14 Tryz.results14 ⟨by decide, by simp⟩ fun C hC => ?_
  (repeat' ((fail_if_success (refine stop_reg 3 ?_)); (first | refine sp_ ?_ | exact ex0 | (refine ret_s [] ?_; simp (decide := true) (disch := omega) only [go_sem, ↓reduceIte, ↓put_at]))))
  refine own_s 4 (4, 9) 40 1 ?_
  simp (decide := true) (disch := omega) only [go_sem, ↓reduceIte, ↓put_at]
  (repeat' ((fail_if_success (refine stop_reg 4 ?_)); (first | refine sp_ ?_ | exact ex0 | (refine ret_s [] ?_; simp (decide := true) (disch := omega) only [go_sem, ↓reduceIte, ↓put_at]))))
  refine loop_s (α := {i : Nat // i ≤ l.length}) (fun i => [(.r (9, 1), .tree (.mp (seenH (.av (.agg [])) (distL (l.take i.1))))), (.s 3, .av (.ref (9, 1) 0)), (.k (4, 9), .row 40 1 (distL (l.take i.1)).length), (.s 4, .av (.own (4, 9) 0 40 1 ((distL (l.take i.1)).map hEl))), (.s 10, .av (.val (.lst 1 (l.map hEl)))), (.s 11, .av (.val (vi l.length))), (.s 12, .av (.val (vi i.1)))]) (fun i => l.length - i.1) ⟨0, Nat.zero_le _⟩ ?_ (fun i => ?_)
  · rw [List.take_zero, show distL [] = [] from rfl]
    simp (decide := true) (disch := omega) only [go_sem, ↓reduceIte, ↓put_at]
    first | exact rfl | (show _ = _; kernel_rfl)
  obtain ⟨i, hi⟩ := i
  dsimp only at hi ⊢
  by_cases hlt : i < l.length
  · have hge : (l.map hEl).getD i [] = [vh l[i]] := by simp [hlt]
    have hst := distL_take l i hlt
    have hlen := distL_len (l.take i)
    rw [List.length_take] at hlen
    generalize distL (l.take i) = D at *
    have hg := seenH_get (.av (.agg [])) D l[i]
    by_cases hm : l[i] ∈ D
    · rw [if_pos hm] at hg
      unfold distT at hst
      rw [if_pos hm] at hst
      (repeat' ((first | refine sp_ ?_ | exact ex0 | (refine ret_s [] ?_; simp (decide := true) (disch := omega) only [go_sem, ↓reduceIte, ↓put_at]))))
      simp only [hg]
      (repeat' ((first | refine sp_ ?_ | exact ex0 | (refine ret_s [] ?_; simp (decide := true) (disch := omega) only [go_sem, ↓reduceIte, ↓put_at]))))
      refine next_s (α := {i : Nat // i ≤ l.length}) ⟨i + 1, hlt⟩ ⟨?_, by (try dsimp only); omega⟩
      (try dsimp only)
      rw [hst]
      simp (decide := true) (disch := omega) only [go_sem, ↓reduceIte, ↓put_at]
    · rw [if_neg hm] at hg
      have hse := seenH_set (.av (.agg [])) D l[i]
      unfold distT at hst hse
      rw [if_neg hm] at hst hse
      (repeat' ((first | refine sp_ ?_ | exact ex0 | (refine ret_s [] ?_; simp (decide := true) (disch := omega) only [go_sem, ↓reduceIte, ↓put_at]))))
      simp only [hg]
      (repeat' ((first | refine sp_ ?_ | exact ex0 | (refine ret_s [] ?_; simp (decide := true) (disch := omega) only [go_sem, ↓reduceIte, ↓put_at]))))
      refine next_s (α := {i : Nat // i ≤ l.length}) ⟨i + 1, hlt⟩ ⟨?_, by (try dsimp only); omega⟩
      (try dsimp only)
      rw [hst]
      simp (decide := true) (disch := omega) only [go_sem, ↓reduceIte, ↓put_at]
      exact ⟨by unfold distT; rw [if_neg hm], by rw [List.map_append]; rfl⟩
  · obtain rfl : i = l.length := by omega
    rw [List.take_length]
    (repeat' ((first | refine sp_ ?_ | exact ex0 | (refine ret_s [] ?_; simp (decide := true) (disch := omega) only [go_sem, ↓reduceIte, ↓put_at]))))
/-- How far behind one number another one is. -/
def df16 (a b : Int) : Int := (b - a + 32768) % 65536 - 32768
def takes (p n : Int) : Bool := decide (1 ≤ df16 p n ∧ df16 p n ≤ 16)
theorem df16_lt (a b : Int) : -32768 ≤ df16 a b ∧ df16 a b < 32768 := by unfold df16; omega
/-- A bit more. -/
def orB (b : Int) (j : Nat) : Int := ((b.toNat ||| 2 ^ j : Nat) : Int)
theorem orB_in {b : Int} (hb : 0 ≤ b ∧ b < 65536) {j : Nat} (hj : j < 16) : 0 ≤ orB b j ∧ orB b j < 65536 := by
  unfold orB
  have h1 : b.toNat < 2 ^ 16 := by omega
  have h2 : 2 ^ j < 2 ^ 16 := Nat.pow_lt_pow_right (by decide) hj
  have := Nat.or_lt_two_pow h1 h2
  omega
theorem u16_or {b : Int} (hb : 0 ≤ b ∧ b < 65536) {j : Nat} (hj : j < 16) : bits .or .u16 b (IntKind.u16.wrap (1 * 2 ^ j)) = orB b j := by
  have h2 : 2 ^ j < 2 ^ 16 := Nat.pow_lt_pow_right (by decide) hj
  have e0 : (1 * 2 ^ j : Int) = ((2 ^ j : Nat) : Int) := by simp
  have e1 : IntKind.u16.wrap (1 * 2 ^ j) = ((2 ^ j : Nat) : Int) := by
    have h5 : ((2 ^ j : Nat) : Int) < 65536 := Int.ofNat_lt.2 h2
    rw [e0, wrap_u16 (Int.natCast_nonneg _) (by omega)]
  rw [e1]
  have e2 : (BitVec.ofInt 16 b).toNat = b.toNat := by
    rw [BitVec.toNat_ofInt]
    omega
  have e3 : (BitVec.ofInt 16 ((2 ^ j : Nat) : Int)).toNat = 2 ^ j := by
    rw [BitVec.toNat_ofInt, ← Int.natCast_emod, Int.toNat_natCast, Nat.mod_eq_of_lt h2]
  show IntKind.u16.wrap ((BitVec.ofInt 16 b ||| BitVec.ofInt 16 ((2 ^ j : Nat) : Int)).toNat : Int) = _
  rw [BitVec.toNat_or, e2, e3]
  have h3 := orB_in hb hj
  unfold orB at h3 ⊢
  exact wrap_u16 h3.1 (by omega)
def tookN (p b n : Int) : Int := if takes p n = true then orB b (df16 p n - 1).toNat else b
theorem tookN_in {p b n : Int} (hb : 0 ≤ b ∧ b < 65536) : 0 ≤ tookN p b n ∧ tookN p b n < 65536 := by
  unfold tookN
  split
  · rename_i h
    unfold takes at h
    rw [decide_eq_true_eq] at h
    exact orB_in hb (by omega)
  · exact hb
set_option maxRecDepth 100000 in
set_option maxHeartbeats 8000000 in
theorem pair_take (p b n : Int) (hp : 0 ≤ p ∧ p < 65536) (hb : 0 ≤ b ∧ b < 65536) (hn : 0 ≤ n ∧ n < 65536) : Spec Tryz.prog 18 [.ptr 0 0, .ca (.val (vh n))] [[.val (vh p), .val (vh b)]] (.ca (.val (vb (takes p n)))) [[.val (vh p), .val (vh (tookN p b n))]] := by
  have c := ser_diff p n hp hn
  rw [show (n - p + 32768) % 65536 - 32768 = df16 p n from rfl] at c
  have hd := df16_lt p n
  unfold tookN takes
  generalize df16 p n = d at *
  by_cases h1 : d < 1
  · rw [show decide (1 ≤ d ∧ d ≤ 16) = false by simp; omega, if_neg (by decide)]
    refine spec_of Tryz.func18 rfl Tryz.ntmps18 Tryz.results18 ⟨by decide, by simp⟩ fun C hC => ?_
    (repeat' ((first | refine sp_ ?_ | exact ex0 | refine call_u Tryz.call38 (c) [] ex1 ?_ | (refine ret_s [] ?_; simp (decide := true) (disch := omega) only [go_sem, ↓reduceIte, ↓put_at]))))
  · by_cases h2 : d > 16
    · rw [show decide (1 ≤ d ∧ d ≤ 16) = false by simp; omega, if_neg (by decide)]
      refine spec_of Tryz.func18 rfl Tryz.ntmps18 Tryz.results18 ⟨by decide, by simp⟩ fun C hC => ?_
      (repeat' ((first | refine sp_ ?_ | exact ex0 | refine call_u Tryz.call38 (c) [] ex1 ?_ | (refine ret_s [] ?_; simp (decide := true) (disch := omega) only [go_sem, ↓reduceIte, ↓put_at]))))
    · rw [show decide (1 ≤ d ∧ d ≤ 16) = true by simp; omega, if_pos rfl]
      refine spec_of Tryz.func18 rfl Tryz.ntmps18 Tryz.results18 ⟨by decide, by simp⟩ fun C hC => ?_
      (repeat' ((first | refine sp_ ?_ | exact ex0 | refine call_u Tryz.call38 (c) [] ex1 ?_ | (refine ret_s [] ?_; simp (decide := true) (disch := omega) only [go_sem, ↓reduceIte, ↓put_at]))))
      exact u16_or hb (by omega)
def blpF (p : Int) (l : List Int) : Int := l.foldl (tookN p) 0
def leftF (p : Int) (l : List Int) : List Int := l.filter fun n => !takes p n
theorem leftF_len (p : Int) (l : List Int) : (leftF p l).length ≤ l.length := List.length_filter_le ..
/-- Pairs of numbers. -/
def pairsW : List Int → List P10
  | [] => []
  | n :: l => ⟨n, blpF n l⟩ :: pairsW (leftF n l)
termination_by l => l.length
decreasing_by
  have := leftF_len n l
  simp only [List.length_cons]
  omega
theorem pairsW_len : ∀ (k : Nat) (l : List Int), l.length ≤ k → (pairsW l).length ≤ l.length
  | _, [], _ => by simp [pairsW]
  | 0, n :: l, h => by simp at h
  | k + 1, n :: l, h => by
    rw [pairsW]
    have h1 := leftF_len n l
    have := pairsW_len k (leftF n l) (by simp at h; omega)
    simp only [List.length_cons]
    omega
theorem blpF_in (p : Int) (l : List Int) : 0 ≤ blpF p l ∧ blpF p l < 65536 := by
  unfold blpF
  have : ∀ (l : List Int) (b : Int), 0 ≤ b ∧ b < 65536 → 0 ≤ l.foldl (tookN p) b ∧ l.foldl (tookN p) b < 65536 := by
    intro l
    induction l with
    | nil => intro b h; exact h
    | cons n l ih => intro b h; exact ih _ (tookN_in h)
  exact this l 0 (by decide)
theorem blpF_take (p : Int) (l : List Int) (i : Nat) (h : i < l.length) : blpF p (l.take (i + 1)) = tookN p (blpF p (l.take i)) l[i] := by
  unfold blpF
  rw [List.take_succ_eq_append_getElem h, List.foldl_append]
  rfl
theorem leftF_take (p : Int) (l : List Int) (i : Nat) (h : i < l.length) : leftF p (l.take (i + 1)) = leftF p (l.take i) ++ (if takes p l[i] = true then [] else [l[i]]) := by
  unfold leftF
  rw [List.take_succ_eq_append_getElem h, List.filter_append]
  cases ht : takes p l[i] <;> simp [ht]
set_option maxRecDepth 100000 in
set_option maxHeartbeats 8000000 in
theorem nack_pairs (l : List Int) (hl : l.length ≤ 1000) (hu : ∀ n ∈ l, 0 ≤ n ∧ n < 65536) : Spec Tryz.prog 5 [.ca (.val (.lst 1 (l.map hEl)))] [] (.ca (.own 76 2 ((pairsW (distL l)).map p10El))) [] := by
  have c := ser_dist l (by omega)
  have hlen := distL_len l
  have hu2 : ∀ n ∈ distL l, 0 ≤ n ∧ n < 65536 := fun n hn => hu n ((distL_mem l n).1 hn)
  generalize distL l = D at *
  obtain ⟨R, hR⟩ : ∃ R, R = pairsW D := ⟨_, rfl⟩
  rw [← hR]
  refine spec_of Tryz.func5 rfl Tryz.ntmps5 Tryz.results5 ⟨by decide, by simp⟩ fun C hC => ?_
  (repeat' ((fail_if_success (first | refine stop_at 3 ?_ | refine stop_l 3 ?_)); (first | refine sp_ ?_ | exact ex0 | refine call_u Tryz.call14 (c) [] ex1 ?_ | (refine ret_s [] ?_; simp (decide := true) (disch := omega) only [go_sem, ↓reduceIte, ↓put_at]))))
  refine own_s 3 (3, 9) 76 2 ?_
  simp (decide := true) (disch := omega) only [go_sem, ↓reduceIte, ↓put_at]
  (repeat' ((fail_if_success (refine stop_reg 3 ?_)); (first | refine sp_ ?_ | exact ex0 | (refine ret_s [] ?_; simp (decide := true) (disch := omega) only [go_sem, ↓reduceIte, ↓put_at]))))
  refine loop_s (α := {x : List P10 × List Int // x.1 ++ pairsW x.2 = R ∧ x.1.length + x.2.length ≤ 1000 ∧ ∀ n ∈ x.2, 0 ≤ n ∧ n < 65536}) (fun x => [(.s 0, .av (.val (.lst 1 (x.1.2.map hEl)))), (.k (3, 9), .row 76 2 x.1.1.length), (.s 3, .av (.own (3, 9) 0 76 2 (x.1.1.map p10El)))]) (fun x => x.1.2.length) ⟨([], D), by rw [hR]; rfl, by simp; omega, hu2⟩ ?_ (fun x => ?_)
  · simp (decide := true) (disch := omega) only [go_sem, ↓reduceIte, ↓put_at]
  obtain ⟨⟨ps, m⟩, h1, h2, h3⟩ := x
  dsimp only at h1 h2 h3 ⊢
  cases m with
  | nil =>
    rw [pairsW, List.append_nil] at h1
    subst h1
    (repeat' ((first | refine sp_ ?_ | exact ex0 | (refine ret_s [] ?_; simp (decide := true) (disch := omega) only [go_sem, ↓reduceIte, ↓put_at]))))
  | cons n m =>
    rw [pairsW] at h1
    have hn := h3 n (by simp)
    have hml : m.length ≤ 1000 := by simp at h2; omega
    simp only [List.map_cons]
    (repeat' ((fail_if_success (first | refine stop_at 6 ?_ | refine stop_l 6 ?_)); (first | refine sp_ ?_ | exact ex0 | (refine ret_s [] ?_; simp (decide := true) (disch := omega) only [go_sem, ↓reduceIte, ↓put_at]))))
    refine own_s 5 (5, 9) 40 1 ?_
    simp (decide := true) (disch := omega) only [go_sem, ↓reduceIte, ↓put_at]
    (repeat' ((fail_if_success (refine stop_reg 7 ?_)); (first | refine sp_ ?_ | exact ex0 | (refine ret_s [] ?_; simp (decide := true) (disch := omega) only [go_sem, ↓reduceIte, ↓put_at]))))
    have ht : List.take (((m.length : Int) + 1).toNat - 1) (m.map hEl) = m.map hEl := List.take_of_length_le (by rw [List.length_map]; omega)
    simp only [ht, List.length_map]
    refine loop_s (α := {i : Nat // i ≤ m.length}) (fun i => [(.k (3, 9), .row 76 2 ps.length), (.s 3, .av (.own (3, 9) 0 76 2 (ps.map p10El))), (.o (4, 0), .num 2), (.c (4, 0) 0, .av (.val (vh n))), (.c (4, 0) 1, .av (.val (vh (blpF n (m.take i.1))))), (.s 4, .av (.ptr (4, 0) 0 0)), (.k (5, 9), .row 40 1 (leftF n (m.take i.1)).length), (.s 5, .av (.own (5, 9) 0 40 1 ((leftF n (m.take i.1)).map hEl))), (.s 18, .av (.val (.lst 1 (m.map hEl)))), (.s 19, .av (.val (vi m.length))), (.s 20, .av (.val (vi i.1)))]) (fun i => m.length - i.1) ⟨0, Nat.zero_le _⟩ ?_ (fun i => ?_)
    · rw [List.take_zero, show blpF n [] = 0 from rfl, show leftF n [] = [] from rfl]
      simp (decide := true) (disch := omega) only [go_sem, ↓reduceIte, ↓put_at]
    obtain ⟨i, hi⟩ := i
    dsimp only at hi ⊢
    by_cases hlt : i < m.length
    · have hge : (m.map hEl).getD i [] = [vh m[i]] := by simp [hlt]
      have hx := h3 m[i] (List.mem_cons_of_mem _ (List.getElem_mem hlt))
      have hb := blpF_in n (m.take i)
      have c2 := pair_take n (blpF n (m.take i)) m[i] hn hb hx
      have e1 := blpF_take n m i hlt
      have e2 := leftF_take n m i hlt
      have hll := leftF_len n (m.take i)
      rw [List.length_take] at hll
      rw [← e1] at c2
      generalize hb2 : blpF n (m.take (i + 1)) = b2 at *
      generalize blpF n (m.take i) = b1 at *
      generalize leftF n (m.take i) = L1 at *
      cases htk : takes n m[i] with
      | true =>
        rw [htk] at c2 e2
        rw [if_pos rfl, List.append_nil] at e2
        (repeat' ((first | refine sp_ ?_ | exact ex0 | refine call_u Tryz.call18 (c2) [(4, 0)] ex1 ?_ | (refine ret_s [] ?_; simp (decide := true) (disch := omega) only [go_sem, ↓reduceIte, ↓put_at]))))
        refine next_s (α := {i : Nat // i ≤ m.length}) ⟨i + 1, hlt⟩ ⟨?_, by (try dsimp only); omega⟩
        (try dsimp only)
        rw [e2]
        simp (decide := true) (disch := omega) only [go_sem, ↓reduceIte, ↓put_at]
        exact hb2.symm
      | false =>
        rw [htk] at c2 e2
        rw [if_neg (by decide)] at e2
        (repeat' ((first | refine sp_ ?_ | exact ex0 | refine call_u Tryz.call18 (c2) [(4, 0)] ex1 ?_ | (refine ret_s [] ?_; simp (decide := true) (disch := omega) only [go_sem, ↓reduceIte, ↓put_at]))))
        refine next_s (α := {i : Nat // i ≤ m.length}) ⟨i + 1, hlt⟩ ⟨?_, by (try dsimp only); omega⟩
        (try dsimp only)
        rw [e2]
        simp (decide := true) (disch := omega) only [go_sem, ↓reduceIte, ↓put_at]
        exact ⟨hb2.symm, by rw [List.map_append]; rfl⟩
    · obtain rfl : i = m.length := by omega
      rw [List.take_length]
      (repeat' ((first | refine sp_ ?_ | exact ex0 | (refine ret_s [] ?_; simp (decide := true) (disch := omega) only [go_sem, ↓reduceIte, ↓put_at]))))
      have hll := leftF_len n m
      refine next_s (α := {x : List P10 × List Int // x.1 ++ pairsW x.2 = R ∧ x.1.length + x.2.length ≤ 1000 ∧ ∀ n ∈ x.2, 0 ≤ n ∧ n < 65536}) ⟨(ps ++ [⟨n, blpF n m⟩], leftF n m), by dsimp only; rw [List.append_assoc]; exact h1, by dsimp only; simp at h2 ⊢; omega, fun x hx => h3 x (List.mem_cons_of_mem _ (List.mem_filter.1 hx).1)⟩ ⟨?_, by (try dsimp only); simp only [List.length_cons]; omega⟩
      (try dsimp only)
      simp (decide := true) (disch := omega) only [go_sem, ↓reduceIte, ↓put_at]
      rw [List.map_append]
      rfl
set_option maxRecDepth 100000 in
set_option maxHeartbeats 8000000 in
theorem nack_ask (f a : Int) (l : List Int) (hl : l.length ≤ 1000) (hu : ∀ n ∈ l, 0 ≤ n ∧ n < 65536) : Spec Tryz.prog 7 [.ca (.val (vu f)), .ca (.val (vu a)), .ca (.val (.lst 1 (l.map hEl)))] [] (.ca (.val (.agg (n10L ⟨f, a, pairsW (distL l)⟩)))) [] := by
  have c := nack_pairs l hl hu
  refine spec_of Tryz.func7 rfl Tryz.ntmps7 Tryz.results7 ⟨by decide, by simp⟩ fun C hC => ?_
  (repeat' ((first | refine sp_ ?_ | exact ex0 | refine call_u Tryz.call5 (c) [] ex1 ?_ | (refine ret_s [] ?_; simp (decide := true) (disch := omega) only [go_sem, ↓reduceIte, ↓put_at]))))
end Go.Proofs.YtbnnfmleoebelaaGreat

