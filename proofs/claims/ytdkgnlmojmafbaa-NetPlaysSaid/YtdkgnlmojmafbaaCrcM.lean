
/- Remainders of bits, bursts, sums laid in a text: plain mathematics. -/
import Derived.Below
import Derived.WalkKit
namespace Go.Proofs.Ytdkgnlmojmafbaa
set_option linter.unusedVariables false
set_option linter.unusedSimpArgs false

def poly : Nat := 79764919
def up (r : Nat) : Nat := ((r <<< 1) % 2 ^ 32) ^^^ (if r.testBit 31 = true then poly else 0)
def stepC (r : Nat) (b : Bool) : Nat := up r ^^^ b.toNat
def remB (l : List Bool) : Nat := l.foldl stepC 0
theorem xor_lc (a b c : Nat) : a ^^^ (b ^^^ c) = b ^^^ (a ^^^ c) := by rw [← Nat.xor_assoc, Nat.xor_comm a b, Nat.xor_assoc]
theorem xor_cancel (a b : Nat) : a ^^^ (b ^^^ a) = b := by rw [Nat.xor_comm b a, ← Nat.xor_assoc, Nat.xor_self, Nat.zero_xor]
theorem xor_cancel' (a b : Nat) : a ^^^ (a ^^^ b) = b := by rw [← Nat.xor_assoc, Nat.xor_self, Nat.zero_xor]
theorem up_zero : up 0 = 0 := by decide
theorem up_xor (a b : Nat) : up (a ^^^ b) = up a ^^^ up b := by
  unfold up
  rw [Nat.shiftLeft_xor_distrib, Nat.xor_mod_two_pow, Nat.testBit_xor]
  generalize (a <<< 1) % 2 ^ 32 = A
  generalize (b <<< 1) % 2 ^ 32 = B
  cases a.testBit 31 <;> cases b.testBit 31 <;> simp [Nat.xor_assoc, xor_lc, Nat.xor_comm, xor_cancel, xor_cancel']
theorem stepC_xor (r s : Nat) (x y : Bool) : stepC (r ^^^ s) (x ^^ y) = stepC r x ^^^ stepC s y := by
  unfold stepC
  rw [up_xor]
  have : (x ^^ y).toNat = x.toNat ^^^ y.toNat := by cases x <;> cases y <;> rfl
  rw [this]
  simp only [Nat.xor_assoc]
  rw [xor_lc (up s)]
theorem fold_xor : ∀ (a b : List Bool) (r s : Nat), a.length = b.length → (List.zipWith Bool.xor a b).foldl stepC (r ^^^ s) = a.foldl stepC r ^^^ b.foldl stepC s
  | [], [], r, s, _ => rfl
  | x :: a, y :: b, r, s, h => by
    rw [List.zipWith_cons_cons, List.foldl_cons, List.foldl_cons, List.foldl_cons, stepC_xor]
    exact fold_xor a b _ _ (by simpa using h)
theorem rem_xor (a b : List Bool) (h : a.length = b.length) : remB (List.zipWith Bool.xor a b) = remB a ^^^ remB b := fold_xor a b 0 0 h
theorem up_lt (r : Nat) : up r < 4294967296 := by
  unfold up
  have h1 : (r <<< 1) % 2 ^ 32 < 2 ^ 32 := Nat.mod_lt _ (by decide)
  have h2 : (if r.testBit 31 = true then poly else 0) < 2 ^ 32 := by split <;> decide
  exact Nat.xor_lt_two_pow h1 h2
theorem stepC_lt (r : Nat) (b : Bool) : stepC r b < 4294967296 := by
  unfold stepC
  have h1 : up r < 2 ^ 32 := up_lt r
  have h2 : b.toNat < 2 ^ 32 := by cases b <;> decide
  exact Nat.xor_lt_two_pow h1 h2
theorem fold_lt : ∀ (l : List Bool) (r : Nat), r < 4294967296 → l.foldl stepC r < 4294967296
  | [], r, h => h
  | b :: l, r, h => by rw [List.foldl_cons]; exact fold_lt l _ (stepC_lt r b)
theorem rem_lt (l : List Bool) : remB l < 4294967296 := fold_lt l 0 (by decide)
theorem bit31 (r : Nat) (h : r < 4294967296) : r.testBit 31 = decide (2147483648 ≤ r) := by
  rw [Nat.testBit_eq_decide_div_mod_eq]
  congr 1
  apply propext
  have : 2 ^ 31 = 2147483648 := by decide
  rw [this]
  omega
theorem up_small (r : Nat) (h : r < 2147483648) : up r = 2 * r := by
  unfold up
  rw [bit31 r (by omega), if_neg (by simp; omega), Nat.xor_zero, Nat.shiftLeft_eq]
  omega
theorem up_ne (r : Nat) (h : r < 4294967296) (h0 : r ≠ 0) : up r ≠ 0 := by
  by_cases hr : r < 2147483648
  · rw [up_small r hr]; omega
  · intro he
    have h1 : (up r).testBit 0 = false := by rw [he]; rfl
    unfold up at h1
    rw [bit31 r h, if_pos (by simp; omega), Nat.testBit_xor] at h1
    have h2 : ((r <<< 1) % 2 ^ 32).testBit 0 = false := by
      rw [Nat.shiftLeft_eq, Nat.testBit_zero]
      simp
    have h3 : poly.testBit 0 = true := by decide
    rw [h2, h3] at h1
    cases h1
def upN : Nat → Nat → Nat
  | 0, r => r
  | n + 1, r => upN n (up r)
theorem stepC_false (r : Nat) : stepC r false = up r := Nat.xor_zero _
theorem fold_zeros : ∀ (n r : Nat), (List.replicate n false).foldl stepC r = upN n r
  | 0, r => rfl
  | n + 1, r => by
    rw [List.replicate_succ, List.foldl_cons, fold_zeros n, stepC_false]
    rfl
theorem upN_zero : ∀ n, upN n 0 = 0
  | 0 => rfl
  | n + 1 => by unfold upN; rw [up_zero]; exact upN_zero n
theorem upN_ne : ∀ (n r : Nat), r < 4294967296 → r ≠ 0 → upN n r ≠ 0
  | 0, r, _, h => h
  | n + 1, r, h1, h2 => upN_ne n (up r) (up_lt r) (up_ne r h1 h2)
theorem xor_bit (a : Nat) (b : Bool) : (2 * a) ^^^ b.toNat = 2 * a + b.toNat := by
  cases b with
  | false => simp
  | true =>
    apply Nat.eq_of_testBit_eq
    intro i
    rw [Nat.testBit_xor]
    cases i with
    | zero => simp [Nat.testBit_zero]
    | succ i =>
      rw [Nat.testBit_succ, Nat.testBit_succ, Nat.testBit_succ]
      have h1 : 2 * a / 2 = a := by omega
      have h2 : (2 * a + true.toNat) / 2 = a := by simp; omega
      have h3 : true.toNat / 2 = 0 := by decide
      rw [h1, h2, h3]; simp
/-- So many bits go into the remainder as they are. -/
theorem short : ∀ (l : List Bool) (k r : Nat), r < 2 ^ k → k + l.length ≤ 32 → l.foldl stepC r = l.foldl (fun n b => 2 * n + b.toNat) r
  | [], k, r, _, _ => rfl
  | b :: l, k, r, hr, hk => by
    rw [List.length_cons] at hk
    have h1 : 2 ^ k ≤ 2 ^ 31 := Nat.pow_le_pow_right (by decide) (by omega)
    have h2 : (2 : Nat) ^ 31 = 2147483648 := by decide
    have h3 : stepC r b = 2 * r + b.toNat := by
      unfold stepC
      rw [up_small r (by omega), xor_bit]
    rw [List.foldl_cons, List.foldl_cons, h3]
    refine short l (k + 1) _ ?_ (by omega)
    have : b.toNat ≤ 1 := by cases b <;> decide
    rw [Nat.pow_succ]
    omega
theorem val_zero : ∀ (l : List Bool) (r : Nat), l.foldl (fun n b => 2 * n + b.toNat) r = 0 → r = 0 ∧ ∀ b ∈ l, b = false
  | [], r, h => ⟨h, fun b hb => by cases hb⟩
  | b :: l, r, h => by
    obtain ⟨h1, h2⟩ := val_zero l _ h
    have h1 : 2 * r + b.toNat = 0 := h1
    have hb : b = false := by cases b with
      | false => rfl
      | true => simp at h1
    refine ⟨by omega, fun c hc => ?_⟩
    rcases List.mem_cons.1 hc with rfl | hc
    · exact hb
    · exact h2 c hc
/-- Of a burst of at most 32 bits something remains. -/
theorem burst (a c : Nat) (w : List Bool) (hw : w.length ≤ 32) (h : remB (List.replicate a false ++ w ++ List.replicate c false) = 0) : ∀ b ∈ w, b = false := by
  unfold remB at h
  rw [List.foldl_append, List.foldl_append, fold_zeros, fold_zeros, upN_zero] at h
  have h1 := fold_lt w 0 (by decide)
  by_cases h2 : w.foldl stepC 0 = 0
  · rw [short w 0 0 (by decide) (by omega)] at h2
    exact (val_zero w 0 h2).2
  · exact absurd h (upN_ne c _ h1 h2)

/-! ### Bytes -/
def bits8 (b : UInt8) : List Bool := [b.toNat.testBit 7, b.toNat.testBit 6, b.toNat.testBit 5, b.toNat.testBit 4, b.toNat.testBit 3, b.toNat.testBit 2, b.toNat.testBit 1, b.toNat.testBit 0]
def bitsL (l : List UInt8) : List Bool := l.flatMap bits8
def rem (l : List UInt8) : Nat := remB (bitsL l)
theorem bitsL_len (l : List UInt8) : (bitsL l).length = 8 * l.length := by
  induction l with
  | nil => rfl
  | cons b l ih =>
    unfold bitsL at ih ⊢
    rw [List.flatMap_cons, List.length_append, ih]
    simp [bits8]; omega
theorem bitsL_app (a b : List UInt8) : bitsL (a ++ b) = bitsL a ++ bitsL b := by unfold bitsL; simp
theorem bits8_inj (a b : UInt8) (h : bits8 a = bits8 b) : a = b := by
  have ha := a.toNat_lt
  have hb := b.toNat_lt
  simp only [bits8, List.cons.injEq, and_true] at h
  obtain ⟨h7, h6, h5, h4, h3, h2, h1, h0⟩ := h
  refine UInt8.toNat_inj.1 (Nat.eq_of_testBit_eq fun i => ?_)
  by_cases hi : i < 8
  · have : i = 0 ∨ i = 1 ∨ i = 2 ∨ i = 3 ∨ i = 4 ∨ i = 5 ∨ i = 6 ∨ i = 7 := by omega
    rcases this with rfl | rfl | rfl | rfl | rfl | rfl | rfl | rfl <;> assumption
  · have hp : (2 : Nat) ^ 8 ≤ 2 ^ i := Nat.pow_le_pow_right (by decide) (by omega)
    rw [Nat.testBit_lt_two_pow (show a.toNat < 2 ^ i by omega), Nat.testBit_lt_two_pow (show b.toNat < 2 ^ i by omega)]
theorem bitsL_inj : ∀ (a b : List UInt8), bitsL a = bitsL b → a = b
  | [], [], _ => rfl
  | [], b :: l, h => by
    have := congrArg List.length h
    rw [bitsL_len, bitsL_len] at this
    simp at this
  | a :: l, [], h => by
    have := congrArg List.length h
    rw [bitsL_len, bitsL_len] at this
    simp at this
  | a :: l, b :: m, h => by
    unfold bitsL at h
    rw [List.flatMap_cons, List.flatMap_cons] at h
    obtain ⟨h1, h2⟩ := List.append_inj h rfl
    rw [bits8_inj a b h1, bitsL_inj l m h2]
theorem zip_self : ∀ l : List Bool, List.zipWith Bool.xor l l = List.replicate l.length false
  | [] => rfl
  | b :: l => by
    rw [List.zipWith_cons_cons, zip_self l, List.length_cons, List.replicate_succ]
    cases b <;> rfl
theorem zip_false : ∀ (a b : List Bool), a.length = b.length → (∀ x ∈ List.zipWith Bool.xor a b, x = false) → a = b
  | [], [], _, _ => rfl
  | x :: a, y :: b, hl, h => by
    have h1 := h (x ^^ y) (by simp)
    have h2 := zip_false a b (by simpa using hl) (fun z hz => h z (by simp [hz]))
    have : x = y := by cases x <;> cases y <;> first | rfl | cases h1
    rw [this, h2]
/-- A field of four bytes that is right is the only one. -/
theorem field_one (h t F G : List UInt8) (hF : F.length = 4) (hG : G.length = 4) (h1 : rem (h ++ F ++ t) = 0) (h2 : rem (h ++ G ++ t) = 0) : F = G := by
  unfold rem at h1 h2
  rw [bitsL_app, bitsL_app] at h1 h2
  have hl : (bitsL F).length = (bitsL G).length := by rw [bitsL_len, bitsL_len, hF, hG]
  have hx := rem_xor (bitsL h ++ bitsL F ++ bitsL t) (bitsL h ++ bitsL G ++ bitsL t) (by simp only [List.length_append, hl])
  rw [h1, h2, List.zipWith_append (by simp only [List.length_append, hl]), List.zipWith_append rfl, zip_self, zip_self] at hx
  have h3 := burst _ _ _ (by rw [List.length_zipWith, bitsL_len, bitsL_len]; omega) hx
  exact bitsL_inj F G (zip_false _ _ hl h3)

/-! ### Downwards -/
def down (r : Nat) : Nat := if r % 2 = 1 then (r ^^^ poly) / 2 + 2147483648 else r / 2
theorem up_high (x : Nat) (h : x < 2147483648) : up (x + 2147483648) = (2 * x) ^^^ poly := by
  have h1 : (x + 2147483648).testBit 31 = true := by
    rw [bit31 _ (by omega)]
    exact decide_eq_true (by omega)
  have h2 : ((x + 2147483648) <<< 1) % 2 ^ 32 = 2 * x := by
    rw [Nat.shiftLeft_eq]
    omega
  unfold up
  rw [h2, if_pos h1]
theorem xor_odd (r : Nat) (h : r % 2 = 1) : (r ^^^ poly) % 2 = 0 := by
  have h1 : (r ^^^ poly).testBit 0 = false := by
    rw [Nat.testBit_xor, Nat.testBit_zero, Nat.testBit_zero, h]
    rfl
  rw [Nat.testBit_zero] at h1
  have := of_decide_eq_false h1
  omega
theorem up_down (r : Nat) (h : r < 4294967296) : up (down r) = r := by
  unfold down
  by_cases h1 : r % 2 = 1
  · rw [if_pos h1]
    have h2 : (r ^^^ poly) < 2 ^ 32 := Nat.xor_lt_two_pow (by omega) (by decide)
    have h3 := xor_odd r h1
    rw [up_high _ (by omega), show 2 * ((r ^^^ poly) / 2) = r ^^^ poly by omega, Nat.xor_assoc, Nat.xor_self, Nat.xor_zero]
  · rw [if_neg h1, up_small _ (by omega)]
    omega
theorem down_lt (r : Nat) (h : r < 4294967296) : down r < 4294967296 := by
  unfold down
  have h2 : (r ^^^ poly) < 2 ^ 32 := Nat.xor_lt_two_pow (by omega) (by decide)
  split <;> omega
def downN : Nat → Nat → Nat
  | 0, r => r
  | n + 1, r => down (downN n r)
theorem downN_lt : ∀ (n r : Nat), r < 4294967296 → downN n r < 4294967296
  | 0, r, h => h
  | n + 1, r, h => down_lt _ (downN_lt n r h)
theorem upN_downN : ∀ (n r : Nat), r < 4294967296 → upN n (downN n r) = r
  | 0, r, _ => rfl
  | n + 1, r, h => by
    unfold upN downN
    rw [up_down _ (downN_lt n r h)]
    exact upN_downN n r h
end Go.Proofs.Ytdkgnlmojmafbaa
