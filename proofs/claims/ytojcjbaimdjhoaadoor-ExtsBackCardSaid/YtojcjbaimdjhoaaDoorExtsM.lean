
/- Elements: the plain law of layer 5. -/
import Derived.Test.YtojcjbaimdjhoaaDoorRtp3
namespace Go.Proofs.YtojcjbaimdjhoaaDoor
open Go.RowKit
set_option linter.unusedVariables false
set_option linter.unusedSimpArgs false

structure E5 where
  id : Int
  data : List UInt8
  deriving DecidableEq
def prof (f : Nat) : Int := if f = 1 then 48862 else 4096
def mostId (f : Nat) : Int := if f = 1 then 14 else 255
def leastL (f : Nat) : Int := if f = 1 then 1 else 0
def mostL (f : Nat) : Int := if f = 1 then 16 else 255
def may5 (f : Nat) (x : E5) : Bool := decide (1 ≤ x.id ∧ x.id ≤ mostId f ∧ leastL f ≤ (x.data.length : Int) ∧ (x.data.length : Int) ≤ mostL f)
def head5 (f : Nat) (x : E5) : List UInt8 := if f = 1 then putZ (16 * x.id + x.data.length - 1) 1 else putZ x.id 1 ++ putZ x.data.length 1
def item5 (f : Nat) (x : E5) : List UInt8 := head5 f x ++ x.data
def raw5 (f : Nat) (l : List E5) : List UInt8 := l.flatMap (item5 f)
def pad5 (n : Nat) : Nat := (4 - n % 4) % 4
def bytes5 (f : Nat) (l : List E5) : List UInt8 := raw5 f l ++ zer (pad5 (raw5 f l).length)
def formN (p : Int) : Nat := if p = 48862 then 1 else if p = 4096 then 2 else 0
def formOk (n : Int) : Nat := if n = 1 then 1 else if n = 2 then 2 else 0
def pack5 (n : Int) (l : List E5) : Int × List UInt8 × Int :=
  if formOk n = 0 then (0, [], 5) else if l.all (may5 (formOk n)) = true ∧ (bytes5 (formOk n) l).length ≤ 262140 then (prof (formOk n), bytes5 (formOk n) l, 0) else (0, [], 6)
def id5 (f : Nat) (b : UInt8) : Nat := if f = 1 then b.toNat / 16 else b.toNat
def len5 (f : Nat) (b : UInt8) (s : List UInt8) : Nat := if f = 1 then b.toNat % 16 + 1 else (s.headD 0).toNat
def rest5 (f : Nat) (s : List UInt8) : List UInt8 := if f = 1 then s else s.drop 1
def short5 (f : Nat) (b : UInt8) (s : List UInt8) : Prop := (f ≠ 1 ∧ s = []) ∨ (rest5 f s).length < len5 f b s
instance decShort (f : Nat) (b : UInt8) (s : List UInt8) : Decidable (short5 f b s) := by unfold short5; infer_instance
def acc5 (out : List E5) (r : List E5 × Int) : List E5 × Int := if r.2 = 0 then (out ++ r.1, 0) else ([], r.2)
theorem rest5_len (f : Nat) (s : List UInt8) : (rest5 f s).length ≤ s.length := by
  unfold rest5; split
  · exact Nat.le_refl _
  · rw [List.length_drop]; omega
def go5 (f : Nat) (l : List UInt8) : List E5 × Int :=
  match l with
  | [] => ([], 0)
  | b :: s => if b = 0 then (if s.length < 3 ∧ s = zer s.length then ([], 0) else ([], 1))
    else if id5 f b = 0 ∨ mostId f < (id5 f b : Int) then ([], 1)
    else if short5 f b s then ([], 2)
    else acc5 [⟨id5 f b, (rest5 f s).take (len5 f b s)⟩] (go5 f ((rest5 f s).drop (len5 f b s)))
termination_by l.length
decreasing_by
  have := rest5_len f s
  simp only [List.length_drop, List.length_cons]
  omega
theorem go5_nil (f : Nat) : go5 f [] = ([], 0) := by rw [go5]
theorem go5_cons (f : Nat) (b : UInt8) (s : List UInt8) : go5 f (b :: s) = if b = 0 then (if s.length < 3 ∧ s = zer s.length then ([], 0) else ([], 1))
    else if id5 f b = 0 ∨ mostId f < (id5 f b : Int) then ([], 1)
    else if short5 f b s then ([], 2)
    else acc5 [⟨id5 f b, (rest5 f s).take (len5 f b s)⟩] (go5 f ((rest5 f s).drop (len5 f b s))) := by rw [go5]
def parse5 (p : Int) (s : List UInt8) : Int × List E5 × Int :=
  if formN p = 0 then (0, [], 5) else if s.length % 4 ≠ 0 then (0, [], 1) else if (go5 (formN p) s).2 = 0 then (formN p, (go5 (formN p) s).1, 0) else (0, [], (go5 (formN p) s).2)

theorem acc5_nil (r : List E5 × Int) (h : r.2 ≠ 0 → r.1 = []) : acc5 [] r = r := by
  unfold acc5
  split
  · rename_i h0; rw [← h0]; rfl
  · rename_i h0; rw [← h h0]
theorem acc5_acc (a b : List E5) (r : List E5 × Int) : acc5 a (acc5 b r) = acc5 (a ++ b) r := by
  unfold acc5
  by_cases h : r.2 = 0
  · rw [if_pos h, if_pos rfl, if_pos h, List.append_assoc]
  · rw [if_neg h, if_neg h, if_neg h]
theorem go5_err (f : Nat) (l : List UInt8) : (go5 f l).2 ≠ 0 → (go5 f l).1 = [] := by
  cases l with
  | nil => rw [go5_nil]; intro; rfl
  | cons b s =>
    rw [go5_cons]
    split
    · split <;> (intro; rfl)
    split
    · intro; rfl
    split
    · intro; rfl
    unfold acc5
    split
    · intro h; exact absurd rfl h
    · intro; rfl
theorem go5_codes (f : Nat) : ∀ (n : Nat) (l : List UInt8), l.length ≤ n → (go5 f l).2 = 0 ∨ (go5 f l).2 = 1 ∨ (go5 f l).2 = 2
  | 0, l, h => by
    obtain rfl : l = [] := List.length_eq_zero_iff.1 (by omega)
    rw [go5_nil]; exact .inl rfl
  | n + 1, l, h => by
    cases l with
    | nil => rw [go5_nil]; exact .inl rfl
    | cons b s =>
      rw [go5_cons]
      split
      · split
        · exact .inl rfl
        · exact .inr (.inl rfl)
      split
      · exact .inr (.inl rfl)
      split
      · exact .inr (.inr rfl)
      have h1 := rest5_len f s
      have h2 := go5_codes f n ((rest5 f s).drop (len5 f b s)) (by simp only [List.length_drop, List.length_cons] at h ⊢; omega)
      unfold acc5
      split
      · exact .inl rfl
      · exact h2
theorem byte_id (b : UInt8) : UInt8.ofNat b.toNat = b := UInt8.ofNat_toNat
/-- What an element's bytes are. -/
theorem item5_of (f : Nat) (hf : f = 1 ∨ f = 2) (b : UInt8) (s : List UInt8) (h0 : ¬ (id5 f b = 0 ∨ mostId f < (id5 f b : Int))) (hs : ¬ short5 f b s) :
    may5 f ⟨id5 f b, (rest5 f s).take (len5 f b s)⟩ = true ∧ item5 f ⟨id5 f b, (rest5 f s).take (len5 f b s)⟩ ++ (rest5 f s).drop (len5 f b s) = b :: s := by
  have hb : b.toNat < 256 := b.toNat_lt
  have hl : len5 f b s ≤ (rest5 f s).length := by
    apply Nat.le_of_not_lt
    intro h
    exact hs (.inr h)
  have ht : ((rest5 f s).take (len5 f b s)).length = len5 f b s := by rw [List.length_take]; omega
  have happ := List.take_append_drop (len5 f b s) (rest5 f s)
  rcases hf with rfl | rfl
  · have e1 : id5 1 b = b.toNat / 16 := rfl
    have e2 : len5 1 b s = b.toNat % 16 + 1 := rfl
    have e3 : mostId 1 = 14 := rfl
    have e4 : mostL 1 = 16 := rfl
    have e5 : leastL 1 = 1 := rfl
    have e6 : rest5 1 s = s := rfl
    refine ⟨decide_eq_true ⟨?_, ?_, ?_, ?_⟩, ?_⟩
    · show (1 : Int) ≤ ((id5 1 b : Nat) : Int)
      omega
    · show ((id5 1 b : Nat) : Int) ≤ _
      omega
    · show _ ≤ (((((rest5 1 s).take (len5 1 b s)).length : Nat)) : Int)
      rw [ht]; omega
    · show (((((rest5 1 s).take (len5 1 b s)).length : Nat)) : Int) ≤ _
      rw [ht]; omega
    · unfold item5 head5
      dsimp only
      rw [if_pos rfl, ht, show (16 * ((id5 1 b : Nat) : Int) + ((len5 1 b s : Nat) : Int) - 1) = ((b.toNat : Nat) : Int) by omega, put_byte _ hb, byte_id, List.append_assoc, happ, e6]
      rfl
  · have e1 : id5 2 b = b.toNat := rfl
    have e3 : mostId 2 = 255 := rfl
    have e4 : mostL 2 = 255 := rfl
    have e5 : leastL 2 = 0 := rfl
    cases s with
    | nil => exact absurd (.inl ⟨by decide, rfl⟩) hs
    | cons c s =>
      have e2 : len5 2 b (c :: s) = c.toNat := rfl
      have e6 : rest5 2 (c :: s) = s := rfl
      have hc : c.toNat < 256 := c.toNat_lt
      refine ⟨decide_eq_true ⟨?_, ?_, ?_, ?_⟩, ?_⟩
      · show (1 : Int) ≤ ((id5 2 b : Nat) : Int)
        omega
      · show ((id5 2 b : Nat) : Int) ≤ _
        omega
      · show _ ≤ (((((rest5 2 (c :: s)).take (len5 2 b (c :: s))).length : Nat)) : Int)
        rw [ht]; omega
      · show (((((rest5 2 (c :: s)).take (len5 2 b (c :: s))).length : Nat)) : Int) ≤ _
        rw [ht]; omega
      · unfold item5 head5
        dsimp only
        rw [if_neg (by decide), ht, e1, e2, put_byte _ hb, put_byte _ hc, byte_id, byte_id, ← e2, List.append_assoc, happ, e6]
        rfl
theorem go5_bytes (f : Nat) (hf : f = 1 ∨ f = 2) : ∀ (n : Nat) (s : List UInt8), s.length ≤ n → (go5 f s).2 = 0 → (go5 f s).1.all (may5 f) = true ∧ ∃ k, k ≤ 3 ∧ s = raw5 f (go5 f s).1 ++ zer k
  | 0, s, h, _ => by
    obtain rfl : s = [] := List.length_eq_zero_iff.1 (by omega)
    rw [go5_nil]; exact ⟨rfl, 0, by omega, rfl⟩
  | n + 1, s, h, he => by
    cases s with
    | nil => rw [go5_nil]; exact ⟨rfl, 0, by omega, rfl⟩
    | cons b s =>
      rw [go5_cons] at he ⊢
      by_cases hb : b = 0
      · rw [if_pos hb] at he ⊢
        by_cases hz : s.length < 3 ∧ s = zer s.length
        · rw [if_pos hz]
          refine ⟨rfl, s.length + 1, by omega, ?_⟩
          rw [hb]
          show _ = zer (s.length + 1)
          conv => lhs; rw [hz.2]
          rfl
        · rw [if_neg hz] at he; cases he
      rw [if_neg hb] at he ⊢
      by_cases h0 : id5 f b = 0 ∨ mostId f < (id5 f b : Int)
      · rw [if_pos h0] at he; cases he
      rw [if_neg h0] at he ⊢
      by_cases hs : short5 f b s
      · rw [if_pos hs] at he; cases he
      rw [if_neg hs] at he ⊢
      obtain ⟨m1, m2⟩ := item5_of f hf b s h0 hs
      have hr := rest5_len f s
      have hlen : ((rest5 f s).drop (len5 f b s)).length ≤ n := by simp only [List.length_drop, List.length_cons] at h ⊢; omega
      by_cases hg : (go5 f ((rest5 f s).drop (len5 f b s))).2 = 0
      · obtain ⟨g1, k, g2, g3⟩ := go5_bytes f hf n _ hlen hg
        unfold acc5
        rw [if_pos hg]
        refine ⟨?_, k, g2, ?_⟩
        · rw [List.singleton_append, List.all_cons, m1, g1]; rfl
        · rw [List.singleton_append]
          unfold raw5 at g3 ⊢
          rw [List.flatMap_cons, List.append_assoc, ← g3, m2]
      · unfold acc5 at he
        rw [if_neg hg] at he
        exact absurd he hg
theorem go5_zer (f : Nat) (k : Nat) (h : k ≤ 3) : go5 f (zer k) = ([], 0) := by
  cases k with
  | zero => exact go5_nil f
  | succ k =>
    have e : zer (k + 1) = 0 :: zer k := rfl
    rw [e, go5_cons, if_pos rfl, if_pos ⟨by rw [zer_len]; omega, by rw [zer_len]⟩]
theorem may5_iff (f : Nat) (x : E5) : may5 f x = true ↔ (1 ≤ x.id ∧ x.id ≤ mostId f ∧ leastL f ≤ (x.data.length : Int) ∧ (x.data.length : Int) ≤ mostL f) := by unfold may5; rw [decide_eq_true_eq]
theorem go5_item (f : Nat) (hf : f = 1 ∨ f = 2) (x : E5) (hx : may5 f x = true) (r : List UInt8) : go5 f (item5 f x ++ r) = acc5 [x] (go5 f r) := by
  obtain ⟨i, d⟩ := x
  obtain ⟨h1, h2, h3, h4⟩ := (may5_iff f _).1 hx
  dsimp only at h1 h2 h3 h4
  have key : ∀ (b : UInt8) (s : List UInt8), item5 f ⟨i, d⟩ ++ r = b :: s → b ≠ 0 → (id5 f b : Int) = i → len5 f b s = d.length → rest5 f s = d ++ r → ¬ (f ≠ 1 ∧ s = []) → go5 f (item5 f ⟨i, d⟩ ++ r) = acc5 [⟨i, d⟩] (go5 f r) := by
    intro b s e0 e1 e2 e3 e4 e5
    rw [e0, go5_cons, if_neg e1, if_neg (by omega), if_neg (by
      rintro (h | h)
      · exact e5 h
      · rw [e4, e3, List.length_append] at h; omega), e2, e3, e4, List.take_left, List.drop_left]
  rcases hf with rfl | rfl
  · have m1 : mostId 1 = 14 := rfl
    have m2 : mostL 1 = 16 := rfl
    have m3 : leastL 1 = 1 := rfl
    obtain ⟨n, hn⟩ : ∃ n : Nat, 16 * i + d.length - 1 = (n : Int) := ⟨(16 * i + d.length - 1).toNat, by omega⟩
    have hb : (UInt8.ofNat n).toNat = n := by rw [UInt8.toNat_ofNat']; exact Nat.mod_eq_of_lt (by omega)
    refine key (UInt8.ofNat n) (d ++ r) ?_ ?_ ?_ ?_ rfl (fun h => h.1 rfl)
    · unfold item5 head5
      rw [if_pos rfl]
      dsimp only
      rw [hn, put_byte n (by omega)]
      rfl
    · intro h
      rw [h] at hb
      have : (0 : UInt8).toNat = 0 := rfl
      omega
    · show (((UInt8.ofNat n).toNat / 16 : Nat) : Int) = i
      rw [hb]; omega
    · show (UInt8.ofNat n).toNat % 16 + 1 = d.length
      rw [hb]; omega
  · have m1 : mostId 2 = 255 := rfl
    have m2 : mostL 2 = 255 := rfl
    have m3 : leastL 2 = 0 := rfl
    obtain ⟨n, hn⟩ : ∃ n : Nat, i = (n : Int) := ⟨i.toNat, by omega⟩
    have hb : (UInt8.ofNat n).toNat = n := by rw [UInt8.toNat_ofNat']; exact Nat.mod_eq_of_lt (by omega)
    have hc : (UInt8.ofNat d.length).toNat = d.length := by rw [UInt8.toNat_ofNat']; exact Nat.mod_eq_of_lt (by omega)
    refine key (UInt8.ofNat n) (UInt8.ofNat d.length :: (d ++ r)) ?_ ?_ ?_ ?_ rfl (fun h => by cases h.2)
    · unfold item5 head5
      rw [if_neg (by decide)]
      dsimp only
      rw [hn, put_byte n (by omega), put_byte d.length (by omega)]
      rfl
    · intro h
      rw [h] at hb
      have : (0 : UInt8).toNat = 0 := rfl
      omega
    · show (((UInt8.ofNat n).toNat : Nat) : Int) = i
      rw [hb]; omega
    · exact hc
theorem go5_raw (f : Nat) (hf : f = 1 ∨ f = 2) : ∀ (l : List E5), l.all (may5 f) = true → ∀ k, k ≤ 3 → go5 f (raw5 f l ++ zer k) = (l, 0)
  | [], _, k, hk => go5_zer f k hk
  | x :: l, h, k, hk => by
    rw [List.all_cons, Bool.and_eq_true] at h
    have e : raw5 f (x :: l) ++ zer k = item5 f x ++ (raw5 f l ++ zer k) := by
      unfold raw5
      rw [List.flatMap_cons, List.append_assoc]
    rw [e, go5_item f hf x h.1, go5_raw f hf l h.2 k hk]
    rfl
theorem pad5_le (n : Nat) : pad5 n ≤ 3 := by unfold pad5; omega
theorem go5_bytes5 (f : Nat) (hf : f = 1 ∨ f = 2) (l : List E5) (h : l.all (may5 f) = true) : go5 f (bytes5 f l) = (l, 0) := go5_raw f hf l h _ (pad5_le _)
theorem bytes5_inj (f : Nat) (hf : f = 1 ∨ f = 2) (a b : List E5) (ha : a.all (may5 f) = true) (hb : b.all (may5 f) = true) (h : bytes5 f a = bytes5 f b) : a = b := by
  have h1 := go5_bytes5 f hf a ha
  rw [h, go5_bytes5 f hf b hb] at h1
  exact (congrArg Prod.fst h1).symm
theorem bytes5_mod (f : Nat) (l : List E5) : (bytes5 f l).length % 4 = 0 := by
  unfold bytes5
  rw [List.length_append, zer_len]
  unfold pad5
  omega
theorem formN_prof (f : Nat) (hf : f = 1 ∨ f = 2) : formN (prof f) = f := by rcases hf with rfl | rfl <;> rfl
theorem formN_12 (p : Int) (h : formN p ≠ 0) : (formN p = 1 ∨ formN p = 2) ∧ prof (formN p) = p ∧ formOk (formN p) = formN p := by
  unfold formN at h ⊢
  by_cases h1 : p = 48862
  · rw [if_pos h1]; exact ⟨.inl rfl, h1.symm, rfl⟩
  · rw [if_neg h1] at h ⊢
    by_cases h2 : p = 4096
    · rw [if_pos h2]; exact ⟨.inr rfl, h2.symm, rfl⟩
    · rw [if_neg h2] at h; exact absurd rfl h
theorem formOk_12 (n : Int) (h : formOk n ≠ 0) : (formOk n = 1 ∨ formOk n = 2) ∧ ((formOk n : Nat) : Int) = n := by
  unfold formOk at h ⊢
  by_cases h1 : n = 1
  · rw [if_pos h1]; exact ⟨.inl rfl, h1.symm⟩
  · rw [if_neg h1] at h ⊢
    by_cases h2 : n = 2
    · rw [if_pos h2]; exact ⟨.inr rfl, h2.symm⟩
    · rw [if_neg h2] at h; exact absurd rfl h
/-- What was read is written again. -/
theorem pack_parse5 (p : Int) (s : List UInt8) (hl : s.length ≤ 262140) (h : (parse5 p s).2.2 = 0) : pack5 (parse5 p s).1 (parse5 p s).2.1 = (p, s, 0) := by
  unfold parse5 at h ⊢
  by_cases h1 : formN p = 0
  · rw [if_pos h1] at h; cases h
  rw [if_neg h1] at h ⊢
  by_cases h2 : s.length % 4 ≠ 0
  · rw [if_pos h2] at h; cases h
  rw [if_neg h2] at h ⊢
  by_cases h3 : (go5 (formN p) s).2 = 0
  · rw [if_pos h3]
    obtain ⟨q1, q2, q3⟩ := formN_12 p h1
    obtain ⟨g1, k, g2, g3⟩ := go5_bytes (formN p) q1 s.length s (Nat.le_refl _) h3
    have hb : bytes5 (formN p) (go5 (formN p) s).1 = s := by
      unfold bytes5
      have : pad5 (raw5 (formN p) (go5 (formN p) s).1).length = k := by
        have h4 := congrArg List.length g3
        rw [List.length_append, zer_len] at h4
        unfold pad5
        omega
      rw [this]; exact g3.symm
    unfold pack5
    dsimp only
    rw [q3, if_neg h1, hb, if_pos ⟨g1, hl⟩, q2]
  · rw [if_neg h3] at h
    exact absurd h h3
/-- What was written is read again. -/
theorem parse_pack5 (n : Int) (l : List E5) (h : (pack5 n l).2.2 = 0) : parse5 (pack5 n l).1 (pack5 n l).2.1 = (n, l, 0) := by
  unfold pack5 at h ⊢
  by_cases h1 : formOk n = 0
  · rw [if_pos h1] at h; cases h
  rw [if_neg h1] at h ⊢
  by_cases h2 : l.all (may5 (formOk n)) = true ∧ (bytes5 (formOk n) l).length ≤ 262140
  · rw [if_pos h2]
    obtain ⟨q1, q2⟩ := formOk_12 n h1
    unfold parse5
    dsimp only
    rw [formN_prof _ q1, if_neg h1, if_neg (by rw [bytes5_mod]; decide), go5_bytes5 _ q1 l h2.1, if_pos rfl, q2]
  · rw [if_neg h2] at h; cases h
theorem pack5_codes (n : Int) (l : List E5) : (pack5 n l).2.2 = 0 ∨ pack5 n l = (0, [], 5) ∨ pack5 n l = (0, [], 6) := by
  unfold pack5
  split
  · exact .inr (.inl rfl)
  split
  · exact .inl rfl
  · exact .inr (.inr rfl)
/-- Elements that aren't alike have other bytes. -/
theorem pack5_inj (n : Int) (a b : List E5) (ha : (pack5 n a).2.2 = 0) (hb : (pack5 n b).2.2 = 0) : (pack5 n a).2.1 = (pack5 n b).2.1 ↔ a = b := by
  constructor
  · intro h
    have h1 := parse_pack5 n a ha
    have h2 := parse_pack5 n b hb
    have hp : (pack5 n a).1 = (pack5 n b).1 := by
      unfold pack5 at ha hb ⊢
      by_cases h1 : formOk n = 0
      · rw [if_pos h1] at ha; cases ha
      rw [if_neg h1] at ha hb ⊢
      rw [if_neg h1]
      by_cases g1 : a.all (may5 (formOk n)) = true ∧ (bytes5 (formOk n) a).length ≤ 262140
      · by_cases g2 : b.all (may5 (formOk n)) = true ∧ (bytes5 (formOk n) b).length ≤ 262140
        · rw [if_pos g1, if_pos g2]
        · rw [if_neg g2] at hb; cases hb
      · rw [if_neg g1] at ha; cases ha
    rw [hp, h, h2] at h1
    exact ((Prod.mk.inj (Prod.mk.inj h1).2).1).symm
  · rintro rfl; rfl
end Go.Proofs.YtojcjbaimdjhoaaDoor
