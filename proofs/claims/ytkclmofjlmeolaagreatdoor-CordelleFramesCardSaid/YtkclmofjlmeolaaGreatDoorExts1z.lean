/- Elements: the plain law of layer 5. Package exts: its rules, their map. Package exts: Pack. Package exts: Parse. -/
import Derived.Test.YtkclmofjlmeolaaGreatDoorRtp1z
import Derived.Test.YtkclmofjlmeolaaGreatDoorRLz
namespace Go.Proofs.YtkclmofjlmeolaaGreatDoor
open Go.RowKit
set_option linter.unusedVariables false
set_option linter.unusedSimpArgs false

structure E5 where
  id : Int
  data : List UInt8
  deriving DecidableEq
def prof (f : Nat) : Int := if f = 1 then 48862 else 4096
def mostId (f : Nat) : Int := if f = 1 then 14 else 255
def leastL (f : Nat) : Int := if f = 1 then 1 else 0
def mostL (f : Nat) : Int := if f = 1 then 16 else 255
def may5 (f : Nat) (x : E5) : Bool := decide (1 ≤ x.id ∧ x.id ≤ mostId f ∧ leastL f ≤ (x.data.length : Int) ∧ (x.data.length : Int) ≤ mostL f)
def head5 (f : Nat) (x : E5) : List UInt8 := if f = 1 then putZ (16 * x.id + x.data.length - 1) 1 else putZ x.id 1 ++ putZ x.data.length 1
def item5 (f : Nat) (x : E5) : List UInt8 := head5 f x ++ x.data
def raw5 (f : Nat) (l : List E5) : List UInt8 := l.flatMap (item5 f)
def pad5 (n : Nat) : Nat := (4 - n % 4) % 4
def bytes5 (f : Nat) (l : List E5) : List UInt8 := raw5 f l ++ zer4 (pad5 (raw5 f l).length)
def formN (p : Int) : Nat := if p = 48862 then 1 else if p = 4096 then 2 else 0
def formOk (n : Int) : Nat := if n = 1 then 1 else if n = 2 then 2 else 0
def pack5 (n : Int) (l : List E5) : Int × List UInt8 × Int :=
  if formOk n = 0 then (0, [], 5) else if l.all (may5 (formOk n)) = true ∧ (bytes5 (formOk n) l).length ≤ 262140 then (prof (formOk n), bytes5 (formOk n) l, 0) else (0, [], 6)
def id5 (f : Nat) (b : UInt8) : Nat := if f = 1 then b.toNat / 16 else b.toNat
def len5 (f : Nat) (b : UInt8) (s : List UInt8) : Nat := if f = 1 then b.toNat % 16 + 1 else (s.headD 0).toNat
def rest5 (f : Nat) (s : List UInt8) : List UInt8 := if f = 1 then s else s.drop 1
def short5 (f : Nat) (b : UInt8) (s : List UInt8) : Prop := (f ≠ 1 ∧ s = []) ∨ (rest5 f s).length < len5 f b s
instance decShort (f : Nat) (b : UInt8) (s : List UInt8) : Decidable (short5 f b s) := by unfold short5; infer_instance
def acc5 (out : List E5) (r : List E5 × Int) : List E5 × Int := if r.2 = 0 then (out ++ r.1, 0) else ([], r.2)
theorem rest5_len (f : Nat) (s : List UInt8) : (rest5 f s).length ≤ s.length := by
  unfold rest5; split
  · exact Nat.le_refl _
  · rw [List.length_drop]; omega
def go5 (f : Nat) (l : List UInt8) : List E5 × Int :=
  match l with
  | [] => ([], 0)
  | b :: s => if b = 0 then (if s.length < 3 ∧ s = zer4 s.length then ([], 0) else ([], 1))
    else if id5 f b = 0 ∨ mostId f < (id5 f b : Int) then ([], 1)
    else if short5 f b s then ([], 2)
    else acc5 [⟨id5 f b, (rest5 f s).take (len5 f b s)⟩] (go5 f ((rest5 f s).drop (len5 f b s)))
termination_by l.length
decreasing_by
  have := rest5_len f s
  simp only [List.length_drop, List.length_cons]
  omega
theorem go5_nil (f : Nat) : go5 f [] = ([], 0) := by rw [go5]
theorem go5_cons (f : Nat) (b : UInt8) (s : List UInt8) : go5 f (b :: s) = if b = 0 then (if s.length < 3 ∧ s = zer4 s.length then ([], 0) else ([], 1))
    else if id5 f b = 0 ∨ mostId f < (id5 f b : Int) then ([], 1)
    else if short5 f b s then ([], 2)
    else acc5 [⟨id5 f b, (rest5 f s).take (len5 f b s)⟩] (go5 f ((rest5 f s).drop (len5 f b s))) := by rw [go5]
def parse5 (p : Int) (s : List UInt8) : Int × List E5 × Int :=
  if formN p = 0 then (0, [], 5) else if s.length % 4 ≠ 0 then (0, [], 1) else if (go5 (formN p) s).2 = 0 then (formN p, (go5 (formN p) s).1, 0) else (0, [], (go5 (formN p) s).2)

theorem acc5_nil (r : List E5 × Int) (h : r.2 ≠ 0 → r.1 = []) : acc5 [] r = r := by
  unfold acc5
  split
  · rename_i h0; rw [← h0]; rfl
  · rename_i h0; rw [← h h0]
theorem acc5_acc (a b : List E5) (r : List E5 × Int) : acc5 a (acc5 b r) = acc5 (a ++ b) r := by
  unfold acc5
  by_cases h : r.2 = 0
  · rw [if_pos h, if_pos rfl, if_pos h, List.append_assoc]
  · rw [if_neg h, if_neg h, if_neg h]
theorem go5_err (f : Nat) (l : List UInt8) : (go5 f l).2 ≠ 0 → (go5 f l).1 = [] := by
  cases l with
  | nil => rw [go5_nil]; intro; rfl
  | cons b s =>
    rw [go5_cons]
    split
    · split <;> (intro; rfl)
    split
    · intro; rfl
    split
    · intro; rfl
    unfold acc5
    split
    · intro h; exact absurd rfl h
    · intro; rfl
theorem go5_codes (f : Nat) : ∀ (n : Nat) (l : List UInt8), l.length ≤ n → (go5 f l).2 = 0 ∨ (go5 f l).2 = 1 ∨ (go5 f l).2 = 2
  | 0, l, h => by
    obtain rfl : l = [] := List.length_eq_zero_iff.1 (by omega)
    rw [go5_nil]; exact .inl rfl
  | n + 1, l, h => by
    cases l with
    | nil => rw [go5_nil]; exact .inl rfl
    | cons b s =>
      rw [go5_cons]
      split
      · split
        · exact .inl rfl
        · exact .inr (.inl rfl)
      split
      · exact .inr (.inl rfl)
      split
      · exact .inr (.inr rfl)
      have h1 := rest5_len f s
      have h2 := go5_codes f n ((rest5 f s).drop (len5 f b s)) (by simp only [List.length_drop, List.length_cons] at h ⊢; omega)
      unfold acc5
      split
      · exact .inl rfl
      · exact h2
theorem byte_id (b : UInt8) : UInt8.ofNat b.toNat = b := UInt8.ofNat_toNat
/-- What an element's bytes are. -/
theorem item5_of (f : Nat) (hf : f = 1 ∨ f = 2) (b : UInt8) (s : List UInt8) (h0 : ¬ (id5 f b = 0 ∨ mostId f < (id5 f b : Int))) (hs : ¬ short5 f b s) :
    may5 f ⟨id5 f b, (rest5 f s).take (len5 f b s)⟩ = true ∧ item5 f ⟨id5 f b, (rest5 f s).take (len5 f b s)⟩ ++ (rest5 f s).drop (len5 f b s) = b :: s := by
  have hb : b.toNat < 256 := b.toNat_lt
  have hl : len5 f b s ≤ (rest5 f s).length := by
    apply Nat.le_of_not_lt
    intro h
    exact hs (.inr h)
  have ht : ((rest5 f s).take (len5 f b s)).length = len5 f b s := by rw [List.length_take]; omega
  have happ := List.take_append_drop (len5 f b s) (rest5 f s)
  rcases hf with rfl | rfl
  · have e1 : id5 1 b = b.toNat / 16 := rfl
    have e2 : len5 1 b s = b.toNat % 16 + 1 := rfl
    have e3 : mostId 1 = 14 := rfl
    have e4 : mostL 1 = 16 := rfl
    have e5 : leastL 1 = 1 := rfl
    have e6 : rest5 1 s = s := rfl
    refine ⟨decide_eq_true ⟨?_, ?_, ?_, ?_⟩, ?_⟩
    · show (1 : Int) ≤ ((id5 1 b : Nat) : Int)
      omega
    · show ((id5 1 b : Nat) : Int) ≤ _
      omega
    · show _ ≤ (((((rest5 1 s).take (len5 1 b s)).length : Nat)) : Int)
      rw [ht]; omega
    · show (((((rest5 1 s).take (len5 1 b s)).length : Nat)) : Int) ≤ _
      rw [ht]; omega
    · unfold item5 head5
      dsimp only
      rw [if_pos rfl, ht, show (16 * ((id5 1 b : Nat) : Int) + ((len5 1 b s : Nat) : Int) - 1) = ((b.toNat : Nat) : Int) by omega, put_byte _ hb, byte_id, List.append_assoc, happ, e6]
      rfl
  · have e1 : id5 2 b = b.toNat := rfl
    have e3 : mostId 2 = 255 := rfl
    have e4 : mostL 2 = 255 := rfl
    have e5 : leastL 2 = 0 := rfl
    cases s with
    | nil => exact absurd (.inl ⟨by decide, rfl⟩) hs
    | cons c s =>
      have e2 : len5 2 b (c :: s) = c.toNat := rfl
      have e6 : rest5 2 (c :: s) = s := rfl
      have hc : c.toNat < 256 := c.toNat_lt
      refine ⟨decide_eq_true ⟨?_, ?_, ?_, ?_⟩, ?_⟩
      · show (1 : Int) ≤ ((id5 2 b : Nat) : Int)
        omega
      · show ((id5 2 b : Nat) : Int) ≤ _
        omega
      · show _ ≤ (((((rest5 2 (c :: s)).take (len5 2 b (c :: s))).length : Nat)) : Int)
        rw [ht]; omega
      · show (((((rest5 2 (c :: s)).take (len5 2 b (c :: s))).length : Nat)) : Int) ≤ _
        rw [ht]; omega
      · unfold item5 head5
        dsimp only
        rw [if_neg (by decide), ht, e1, e2, put_byte _ hb, put_byte _ hc, byte_id, byte_id, ← e2, List.append_assoc, happ, e6]
        rfl
theorem go5_bytes (f : Nat) (hf : f = 1 ∨ f = 2) : ∀ (n : Nat) (s : List UInt8), s.length ≤ n → (go5 f s).2 = 0 → (go5 f s).1.all (may5 f) = true ∧ ∃ k, k ≤ 3 ∧ s = raw5 f (go5 f s).1 ++ zer4 k
  | 0, s, h, _ => by
    obtain rfl : s = [] := List.length_eq_zero_iff.1 (by omega)
    rw [go5_nil]; exact ⟨rfl, 0, by omega, rfl⟩
  | n + 1, s, h, he => by
    cases s with
    | nil => rw [go5_nil]; exact ⟨rfl, 0, by omega, rfl⟩
    | cons b s =>
      rw [go5_cons] at he ⊢
      by_cases hb : b = 0
      · rw [if_pos hb] at he ⊢
        by_cases hz : s.length < 3 ∧ s = zer4 s.length
        · rw [if_pos hz]
          refine ⟨rfl, s.length + 1, by omega, ?_⟩
          rw [hb]
          show _ = zer4 (s.length + 1)
          conv => lhs; rw [hz.2]
          rfl
        · rw [if_neg hz] at he; cases he
      rw [if_neg hb] at he ⊢
      by_cases h0 : id5 f b = 0 ∨ mostId f < (id5 f b : Int)
      · rw [if_pos h0] at he; cases he
      rw [if_neg h0] at he ⊢
      by_cases hs : short5 f b s
      · rw [if_pos hs] at he; cases he
      rw [if_neg hs] at he ⊢
      obtain ⟨m1, m2⟩ := item5_of f hf b s h0 hs
      have hr := rest5_len f s
      have hlen : ((rest5 f s).drop (len5 f b s)).length ≤ n := by simp only [List.length_drop, List.length_cons] at h ⊢; omega
      by_cases hg : (go5 f ((rest5 f s).drop (len5 f b s))).2 = 0
      · obtain ⟨g1, k, g2, g3⟩ := go5_bytes f hf n _ hlen hg
        unfold acc5
        rw [if_pos hg]
        refine ⟨?_, k, g2, ?_⟩
        · rw [List.singleton_append, List.all_cons, m1, g1]; rfl
        · rw [List.singleton_append]
          unfold raw5 at g3 ⊢
          rw [List.flatMap_cons, List.append_assoc, ← g3, m2]
      · unfold acc5 at he
        rw [if_neg hg] at he
        exact absurd he hg
theorem go5_zer (f : Nat) (k : Nat) (h : k ≤ 3) : go5 f (zer4 k) = ([], 0) := by
  cases k with
  | zero => exact go5_nil f
  | succ k =>
    have e : zer4 (k + 1) = 0 :: zer4 k := rfl
    rw [e, go5_cons, if_pos rfl, if_pos ⟨by rw [zer4_len]; omega, by rw [zer4_len]⟩]
theorem may5_iff (f : Nat) (x : E5) : may5 f x = true ↔ (1 ≤ x.id ∧ x.id ≤ mostId f ∧ leastL f ≤ (x.data.length : Int) ∧ (x.data.length : Int) ≤ mostL f) := by unfold may5; rw [decide_eq_true_eq]
theorem go5_item (f : Nat) (hf : f = 1 ∨ f = 2) (x : E5) (hx : may5 f x = true) (r : List UInt8) : go5 f (item5 f x ++ r) = acc5 [x] (go5 f r) := by
  obtain ⟨i, d⟩ := x
  obtain ⟨h1, h2, h3, h4⟩ := (may5_iff f _).1 hx
  dsimp only at h1 h2 h3 h4
  have key : ∀ (b : UInt8) (s : List UInt8), item5 f ⟨i, d⟩ ++ r = b :: s → b ≠ 0 → (id5 f b : Int) = i → len5 f b s = d.length → rest5 f s = d ++ r → ¬ (f ≠ 1 ∧ s = []) → go5 f (item5 f ⟨i, d⟩ ++ r) = acc5 [⟨i, d⟩] (go5 f r) := by
    intro b s e0 e1 e2 e3 e4 e5
    rw [e0, go5_cons, if_neg e1, if_neg (by omega), if_neg (by
      rintro (h | h)
      · exact e5 h
      · rw [e4, e3, List.length_append] at h; omega), e2, e3, e4, List.take_left, List.drop_left]
  rcases hf with rfl | rfl
  · have m1 : mostId 1 = 14 := rfl
    have m2 : mostL 1 = 16 := rfl
    have m3 : leastL 1 = 1 := rfl
    obtain ⟨n, hn⟩ : ∃ n : Nat, 16 * i + d.length - 1 = (n : Int) := ⟨(16 * i + d.length - 1).toNat, by omega⟩
    have hb : (UInt8.ofNat n).toNat = n := by rw [UInt8.toNat_ofNat']; exact Nat.mod_eq_of_lt (by omega)
    refine key (UInt8.ofNat n) (d ++ r) ?_ ?_ ?_ ?_ rfl (fun h => h.1 rfl)
    · unfold item5 head5
      rw [if_pos rfl]
      dsimp only
      rw [hn, put_byte n (by omega)]
      rfl
    · intro h
      rw [h] at hb
      have : (0 : UInt8).toNat = 0 := rfl
      omega
    · show (((UInt8.ofNat n).toNat / 16 : Nat) : Int) = i
      rw [hb]; omega
    · show (UInt8.ofNat n).toNat % 16 + 1 = d.length
      rw [hb]; omega
  · have m1 : mostId 2 = 255 := rfl
    have m2 : mostL 2 = 255 := rfl
    have m3 : leastL 2 = 0 := rfl
    obtain ⟨n, hn⟩ : ∃ n : Nat, i = (n : Int) := ⟨i.toNat, by omega⟩
    have hb : (UInt8.ofNat n).toNat = n := by rw [UInt8.toNat_ofNat']; exact Nat.mod_eq_of_lt (by omega)
    have hc : (UInt8.ofNat d.length).toNat = d.length := by rw [UInt8.toNat_ofNat']; exact Nat.mod_eq_of_lt (by omega)
    refine key (UInt8.ofNat n) (UInt8.ofNat d.length :: (d ++ r)) ?_ ?_ ?_ ?_ rfl (fun h => by cases h.2)
    · unfold item5 head5
      rw [if_neg (by decide)]
      dsimp only
      rw [hn, put_byte n (by omega), put_byte d.length (by omega)]
      rfl
    · intro h
      rw [h] at hb
      have : (0 : UInt8).toNat = 0 := rfl
      omega
    · show (((UInt8.ofNat n).toNat : Nat) : Int) = i
      rw [hb]; omega
    · exact hc
theorem go5_raw (f : Nat) (hf : f = 1 ∨ f = 2) : ∀ (l : List E5), l.all (may5 f) = true → ∀ k, k ≤ 3 → go5 f (raw5 f l ++ zer4 k) = (l, 0)
  | [], _, k, hk => go5_zer f k hk
  | x :: l, h, k, hk => by
    rw [List.all_cons, Bool.and_eq_true] at h
    have e : raw5 f (x :: l) ++ zer4 k = item5 f x ++ (raw5 f l ++ zer4 k) := by
      unfold raw5
      rw [List.flatMap_cons, List.append_assoc]
    rw [e, go5_item f hf x h.1, go5_raw f hf l h.2 k hk]
    rfl
theorem pad5_le (n : Nat) : pad5 n ≤ 3 := by unfold pad5; omega
theorem go5_bytes5 (f : Nat) (hf : f = 1 ∨ f = 2) (l : List E5) (h : l.all (may5 f) = true) : go5 f (bytes5 f l) = (l, 0) := go5_raw f hf l h _ (pad5_le _)
theorem bytes5_mod (f : Nat) (l : List E5) : (bytes5 f l).length % 4 = 0 := by
  unfold bytes5
  rw [List.length_append, zer4_len]
  unfold pad5
  omega
theorem formN_prof (f : Nat) (hf : f = 1 ∨ f = 2) : formN (prof f) = f := by rcases hf with rfl | rfl <;> rfl
theorem formN_12 (p : Int) (h : formN p ≠ 0) : (formN p = 1 ∨ formN p = 2) ∧ prof (formN p) = p ∧ formOk (formN p) = formN p := by
  unfold formN at h ⊢
  by_cases h1 : p = 48862
  · rw [if_pos h1]; exact ⟨.inl rfl, h1.symm, rfl⟩
  · rw [if_neg h1] at h ⊢
    by_cases h2 : p = 4096
    · rw [if_pos h2]; exact ⟨.inr rfl, h2.symm, rfl⟩
    · rw [if_neg h2] at h; exact absurd rfl h
theorem formOk_12 (n : Int) (h : formOk n ≠ 0) : (formOk n = 1 ∨ formOk n = 2) ∧ ((formOk n : Nat) : Int) = n := by
  unfold formOk at h ⊢
  by_cases h1 : n = 1
  · rw [if_pos h1]; exact ⟨.inl rfl, h1.symm⟩
  · rw [if_neg h1] at h ⊢
    by_cases h2 : n = 2
    · rw [if_pos h2]; exact ⟨.inr rfl, h2.symm⟩
    · rw [if_neg h2] at h; exact absurd rfl h
/-- What was written is read again. -/
theorem parse_pack5 (n : Int) (l : List E5) (h : (pack5 n l).2.2 = 0) : parse5 (pack5 n l).1 (pack5 n l).2.1 = (n, l, 0) := by
  unfold pack5 at h ⊢
  by_cases h1 : formOk n = 0
  · rw [if_pos h1] at h; cases h
  rw [if_neg h1] at h ⊢
  by_cases h2 : l.all (may5 (formOk n)) = true ∧ (bytes5 (formOk n) l).length ≤ 262140
  · rw [if_pos h2]
    obtain ⟨q1, q2⟩ := formOk_12 n h1
    unfold parse5
    dsimp only
    rw [formN_prof _ q1, if_neg h1, if_neg (by rw [bytes5_mod]; decide), go5_bytes5 _ q1 l h2.1, if_pos rfl, q2]
  · rw [if_neg h2] at h; cases h
end Go.Proofs.YtkclmofjlmeolaaGreatDoor
namespace Go.Proofs.YtkclmofjlmeolaaGreatDoor
open Go.RowKit
set_option linter.unusedVariables false
set_option linter.unusedSimpArgs false

def hdK5 (f : Nat) : FuncId := if f = 1 then 88 else 90
def rdK (f : Nat) : FuncId := if f = 1 then 89 else 91
abbrev rulesV (f : Nat) : List V := [vi (prof f), vi (mostId f), vi (leastL f), vi (mostL f), vfn (hdK5 f), vfn (rdK f)]
def formsK : List (Value × T) := [(.int .i64 1, .av (.agg (rulesV 1))), (.int .i64 2, .av (.agg (rulesV 2)))]
abbrev e5L (x : E5) : List V := [vi x.id, vs x.data]
def e5El (x : E5) : List V := e5L x
attribute [go_sem] e5El
set_option maxRecDepth 100000 in
set_option maxHeartbeats 8000000 in
theorem exts_forms : Spec Tryz.prog 69 [] [] (.ca (.hd (.mp formsK))) [] := by
  refine spec_of Tryz.func69 rfl Tryz.ntmps69 Tryz.results69 ⟨by decide, by simp⟩ fun C hC => ?_
  (repeat (first | refine sp_ ?_ | exact ex0))
  (refine ret_s [] ?_; simp (decide := true) (disch := omega) only [go_sem, ↓reduceIte, ↓put_at])
  rfl
theorem forms_get {f : Nat} (h : f = 1 ∨ f = 2) : kvGet formsK (.int .i64 f) = some (.av (.agg (rulesV f))) := by
  unfold formsK
  rcases h with rfl | rfl
  · rw [kvGet_cons, if_pos (by rfl)]
  · rw [kvGet_cons, if_neg (by simp), kvGet_cons, if_pos (by rfl)]
theorem forms_none {n : Int} (h : formOk n = 0) : kvGet formsK (.int .i64 n) = none := by
  have h1 : n ≠ 1 := fun e => by subst e; cases h
  have h2 : n ≠ 2 := fun e => by subst e; cases h
  unfold formsK
  rw [kvGet_cons, if_neg (by simp [Ne.symm h1]), kvGet_cons, if_neg (by simp [Ne.symm h2]), kvGet_nil]
theorem forms_keys : keysIs (.int .i64) (formsK.map (·.1)) := ⟨rfl, rfl, trivial⟩
set_option maxRecDepth 100000 in
set_option maxHeartbeats 8000000 in
theorem exts_head1 (x : E5) (hx : may5 1 x = true) (l : List UInt8) (hl : l.length ≤ 1099511627776) : Spec Tryz.prog 88 [.ptr 0 0, .ca (.val (.agg (e5L x)))] [outO l] (.ca (.val (.tup []))) [outO (l ++ head5 1 x)] := by
  obtain ⟨i, d⟩ := x
  obtain ⟨h1, h2, h3, h4⟩ := (may5_iff _ _).1 hx
  have m1 : mostId 1 = 14 := rfl
  have m2 : mostL 1 = 16 := rfl
  have m3 : leastL 1 = 1 := rfl
  dsimp only at h1 h2 h3 h4 ⊢
  have c := out_u8 l [16 * i + (d.length : Int) - 1] (by simp only [List.length_cons, List.length_nil]; omega)
  have e : puts' 1 [16 * i + (d.length : Int) - 1] = head5 1 ⟨i, d⟩ := by simp [puts', head5]
  have b : bits .or .i64 (i * 16) ((d.length : Int) - 1) = 16 * i + (d.length : Int) - 1 := by
    rw [i64_join 4 _ _ (by omega) (by omega) (by omega) (by omega) (by omega) (by omega)]; omega
  rw [e] at c
  refine spec_of Tryz.func88 rfl Tryz.ntmps88 Tryz.results88 ⟨by decide, by simp⟩ fun C hC => ?_
  (repeat (first | refine sp_ ?_ | exact ex0))
  simp only [b]
  refine call_s Tryz.call14 c [(1000, 0)] ?_
  (repeat (first | refine sp_ ?_ | exact ex0))
  (refine ret_s [] ?_; simp (decide := true) (disch := omega) only [go_sem, ↓reduceIte, ↓put_at])
set_option maxRecDepth 100000 in
set_option maxHeartbeats 8000000 in
theorem exts_head2 (x : E5) (hx : may5 2 x = true) (l : List UInt8) (hl : l.length ≤ 1099511627776) : Spec Tryz.prog 90 [.ptr 0 0, .ca (.val (.agg (e5L x)))] [outO l] (.ca (.val (.tup []))) [outO (l ++ head5 2 x)] := by
  obtain ⟨i, d⟩ := x
  have c := out_u8 l [i, (d.length : Int)] (by simp only [List.length_cons, List.length_nil]; omega)
  have e : puts' 1 [i, (d.length : Int)] = head5 2 ⟨i, d⟩ := by simp [puts', head5]
  rw [e] at c
  refine spec_of Tryz.func90 rfl Tryz.ntmps90 Tryz.results90 ⟨by decide, by simp⟩ fun C hC => ?_
  (repeat (first | refine sp_ ?_ | exact ex0))
  refine call_s Tryz.call14 c [(1000, 0)] ?_
  (repeat (first | refine sp_ ?_ | exact ex0))
  (refine ret_s [] ?_; simp (decide := true) (disch := omega) only [go_sem, ↓reduceIte, ↓put_at])
set_option maxRecDepth 100000 in
set_option maxHeartbeats 8000000 in
theorem exts_read1 (l : List UInt8) (e : Int) (b : Nat) (hb : b < 256) : Spec Tryz.prog 89 [.ptr 0 0, .ca (.val (vi b))] [inO l e] (.ca (.val (.tup [vi (b / 16 : Nat), vi (b % 16 + 1 : Nat)]))) [inO l e] := by
  refine spec_of Tryz.func89 rfl Tryz.ntmps89 Tryz.results89 ⟨by decide, by simp⟩ fun C hC => ?_
  (repeat (first | refine sp_ ?_ | exact ex0))
  (refine ret_s [] ?_; simp (decide := true) (disch := omega) only [go_sem, ↓reduceIte, ↓put_at])
  exact ⟨by omega, by omega⟩
set_option maxRecDepth 100000 in
set_option maxHeartbeats 8000000 in
theorem exts_read2 (l : List UInt8) (e : Int) (b : Nat) (hl : l.length ≤ maxLen) : Spec Tryz.prog 91 [.ptr 0 0, .ca (.val (vi b))] [inO l e] (.ca (.val (.tup [vi b, vi (getN (rawT l 1))]))) [inO (rawL l e 1) (rawE l e 1)] := by
  refine spec_of Tryz.func91 rfl Tryz.ntmps91 Tryz.results91 ⟨by decide, by simp⟩ fun C hC => ?_
  (repeat (first | refine sp_ ?_ | exact ex0))
  refine call_s Tryz.call48 (in_u8 l e hl) [(1000, 0)] ?_
  (repeat (first | refine sp_ ?_ | exact ex0))
  (refine ret_s [] ?_; simp (decide := true) (disch := omega) only [go_sem, ↓reduceIte, ↓put_at])
theorem hdK_call {f : Nat} (hf : f = 1 ∨ f = 2) : ∀ (args : Array Value) (w : World), (callFunc (hdK5 f) args).run Tryz.prog w = .ok (.enter (hdK5 f) args) w := by
  rcases hf with rfl | rfl
  · exact Tryz.call88
  · exact Tryz.call90
theorem rdK_call {f : Nat} (hf : f = 1 ∨ f = 2) : ∀ (args : Array Value) (w : World), (callFunc (rdK f) args).run Tryz.prog w = .ok (.enter (rdK f) args) w := by
  rcases hf with rfl | rfl
  · exact Tryz.call89
  · exact Tryz.call91
theorem exts_head (f : Nat) (hf : f = 1 ∨ f = 2) (x : E5) (hx : may5 f x = true) (l : List UInt8) (hl : l.length ≤ 1099511627776) : Spec Tryz.prog (hdK5 f) [.ptr 0 0, .ca (.val (.agg (e5L x)))] [outO l] (.ca (.val (.tup []))) [outO (l ++ head5 f x)] := by
  rcases hf with rfl | rfl
  · exact exts_head1 x hx l hl
  · exact exts_head2 x hx l hl
def eof5 (f : Nat) (t : List UInt8) : Int := if f ≠ 1 ∧ t = [] then 2 else 0
theorem exts_read (f : Nat) (hf : f = 1 ∨ f = 2) (b : UInt8) (t : List UInt8) (hl : t.length ≤ maxLen) : Spec Tryz.prog (rdK f) [.ptr 0 0, .ca (.val (vi b.toNat))] [inO t 0] (.ca (.val (.tup [vi (id5 f b), vi (len5 f b t)]))) [inO (rest5 f t) (eof5 f t)] := by
  rcases hf with rfl | rfl
  · exact exts_read1 t 0 b.toNat b.toNat_lt
  · have h := exts_read2 t 0 b.toNat hl
    have e1 : getN (rawT t 1) = len5 2 b t := by
      cases t with
      | nil => rfl
      | cons c t =>
        have : rawT (c :: t) 1 = [c] := by unfold rawT; rw [if_pos (by simp only [List.length_cons]; omega)]; rfl
        rw [this]
        simp [getN, len5]
    have e2 : rawL t 0 1 = rest5 2 t := by
      cases t with
      | nil => rfl
      | cons c t => unfold rawL; rw [if_pos (by simp only [List.length_cons]; omega)]; rfl
    have e3 : rawE t 0 1 = eof5 2 t := by
      cases t with
      | nil => rfl
      | cons c t => unfold rawE eof5; rw [if_pos (by simp only [List.length_cons]; omega), if_neg (fun h => by cases h.2)]
    rw [e1, e2, e3] at h
    exact h
set_option maxRecDepth 100000 in
set_option maxHeartbeats 8000000 in
theorem exts_blank (s : List UInt8) (hl : s.length ≤ maxLen) : Spec Tryz.prog 105 [.ca (.val (vs s))] [] (.ca (.val (vb (decide (s = zer4 s.length))))) [] := by
  have h := trim_nil s
  have c := trim0 s hl
  generalize Lib.trimB s 0 = t at *
  have hb : (t == []) = decide (s = zer4 s.length) := by
    have h' : t = [] ↔ s = zer4 s.length := h
    by_cases g : t = []
    · rw [decide_eq_true (h'.1 g), g]; rfl
    · rw [decide_eq_false (fun k => g (h'.2 k))]; simpa using g
  refine spec_of Tryz.func105 rfl Tryz.ntmps105 Tryz.results105 ⟨by decide, by simp⟩ fun C hC => ?_
  (repeat (first | refine sp_ ?_ | exact ex0))
  refine call_s Tryz.call80 c [] ?_
  (repeat (first | refine sp_ ?_ | exact ex0))
  simp only [hb]
  (repeat (first | refine sp_ ?_ | exact ex0))
  (refine ret_s [] ?_; simp (decide := true) (disch := omega) only [go_sem, ↓reduceIte, ↓put_at])
set_option maxRecDepth 100000 in
set_option maxHeartbeats 8000000 in
theorem exts_may (f : Nat) (x : E5) (hf : f = 1 ∨ f = 2) (hl : x.data.length ≤ maxLen) : Spec Tryz.prog 70 [.ca (.val (.agg (rulesV f))), .ca (.val (.agg (e5L x)))] [] (.ca (.val (vb (may5 f x)))) [] := by
  obtain ⟨i, d⟩ := x
  unfold maxLen at hl
  obtain ⟨M, hM⟩ : ∃ M, M = may5 f ⟨i, d⟩ := ⟨_, rfl⟩
  rw [← hM]
  unfold may5 at hM
  have hb : 0 ≤ mostId f ∧ mostId f ≤ 255 ∧ 0 ≤ leastL f ∧ leastL f ≤ 1 ∧ 0 ≤ mostL f ∧ mostL f ≤ 255 := by
    rcases hf with rfl | rfl <;> decide
  dsimp only at hM hl ⊢
  dsimp only [rulesV]
  generalize mostId f = A at *
  generalize leastL f = B at *
  generalize mostL f = D at *
  generalize prof f = G at *
  by_cases g1 : 1 ≤ i
  · by_cases g2 : i ≤ A
    · by_cases g3 : B ≤ (d.length : Int)
      · by_cases g4 : (d.length : Int) ≤ D
        · rw [decide_eq_true ⟨g1, g2, g3, g4⟩] at hM
          subst hM
          refine spec_of Tryz.func70 rfl Tryz.ntmps70 Tryz.results70 ⟨by decide, by simp⟩ fun C hC => ?_
          (repeat (first | refine sp_ ?_ | exact ex0))
          (refine ret_s [] ?_; simp (decide := true) (disch := omega) only [go_sem, ↓reduceIte, ↓put_at])
        · rw [decide_eq_false (fun h => g4 h.2.2.2)] at hM
          subst hM
          refine spec_of Tryz.func70 rfl Tryz.ntmps70 Tryz.results70 ⟨by decide, by simp⟩ fun C hC => ?_
          (repeat (first | refine sp_ ?_ | exact ex0))
          (refine ret_s [] ?_; simp (decide := true) (disch := omega) only [go_sem, ↓reduceIte, ↓put_at])
      · rw [decide_eq_false (fun h => g3 h.2.2.1)] at hM
        subst hM
        refine spec_of Tryz.func70 rfl Tryz.ntmps70 Tryz.results70 ⟨by decide, by simp⟩ fun C hC => ?_
        (repeat (first | refine sp_ ?_ | exact ex0))
        (refine ret_s [] ?_; simp (decide := true) (disch := omega) only [go_sem, ↓reduceIte, ↓put_at])
    · rw [decide_eq_false (fun h => g2 h.2.1)] at hM
      subst hM
      refine spec_of Tryz.func70 rfl Tryz.ntmps70 Tryz.results70 ⟨by decide, by simp⟩ fun C hC => ?_
      (repeat (first | refine sp_ ?_ | exact ex0))
      (refine ret_s [] ?_; simp (decide := true) (disch := omega) only [go_sem, ↓reduceIte, ↓put_at])
  · rw [decide_eq_false (fun h => g1 h.1)] at hM
    subst hM
    refine spec_of Tryz.func70 rfl Tryz.ntmps70 Tryz.results70 ⟨by decide, by simp⟩ fun C hC => ?_
    (repeat (first | refine sp_ ?_ | exact ex0))
    (refine ret_s [] ?_; simp (decide := true) (disch := omega) only [go_sem, ↓reduceIte, ↓put_at])
set_option maxRecDepth 100000 in
set_option maxHeartbeats 8000000 in
theorem exts_formOf (p : Int) : Spec Tryz.prog 104 [.ca (.val (vi p))] [] (.ca (.val (vi (formN p)))) [] := by
  refine spec_of Tryz.func104 rfl Tryz.ntmps104 Tryz.results104 ⟨by decide, by simp⟩ fun C hC => ?_
  (repeat (first | refine sp_ ?_ | exact ex0))
  refine call_s Tryz.call69 exts_forms [] ?_
  (repeat (first | refine sp_ ?_ | exact ex0))
  refine loop_s (α := {s : List Nat // s.Nodup ∧ ∀ i ∈ s, i < 2 ∧ prof (i + 1) ≠ p}) (fun s => [(.s 0, .av (.val (vi p))), (.s 6, .av (.ptr (6, 0) 0 0)), (.o (6, 0), .itr (5, 1) 0 s.1), (.r (5, 1), .tree (.mp formsK))]) (fun s => 2 - s.1.length) ⟨[], by simp⟩ ?_ (fun s => ?_)
  · simp (decide := true) (disch := omega) only [go_sem, ↓reduceIte, ↓put_at]
  · obtain ⟨s, hn, hs⟩ := s
    dsimp only at hn hs ⊢
    (repeat (first | refine sp_ ?_ | exact ex0))
    refine nxt_s (6, 0) (5, 1) s formsK (by simp (decide := true) (disch := omega) only [go_sem, ↓reduceIte, ↓put_at]) (fun i q hq hi => ?_) (fun hall => ?_)
    · have hi2 : i < 2 := (List.getElem?_eq_some_iff.1 hq).1
      have hnew := nodup_len 2 (s ++ [i]) (nodup_snoc hn hi) (fun j hj => by
        rcases List.mem_append.1 hj with hj | hj
        · exact (hs j hj).1
        · simp at hj; omega)
      rw [List.length_append, List.length_singleton] at hnew
      have hlast : (s ++ [i]).getLast? = some i := by simp
      obtain ⟨f, hf, hfi, rfl⟩ : ∃ f : Nat, (f = 1 ∨ f = 2) ∧ i + 1 = f ∧ q = (.int .i64 f, .av (.agg (rulesV f))) := by
        rcases (show i = 0 ∨ i = 1 by omega) with rfl | rfl
        · exact ⟨1, .inl rfl, rfl, by simpa [formsK] using hq.symm⟩
        · exact ⟨2, .inr rfl, rfl, by simpa [formsK] using hq.symm⟩
      have e1 : (formsK.map (·.1)).getD i undef = .int .i64 f := by simp [List.getD_eq_getElem?_getD, hq]
      have e2 : (formsK.map (·.2))[i]? = some (.av (.agg (rulesV f))) := by simp [hq]
      simp (decide := true) (disch := omega) only [go_sem, ↓reduceIte, ↓put_at]
      (repeat (first | refine sp_ ?_ | exact ex0))
      simp only [hlast, e1, e2]
      by_cases hp : prof f = p
      · have hfn : formN p = f := by
          rw [← hp]
          exact formN_prof f hf
        rw [hfn]
        (repeat (first | refine sp_ ?_ | exact ex0))
        (refine ret_s [] ?_; simp (decide := true) (disch := omega) only [go_sem, ↓reduceIte, ↓put_at])
      · (repeat (first | refine sp_ ?_ | exact ex0))
        refine next_s ⟨s ++ [i], nodup_snoc hn hi, fun j hj => ?_⟩ ⟨?_, by dsimp only; rw [List.length_append, List.length_singleton]; omega⟩
        · rcases List.mem_append.1 hj with hj | hj
          · exact hs j hj
          · simp at hj
            subst hj
            rw [hfi]
            exact ⟨hi2, hp⟩
        · simp (decide := true) (disch := omega) only [go_sem, ↓reduceIte, ↓put_at]
    · have h0 := hs 0 (hall 0 (by decide))
      have h1 := hs 1 (hall 1 (by decide))
      have hp : formN p = 0 := by
        unfold formN
        rw [if_neg (fun e => h0.2 e.symm), if_neg (fun e => h1.2 e.symm)]
      rw [hp]
      simp (decide := true) (disch := omega) only [go_sem, ↓reduceIte, ↓put_at]
      (repeat (first | refine sp_ ?_ | exact ex0))
      (refine ret_s [] ?_; simp (decide := true) (disch := omega) only [go_sem, ↓reduceIte, ↓put_at])
end Go.Proofs.YtkclmofjlmeolaaGreatDoor
namespace Go.Proofs.YtkclmofjlmeolaaGreatDoor
open Go.RowKit
set_option linter.unusedVariables false
set_option linter.unusedSimpArgs false

theorem raw5_snoc (f : Nat) (l : List E5) (x : E5) : raw5 f (l ++ [x]) = raw5 f l ++ item5 f x := by unfold raw5; simp
theorem raw5_app (f : Nat) (l m : List E5) : raw5 f (l ++ m) = raw5 f l ++ raw5 f m := by unfold raw5; simp
theorem raw5_take (f : Nat) (l : List E5) (j : Nat) : (raw5 f (l.take j)).length ≤ (raw5 f l).length := by
  have h := congrArg (fun l => (raw5 f l).length) (List.take_append_drop j l)
  simp only [raw5_app, List.length_append] at h
  omega
theorem raw5_data (f : Nat) (l : List E5) (x : E5) (h : x ∈ l) : x.data.length ≤ (raw5 f l).length := by
  obtain ⟨a, b, rfl⟩ := List.append_of_mem h
  rw [raw5_app, List.length_append]
  unfold raw5
  rw [List.flatMap_cons, List.length_append]
  unfold item5
  rw [List.length_append]
  omega
theorem all_snoc (f : Nat) (l : List E5) (j : Nat) (hj : j < l.length) (h : (l.take j).all (may5 f) = true) (hx : may5 f l[j] = true) : (l.take (j + 1)).all (may5 f) = true := by
  rw [List.take_succ_eq_append_getElem hj, List.all_append, h]
  simp [hx]
theorem all_bad (f : Nat) (l : List E5) (j : Nat) (hj : j < l.length) (hx : may5 f l[j] = false) : l.all (may5 f) = false := by
  rw [List.all_eq_false]
  exact ⟨l[j], List.getElem_mem hj, by rw [hx]; decide⟩
set_option maxRecDepth 100000 in
set_option maxHeartbeats 4000000 in
theorem exts_pack (n : Int) (l : List E5) (hl : l.length ≤ maxLen) (hr : (raw5 (formOk n) l).length ≤ 1000000000) : Spec Tryz.prog 37 [.ca (.val (vi n)), .ca (.val (.lst 2 (l.map e5El)))] [] (.ca (.val (.tup [vi (pack5 n l).1, vs (pack5 n l).2.1, vi (pack5 n l).2.2]))) [] := by
  have hkeys := forms_keys
  unfold maxLen at hl
  by_cases h0 : formOk n = 0
  · have e : pack5 n l = (0, [], 5) := by unfold pack5; rw [if_pos h0]
    have hg := forms_none h0
    rw [e]
    refine spec_of Tryz.func37 rfl Tryz.ntmps37 Tryz.results37 ⟨by decide, by simp⟩ fun C hC => ?_
    (repeat (first | refine sp_ ?_ | exact ex0))
    refine call_s Tryz.call69 exts_forms [] ?_
    (repeat (first | refine sp_ ?_ | exact ex0))
    simp only [hg, Option.isSome_none]
    (repeat (first | refine sp_ ?_ | exact ex0))
    (refine ret_s [] ?_; simp (decide := true) (disch := omega) only [go_sem, ↓reduceIte, ↓put_at])
  obtain ⟨hf, hfn⟩ := formOk_12 n h0
  obtain ⟨R, hR⟩ : ∃ R, R = pack5 n l := ⟨_, rfl⟩
  rw [← hR]
  unfold pack5 at hR
  rw [if_neg h0] at hR
  generalize formOk n = f at *
  subst hfn
  have hg := forms_get hf
  have hbad : ∀ j, (hj : j < l.length) → may5 f l[j] = false → R = (0, [], 6) := fun j hj hx => by
    rw [hR, all_bad f l j hj hx, if_neg (by rintro ⟨h, _⟩; cases h)]
  refine spec_of Tryz.func37 rfl Tryz.ntmps37 Tryz.results37 ⟨by decide, by simp⟩ fun C hC => ?_
  (repeat (first | refine sp_ ?_ | exact ex0))
  refine call_s Tryz.call69 exts_forms [] ?_
  (repeat (first | refine sp_ ?_ | exact ex0))
  simp only [hg, Option.isSome_some]
  (repeat ((fail_if_success (refine stop_reg 6 ?_)); (first | refine sp_ ?_ | exact ex0)))
  refine own_c (9, 0) 0 (9, 1) 5 1 ?_
  simp (decide := true) (disch := omega) only [go_sem, ↓reduceIte, ↓put_at]
  refine loop_s (α := {j : Nat // j ≤ l.length ∧ (l.take j).all (may5 f) = true}) (fun j => [(.s 0, .av (.val (vi f))), (.s 7, .av (.ptr (7, 0) 0 0)), (.o (7, 0), .num 6), (.c (7, 0) 0, .av (.val (vi (prof f)))), (.c (7, 0) 1, .av (.val (vi (mostId f)))), (.c (7, 0) 2, .av (.val (vi (leastL f)))), (.c (7, 0) 3, .av (.val (vi (mostL f)))), (.c (7, 0) 4, .av (.val (vfn (hdK5 f)))), (.c (7, 0) 5, .av (.val (vfn (rdK f)))), (.s 9, .av (.ptr (9, 0) 0 0)), (.o (9, 0), .num 1), (.c (9, 0) 0, .av (.own (9, 1) 0 5 1 ((raw5 f (l.take j.1)).map byteEl))), (.k (9, 1), .row 5 1 ((raw5 f (l.take j.1)).map byteEl).length), (.s 20, .av (.val (.lst 2 (l.map e5El)))), (.s 21, .av (.val (vi l.length))), (.s 22, .av (.val (vi j.1)))]) (fun j => l.length - j.1) ⟨0, Nat.zero_le _, rfl⟩ ?_ (fun j => ?_)
  · simp only [List.take_zero, raw5, List.flatMap_nil]
    simp (decide := true) (disch := omega) only [go_sem, ↓reduceIte, ↓put_at]
  · obtain ⟨j, hj, ha⟩ := j
    dsimp only at hj ha ⊢
    have hrj := raw5_take f l j
    by_cases hlt : j < l.length
    · have hs : l.take (j + 1) = l.take j ++ [l[j]] := List.take_succ_eq_append_getElem hlt
      have hrj1 := raw5_take f l (j + 1)
      have hdl := raw5_data f l l[j] (List.getElem_mem hlt)
      have hsn := raw5_snoc f (l.take j) l[j]
      rw [← hs] at hsn
      have c1 := exts_may f l[j] hf (by unfold maxLen; omega)
      cases hm : may5 f l[j] with
      | false =>
        rw [hm] at c1
        rw [hbad j hlt hm]
        (repeat (first | refine sp_ ?_ | exact ex0))
        refine call_s Tryz.call70 c1 [] ?_
        (repeat (first | refine sp_ ?_ | exact ex0))
        (refine ret_s [] ?_; simp (decide := true) (disch := omega) only [go_sem, ↓reduceIte, ↓put_at])
      | true =>
        rw [hm] at c1
        have hal := all_snoc f l j hlt ha hm
        rw [hsn] at hrj1
        have c2 := exts_head f hf l[j] hm (raw5 f (l.take j)) (by omega)
        have c3 := out_raw (raw5 f (l.take j) ++ head5 f l[j]) [l[j].data] (by
          simp only [List.flatten_cons, List.flatten_nil, List.append_nil]
          unfold item5 at hrj1
          simp only [List.length_append] at hrj1 ⊢
          omega) (by simp)
        have e3 : (raw5 f (l.take j) ++ head5 f l[j]) ++ [l[j].data].flatten = raw5 f (l.take (j + 1)) := by rw [hsn]; simp [item5]
        rw [e3] at c3
        (repeat (first | refine sp_ ?_ | exact ex0))
        refine call_s Tryz.call70 c1 [] ?_
        (repeat (first | refine sp_ ?_ | exact ex0))
        refine fcall_s (hdK_call hf) c2 [(9, 0)] [] ?_
        (repeat (first | refine sp_ ?_ | exact ex0))
        refine call_s Tryz.call46 c3 [(9, 0)] ?_
        (repeat (first | refine sp_ ?_ | exact ex0))
        refine next_s ⟨j + 1, hlt, hal⟩ ⟨?_, by dsimp only; omega⟩
        simp (decide := true) (disch := omega) only [go_sem, ↓reduceIte, ↓put_at]
    · have hjl : l.take j = l := List.take_of_length_le (by omega)
      have ha2 : l.all (may5 f) = true := hjl ▸ ha
      simp only [hjl]
      obtain ⟨B, hB⟩ : ∃ B, B = raw5 f l := ⟨_, rfl⟩
      rw [← hB] at hr ⊢
      have c1 := out_bytes B (by omega)
      have c2 := rep04 (pad5 B.length) (by have := pad5_le B.length; omega)
      have ep : (4 - (B.length : Int) % 4) % 4 = (pad5 B.length : Int) := by unfold pad5; omega
      have hz := zer4_len (pad5 B.length)
      have hpl := pad5_le B.length
      unfold bytes5 at hR
      rw [← hB] at hR
      have hbl : (B ++ zer4 (pad5 B.length)).length = B.length + pad5 B.length := by rw [List.length_append, hz]
      rw [ha2, hbl] at hR
      by_cases hm : B.length + pad5 B.length ≤ 262140
      · rw [if_pos ⟨rfl, hm⟩] at hR
        subst hR
        (repeat (first | refine sp_ ?_ | exact ex0))
        refine call_s Tryz.call18 c1 [(9, 0)] ?_
        (repeat (first | refine sp_ ?_ | exact ex0))
        simp only [ep]
        refine call_s Tryz.call43 c2 [] ?_
        (repeat (first | refine sp_ ?_ | exact ex0))
        (refine ret_s [] ?_; simp (decide := true) (disch := omega) only [go_sem, ↓reduceIte, ↓put_at])
      · rw [if_neg (fun h => hm h.2)] at hR
        subst hR
        (repeat (first | refine sp_ ?_ | exact ex0))
        refine call_s Tryz.call18 c1 [(9, 0)] ?_
        (repeat (first | refine sp_ ?_ | exact ex0))
        simp only [ep]
        refine call_s Tryz.call43 c2 [] ?_
        (repeat (first | refine sp_ ?_ | exact ex0))
        (refine ret_s [] ?_; simp (decide := true) (disch := omega) only [go_sem, ↓reduceIte, ↓put_at])
end Go.Proofs.YtkclmofjlmeolaaGreatDoor
namespace Go.Proofs.YtkclmofjlmeolaaGreatDoor
open Go.RowKit
set_option linter.unusedVariables false
set_option linter.unusedSimpArgs false

/-- What is left, whether it failed, and what was read. -/
def Inv5 (f : Nat) (s : List UInt8) (x : (List UInt8 × Int) × List E5) : Prop := ((x.1.2 = 0 ∧ go5 f s = acc5 x.2 (go5 f x.1.1)) ∨ (x.1.1 = [] ∧ x.1.2 = 2 ∧ go5 f s = ([], 2))) ∧ x.1.1.length + x.2.length ≤ s.length
theorem inv5_step (f : Nat) (s : List UInt8) (b : UInt8) (t : List UInt8) (out : List E5) (h : go5 f s = acc5 out (go5 f (b :: t))) (hl : (b :: t).length + out.length ≤ s.length) (hb : b ≠ 0) (hi : ¬ (id5 f b = 0 ∨ mostId f < (id5 f b : Int))) :
    Inv5 f s ((rawL (rest5 f t) (eof5 f t) (len5 f b t), rawE (rest5 f t) (eof5 f t) (len5 f b t)), out ++ [⟨id5 f b, rawT (rest5 f t) (len5 f b t)⟩]) ∧ (rawL (rest5 f t) (eof5 f t) (len5 f b t)).length < (b :: t).length := by
  have hr := rest5_len f t
  rw [go5_cons, if_neg hb, if_neg hi] at h
  rw [List.length_cons] at hl ⊢
  by_cases hs : short5 f b t
  · rw [if_pos hs] at h
    have hg : go5 f s = ([], 2) := by rw [h]; rfl
    have key : rawL (rest5 f t) (eof5 f t) (len5 f b t) = [] ∧ rawE (rest5 f t) (eof5 f t) (len5 f b t) = 2 := by
      rcases hs with ⟨h1, h2⟩ | h1
      · subst h2
        have e1 : rest5 f [] = [] := by unfold rest5; rw [if_neg h1]; rfl
        have e2 : len5 f b [] = 0 := by unfold len5; rw [if_neg h1]; rfl
        have e3 : eof5 f [] = 2 := by unfold eof5; rw [if_pos ⟨h1, rfl⟩]
        rw [e1, e2, e3]
        exact ⟨rfl, rfl⟩
      · by_cases h2 : f ≠ 1 ∧ t = []
        · obtain ⟨h2, rfl⟩ := h2
          have e2 : len5 f b [] = 0 := by unfold len5; rw [if_neg h2]; rfl
          rw [e2] at h1
          exact absurd h1 (by omega)
        · have e3 : eof5 f t = 0 := by unfold eof5; rw [if_neg h2]
          have hn : ¬ ((len5 f b t : Int) ≤ ((rest5 f t).length : Int)) := by omega
          rw [e3]
          unfold rawL rawE failL failE
          rw [if_neg hn, if_neg hn]
          exact ⟨rfl, rfl⟩
    rw [key.1, key.2]
    exact ⟨⟨.inr ⟨rfl, rfl, hg⟩, by simp; omega⟩, by simp⟩
  · rw [if_neg hs] at h
    have hle : (len5 f b t : Int) ≤ ((rest5 f t).length : Int) := by
      apply Int.ofNat_le.2
      exact Nat.le_of_not_lt (fun h => hs (.inr h))
    have e3 : eof5 f t = 0 := by unfold eof5; rw [if_neg (fun h => hs (.inl h))]
    have e1 : rawL (rest5 f t) 0 (len5 f b t) = (rest5 f t).drop (len5 f b t) := by unfold rawL; rw [if_pos hle]; rfl
    have e2 : rawE (rest5 f t) 0 (len5 f b t) = 0 := by unfold rawE; rw [if_pos hle]
    have e4 : rawT (rest5 f t) (len5 f b t) = (rest5 f t).take (len5 f b t) := by unfold rawT; rw [if_pos hle]; rfl
    rw [e3, e1, e2, e4]
    refine ⟨⟨.inl ⟨rfl, ?_⟩, ?_⟩, ?_⟩
    · dsimp only
      rw [h, acc5_acc]
    · dsimp only
      rw [List.length_drop, List.length_append, List.length_singleton]; omega
    · rw [List.length_drop]; omega
set_option maxRecDepth 100000 in
set_option maxHeartbeats 4000000 in
theorem exts_parse (p : Int) (s : List UInt8) (hl : s.length ≤ 1000000) : Spec Tryz.prog 81 [.ca (.val (vi p)), .ca (.val (vs s))] [] (.ca (.val (.tup [vi (parse5 p s).1, .lst 2 ((parse5 p s).2.1.map e5El), vi (parse5 p s).2.2]))) [] := by
  have hkeys := forms_keys
  have c0 := exts_formOf p
  obtain ⟨R, hR⟩ : ∃ R, R = parse5 p s := ⟨_, rfl⟩
  rw [← hR]
  unfold parse5 at hR
  by_cases h0 : formN p = 0
  · rw [if_pos h0] at hR
    rw [h0] at c0
    subst hR
    refine spec_of Tryz.func81 rfl Tryz.ntmps81 Tryz.results81 ⟨by decide, by simp⟩ fun C hC => ?_
    (repeat (first | refine sp_ ?_ | exact ex0))
    refine call_s Tryz.call104 c0 [] ?_
    (repeat (first | refine sp_ ?_ | exact ex0))
    (refine ret_s [] ?_; simp (decide := true) (disch := omega) only [go_sem, ↓reduceIte, ↓put_at])
  rw [if_neg h0] at hR
  obtain ⟨hf, _, _⟩ := formN_12 p h0
  generalize formN p = f at *
  have hf12 : (f : Int) = 1 ∨ (f : Int) = 2 := by omega
  by_cases h4 : s.length % 4 ≠ 0
  · rw [if_pos h4] at hR
    have h4' : (s.length : Int) % 4 ≠ 0 := by omega
    subst hR
    refine spec_of Tryz.func81 rfl Tryz.ntmps81 Tryz.results81 ⟨by decide, by simp⟩ fun C hC => ?_
    (repeat (first | refine sp_ ?_ | exact ex0))
    refine call_s Tryz.call104 c0 [] ?_
    (repeat (first | refine sp_ ?_ | exact ex0))
    (refine ret_s [] ?_; simp (decide := true) (disch := omega) only [go_sem, ↓reduceIte, ↓put_at])
  rw [if_neg h4] at hR
  have h4' : (s.length : Int) % 4 = 0 := by omega
  have hg := forms_get hf
  have hmi : 0 ≤ mostId f ∧ mostId f ≤ 255 := by rcases hf with rfl | rfl <;> decide
  refine spec_of Tryz.func81 rfl Tryz.ntmps81 Tryz.results81 ⟨by decide, by simp⟩ fun C hC => ?_
  (repeat (first | refine sp_ ?_ | exact ex0))
  refine call_s Tryz.call104 c0 [] ?_
  (repeat (first | refine sp_ ?_ | exact ex0))
  refine call_s Tryz.call69 exts_forms [] ?_
  (repeat (first | refine sp_ ?_ | exact ex0))
  simp only [hg]
  (repeat (first | refine sp_ ?_ | exact ex0))
  refine call_s Tryz.call47 (pen_of s) [] ?_
  (repeat ((fail_if_success (refine stop_reg 9 ?_)); (first | refine sp_ ?_ | exact ex0)))
  refine own_s 9 (9, 0) 71 2 ?_
  simp (decide := true) (disch := omega) only [go_sem, ↓reduceIte, ↓put_at]
  refine loop_s (α := {x : (List UInt8 × Int) × List E5 // Inv5 f s x}) (fun x => [(.s 7, .av (.val (vi f))), (.s 8, .av (.ptr (8, 0) 0 0)), (.o (8, 0), .num 6), (.c (8, 0) 0, .av (.val (vi (prof f)))), (.c (8, 0) 1, .av (.val (vi (mostId f)))), (.c (8, 0) 2, .av (.val (vi (leastL f)))), (.c (8, 0) 3, .av (.val (vi (mostL f)))), (.c (8, 0) 4, .av (.val (vfn (hdK5 f)))), (.c (8, 0) 5, .av (.val (vfn (rdK f)))), (.s 9, .av (.own (9, 0) 0 71 2 (x.1.2.map e5El))), (.k (9, 0), .row 71 2 (x.1.2.map e5El).length), (.s 10, .av (.ptr (28, 0) 0 0)), (.o (28, 0), .num 2), (.c (28, 0) 0, .av (.val (vs x.1.1.1))), (.c (28, 0) 1, .av (.val (vi x.1.1.2)))]) (fun x => x.1.1.1.length) ⟨((s, 0), []), .inl ⟨rfl, by rw [acc5_nil _ (go5_err f s)]⟩, Nat.le_refl _⟩ ?_ (fun x => ?_)
  · simp (decide := true) (disch := omega) only [go_sem, ↓reduceIte, ↓put_at]
  · obtain ⟨⟨⟨l, e⟩, out⟩, hinv, hll⟩ := x
    dsimp only at hinv hll ⊢
    cases l with
    | nil =>
      have c1 := in_left [] e
      have c2 := in_err [] e
      have he : (e = 0 ∧ R = ((f : Int), out, 0)) ∨ (e = 2 ∧ R = (0, [], 2)) := by
        rcases hinv with ⟨h1, h2⟩ | ⟨_, h1, h2⟩
        · left
          rw [go5_nil] at h2
          have h3 : go5 f s = (out, 0) := by rw [h2]; simp [acc5]
          rw [h3, if_pos rfl] at hR
          exact ⟨h1, hR⟩
        · right
          rw [h2, if_neg (by decide)] at hR
          exact ⟨h1, hR⟩
      rcases he with ⟨rfl, hR2⟩ | ⟨rfl, hR2⟩
      · rw [hR2]
        (repeat (first | refine sp_ ?_ | exact ex0))
        refine call_s Tryz.call52 c1 [(28, 0)] ?_
        (repeat (first | refine sp_ ?_ | exact ex0))
        refine call_s Tryz.call53 c2 [(28, 0)] ?_
        (repeat (first | refine sp_ ?_ | exact ex0))
        (refine ret_s [] ?_; simp (decide := true) (disch := omega) only [go_sem, ↓reduceIte, ↓put_at])
      · rw [hR2]
        (repeat (first | refine sp_ ?_ | exact ex0))
        refine call_s Tryz.call52 c1 [(28, 0)] ?_
        (repeat (first | refine sp_ ?_ | exact ex0))
        refine call_s Tryz.call53 c2 [(28, 0)] ?_
        (repeat (first | refine sp_ ?_ | exact ex0))
        (refine ret_s [] ?_; simp (decide := true) (disch := omega) only [go_sem, ↓reduceIte, ↓put_at])
    | cons b t =>
      obtain ⟨rfl, hgo⟩ : e = 0 ∧ go5 f s = acc5 out (go5 f (b :: t)) := by
        rcases hinv with h | ⟨h, _⟩
        · exact h
        · cases h
      have hbt : b.toNat < 256 := b.toNat_lt
      rw [List.length_cons] at hll
      have c1 := in_left (b :: t) 0
      have c2 := in_u8 (b :: t) 0 (by rw [List.length_cons]; unfold maxLen; omega)
      have e1 : rawT (b :: t) 1 = [b] := by unfold rawT; rw [if_pos (by simp only [List.length_cons]; omega)]; rfl
      have e2 : rawL (b :: t) 0 1 = t := by unfold rawL; rw [if_pos (by simp only [List.length_cons]; omega)]; rfl
      have e3 : rawE (b :: t) 0 1 = 0 := by unfold rawE; rw [if_pos (by simp only [List.length_cons]; omega)]
      have e4 : getN [b] = b.toNat := by simp [getN]
      rw [e1, e2, e3, e4] at c2
      rw [List.length_cons] at c1
      by_cases hb : b = 0
      · subst hb
        have e5 : ((0 : UInt8).toNat : Int) = 0 := rfl
        rw [e5] at c2
        rw [go5_cons, if_pos rfl] at hgo
        by_cases hz : t.length < 3 ∧ t = zer4 t.length
        · have hgo2 : go5 f s = (out, 0) := by rw [hgo, if_pos hz]; simp [acc5]
          rw [hgo2, if_pos rfl] at hR
          have d1 := in_left t 0
          have d2 := in_raw t 0 t.length (by unfold maxLen; omega) (by unfold maxLen; omega)
          have t1 : rawT t t.length = t := by unfold rawT; rw [if_pos (by omega), Int.toNat_natCast, List.take_length]
          have t2 : rawL t 0 t.length = [] := by unfold rawL; rw [if_pos (by omega), Int.toNat_natCast, List.drop_length]
          have t3 : rawE t 0 t.length = 0 := by unfold rawE; rw [if_pos (by omega)]
          rw [t1, t2, t3] at d2
          have d3 := exts_blank t (by unfold maxLen; omega)
          rw [decide_eq_true hz.2] at d3
          have d4 := in_err [] 0
          have hz3 := hz.1
          subst hR
          (repeat (first | refine sp_ ?_ | exact ex0))
          refine call_s Tryz.call52 c1 [(28, 0)] ?_
          (repeat (first | refine sp_ ?_ | exact ex0))
          refine call_s Tryz.call52 c1 [(28, 0)] ?_
          (repeat (first | refine sp_ ?_ | exact ex0))
          refine call_s Tryz.call48 c2 [(28, 0)] ?_
          (repeat (first | refine sp_ ?_ | exact ex0))
          refine gcall_s Tryz.call52 d1 [(28, 0)] ?_
          (repeat (first | refine sp_ ?_ | exact ex0))
          refine gcall_s Tryz.call51 d2 [(28, 0)] ?_
          (repeat (first | refine sp_ ?_ | exact ex0))
          refine gcall_s Tryz.call105 d3 [] ?_
          (repeat (first | refine sp_ ?_ | exact ex0))
          refine call_s Tryz.call53 d4 [(28, 0)] ?_
          (repeat (first | refine sp_ ?_ | exact ex0))
          (refine ret_s [] ?_; simp (decide := true) (disch := omega) only [go_sem, ↓reduceIte, ↓put_at])
        · have hgo2 : go5 f s = ([], 1) := by rw [hgo, if_neg hz]; rfl
          rw [hgo2, if_neg (by decide)] at hR
          subst hR
          by_cases hz3 : t.length < 3
          · have d1 := in_left t 0
            have d2 := in_raw t 0 t.length (by unfold maxLen; omega) (by unfold maxLen; omega)
            have t1 : rawT t t.length = t := by unfold rawT; rw [if_pos (by omega), Int.toNat_natCast, List.take_length]
            have t2 : rawL t 0 t.length = [] := by unfold rawL; rw [if_pos (by omega), Int.toNat_natCast, List.drop_length]
            have t3 : rawE t 0 t.length = 0 := by unfold rawE; rw [if_pos (by omega)]
            rw [t1, t2, t3] at d2
            have d3 := exts_blank t (by unfold maxLen; omega)
            rw [decide_eq_false (fun h => hz ⟨hz3, h⟩)] at d3
            (repeat (first | refine sp_ ?_ | exact ex0))
            refine call_s Tryz.call52 c1 [(28, 0)] ?_
            (repeat (first | refine sp_ ?_ | exact ex0))
            refine call_s Tryz.call52 c1 [(28, 0)] ?_
            (repeat (first | refine sp_ ?_ | exact ex0))
            refine call_s Tryz.call48 c2 [(28, 0)] ?_
            (repeat (first | refine sp_ ?_ | exact ex0))
            refine gcall_s Tryz.call52 d1 [(28, 0)] ?_
            (repeat (first | refine sp_ ?_ | exact ex0))
            refine gcall_s Tryz.call51 d2 [(28, 0)] ?_
            (repeat (first | refine sp_ ?_ | exact ex0))
            refine gcall_s Tryz.call105 d3 [] ?_
            (repeat (first | refine sp_ ?_ | exact ex0))
            (refine ret_s [] ?_; simp (decide := true) (disch := omega) only [go_sem, ↓reduceIte, ↓put_at])
          · (repeat (first | refine sp_ ?_ | exact ex0))
            refine call_s Tryz.call52 c1 [(28, 0)] ?_
            (repeat (first | refine sp_ ?_ | exact ex0))
            refine call_s Tryz.call52 c1 [(28, 0)] ?_
            (repeat (first | refine sp_ ?_ | exact ex0))
            refine call_s Tryz.call48 c2 [(28, 0)] ?_
            (repeat (first | refine sp_ ?_ | exact ex0))
            (refine ret_s [] ?_; simp (decide := true) (disch := omega) only [go_sem, ↓reduceIte, ↓put_at])
      · have hb0 : b.toNat ≠ 0 := fun h => hb (UInt8.toNat_inj.1 h)
        have c3 := exts_read f hf b t (by unfold maxLen; omega)
        have hrl := rest5_len f t
        have hid : id5 f b ≤ b.toNat := by unfold id5; split <;> omega
        have hln : len5 f b t < 256 := by
          unfold len5; split
          · omega
          · exact UInt8.toNat_lt _
        by_cases hi : id5 f b = 0 ∨ mostId f < (id5 f b : Int)
        · rw [go5_cons, if_neg hb, if_pos hi] at hgo
          have hgo2 : go5 f s = ([], 1) := by rw [hgo]; rfl
          have hR2 : R = (0, [], 1) := by rw [hR, hgo2, if_neg (by decide)]
          rw [hR2]
          by_cases h1 : id5 f b = 0
          · (repeat (first | refine sp_ ?_ | exact ex0))
            refine call_s Tryz.call52 c1 [(28, 0)] ?_
            (repeat (first | refine sp_ ?_ | exact ex0))
            refine call_s Tryz.call52 c1 [(28, 0)] ?_
            (repeat (first | refine sp_ ?_ | exact ex0))
            refine call_s Tryz.call48 c2 [(28, 0)] ?_
            (repeat (first | refine sp_ ?_ | exact ex0))
            refine fcall_s (rdK_call hf) c3 [(28, 0)] [] ?_
            (repeat (first | refine sp_ ?_ | exact ex0))
            (refine ret_s [] ?_; simp (decide := true) (disch := omega) only [go_sem, ↓reduceIte, ↓put_at])
          · have h2 : mostId f < (id5 f b : Int) := by
              rcases hi with h | h
              · exact absurd h h1
              · exact h
            (repeat (first | refine sp_ ?_ | exact ex0))
            refine call_s Tryz.call52 c1 [(28, 0)] ?_
            (repeat (first | refine sp_ ?_ | exact ex0))
            refine call_s Tryz.call52 c1 [(28, 0)] ?_
            (repeat (first | refine sp_ ?_ | exact ex0))
            refine call_s Tryz.call48 c2 [(28, 0)] ?_
            (repeat (first | refine sp_ ?_ | exact ex0))
            refine fcall_s (rdK_call hf) c3 [(28, 0)] [] ?_
            (repeat (first | refine sp_ ?_ | exact ex0))
            (refine ret_s [] ?_; simp (decide := true) (disch := omega) only [go_sem, ↓reduceIte, ↓put_at])
        · obtain ⟨hn1, hn2⟩ := inv5_step f s b t out hgo (by rw [List.length_cons]; omega) hb hi
          have h1 : ¬ id5 f b = 0 := fun h => hi (.inl h)
          have h2 : (id5 f b : Int) ≤ mostId f := by
            apply Int.not_lt.1
            exact fun h => hi (.inr h)
          have c4 := in_raw (rest5 f t) (eof5 f t) (len5 f b t) (by unfold maxLen; omega) (by unfold maxLen; omega)
          have hol : out.length ≤ 1000000 := by omega
          (repeat (first | refine sp_ ?_ | exact ex0))
          refine call_s Tryz.call52 c1 [(28, 0)] ?_
          (repeat (first | refine sp_ ?_ | exact ex0))
          refine call_s Tryz.call52 c1 [(28, 0)] ?_
          (repeat (first | refine sp_ ?_ | exact ex0))
          refine call_s Tryz.call48 c2 [(28, 0)] ?_
          (repeat (first | refine sp_ ?_ | exact ex0))
          refine fcall_s (rdK_call hf) c3 [(28, 0)] [] ?_
          (repeat (first | refine sp_ ?_ | exact ex0))
          refine call_s Tryz.call51 c4 [(28, 0)] ?_
          (repeat (first | refine sp_ ?_ | exact ex0))
          refine next_s (α := {x : (List UInt8 × Int) × List E5 // Inv5 f s x}) ⟨_, hn1⟩ ⟨?_, hn2⟩
          simp (decide := true) (disch := omega) only [go_sem, ↓reduceIte, ↓put_at]
          rw [List.map_append]
          rfl
end Go.Proofs.YtkclmofjlmeolaaGreatDoor

