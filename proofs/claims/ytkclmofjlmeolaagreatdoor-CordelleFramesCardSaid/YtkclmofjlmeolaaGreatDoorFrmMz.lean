/- Layer 23: data in parts, in plain Lean. -/
import Derived.Test.YtkclmofjlmeolaaGreatDoorBufSz
namespace Go.Proofs.YtkclmofjlmeolaaGreatDoor
open Go.RowKit
set_option linter.unusedVariables false
set_option linter.unusedSimpArgs false

def chopN (sz : Nat) : Nat → List UInt8 → List (List UInt8)
  | 0, d => [d]
  | n + 1, d => if sz < d.length then d.take sz :: chopN sz n (d.drop sz) else [d]
/-- Data in parts of a size. -/
def chop (sz : Nat) (d : List UInt8) : List (List UInt8) := chopN sz d.length d
theorem chopN_fuel {sz : Nat} (hz : 0 < sz) : ∀ (n m : Nat) (d : List UInt8), d.length ≤ n → d.length ≤ m → chopN sz n d = chopN sz m d
  | 0, 0, d, _, _ => rfl
  | 0, m + 1, d, h, _ => by rw [chopN, chopN, if_neg (by omega)]
  | n + 1, 0, d, _, h => by rw [chopN, chopN, if_neg (by omega)]
  | n + 1, m + 1, d, h1, h2 => by
    rw [chopN, chopN]
    split
    · rw [chopN_fuel hz n m (d.drop sz) (by rw [List.length_drop]; omega) (by rw [List.length_drop]; omega)]
    · rfl
theorem chop_more {sz : Nat} (hz : 0 < sz) {d : List UInt8} (h : sz < d.length) : chop sz d = d.take sz :: chop sz (d.drop sz) := by
  unfold chop
  obtain ⟨n, hn⟩ : ∃ n, d.length = n + 1 := ⟨d.length - 1, by omega⟩
  rw [hn, chopN, if_pos h, chopN_fuel hz n (d.drop sz).length (d.drop sz) (by rw [List.length_drop]; omega) (Nat.le_refl _)]
theorem chop_last {sz : Nat} {d : List UInt8} (h : d.length ≤ sz) : chop sz d = [d] := by
  unfold chop
  cases hn : d.length with
  | zero => rfl
  | succ n => rw [chopN, if_neg (by omega)]
theorem chopN_flat (sz : Nat) : ∀ (n : Nat) (d : List UInt8), (chopN sz n d).flatten = d
  | 0, d => by simp [chopN]
  | n + 1, d => by
    rw [chopN]
    split
    · rw [List.flatten_cons, chopN_flat sz n, List.take_append_drop]
    · simp
theorem chop_flat (sz : Nat) (d : List UInt8) : (chop sz d).flatten = d := chopN_flat sz _ d
theorem chopN_sz {sz : Nat} (hz : 0 < sz) : ∀ (n : Nat) (d : List UInt8), d.length ≤ n → ∀ s ∈ chopN sz n d, s.length ≤ sz
  | 0, d, h, s, hs => by rw [chopN, List.mem_singleton] at hs; subst hs; omega
  | n + 1, d, h, s, hs => by
    rw [chopN] at hs
    split at hs
    · rcases List.mem_cons.1 hs with rfl | hs
      · rw [List.length_take]; omega
      · exact chopN_sz hz n (d.drop sz) (by rw [List.length_drop]; omega) s hs
    · rw [List.mem_singleton] at hs; subst hs; omega
theorem chop_sz {sz : Nat} (hz : 0 < sz) (d : List UInt8) : ∀ s ∈ chop sz d, s.length ≤ sz := chopN_sz hz _ d (Nat.le_refl _)
theorem chopN_len {sz : Nat} (hz : 0 < sz) : ∀ (k n : Nat) (d : List UInt8), d.length ≤ sz * (k + 1) → (chopN sz n d).length ≤ k + 1
  | _, 0, d, _ => by simp [chopN]
  | 0, n + 1, d, h => by rw [chopN, if_neg (by omega)]; simp
  | k + 1, n + 1, d, h => by
    rw [chopN]
    split
    · have := chopN_len hz k n (d.drop sz) (by rw [List.length_drop]; rw [Nat.mul_succ] at h; omega)
      simp only [List.length_cons]
      omega
    · simp
theorem chop_len {sz : Nat} (hz : 0 < sz) {k : Nat} (d : List UInt8) (h : d.length ≤ sz * (k + 1)) : (chop sz d).length ≤ k + 1 := chopN_len hz k _ d h
theorem chopN_pos (sz : Nat) : ∀ (n : Nat) (d : List UInt8), 1 ≤ (chopN sz n d).length
  | 0, d => by simp [chopN]
  | n + 1, d => by rw [chopN]; split <;> simp
theorem chop_pos (sz : Nat) (d : List UInt8) : 1 ≤ (chop sz d).length := chopN_pos sz _ d
end Go.Proofs.YtkclmofjlmeolaaGreatDoor

namespace Go.Proofs.YtkclmofjlmeolaaGreatDoor
open Go.RowKit
set_option linter.unusedVariables false
set_option linter.unusedSimpArgs false

/-- The parts that came. -/
def frPs (P : List (List UInt8)) (seen : List Nat) : List (Nat × List UInt8) := seen.map fun k => (k, P.getD k [])
def frF (P : List (List UInt8)) (seen : List Nat) : Fr := ⟨7, P.length, 0, frPs P seen⟩
def frS (P : List (List UInt8)) (seen : List Nat) : List Fr := if seen = [] then [] else [frF P seen]
def frB (P : List (List UInt8)) (seen : List Nat) : Bu := ⟨4, 300, 1048576, frS P seen, -1, 0, 0, 0⟩
structure FrmI (P : List (List UInt8)) (seen : List Nat) : Prop where
  n1 : 1 ≤ P.length
  n2 : P.length ≤ 151
  sz : ∀ s ∈ P, s.length ≤ 65
  nd : seen.Nodup
  lt : ∀ k ∈ seen, k < P.length
theorem frPs_get (P : List (List UInt8)) (k : Nat) : ∀ seen : List Nat, getP (frPs P seen) k = if k ∈ seen then some (P.getD k []) else none
  | [] => rfl
  | x :: seen => by
    show getP ((x, P.getD x []) :: frPs P seen) k = _
    rw [getP, frPs_get P k seen]
    by_cases h : x = k
    · subst h; simp
    · have h2 : k ≠ x := fun e => h e.symm
      simp [h, h2]
theorem frPs_len (P : List (List UInt8)) (seen : List Nat) : (frPs P seen).length = seen.length := by simp [frPs]
theorem getD_sz {P : List (List UInt8)} (h : ∀ s ∈ P, s.length ≤ 65) (k : Nat) : (P.getD k []).length ≤ 65 := by
  rw [List.getD_eq_getElem?_getD]
  cases hk : P[k]? with
  | none => simp
  | some s => exact h s (List.mem_of_getElem? hk)
theorem frPs_sum {P : List (List UInt8)} (h : ∀ s ∈ P, s.length ≤ 65) : ∀ seen : List Nat, sumP (frPs P seen) ≤ 65 * seen.length
  | [] => by simp [frPs, sumP]
  | x :: seen => by
    have h1 := frPs_sum h seen
    have h2 := getD_sz h x
    show sumP ((x, P.getD x []) :: frPs P seen) ≤ _
    rw [sumP, List.length_cons]
    dsimp only
    omega
theorem FrmI.len {P : List (List UInt8)} {seen : List Nat} (h : FrmI P seen) : seen.length ≤ P.length := nodup_lt_len h.nd h.lt
theorem frF_ok {P : List (List UInt8)} {seen : List Nat} (h : FrmI P seen) : (frF P seen).Ok :=
  ⟨by simp [frF], h.n1, by have := h.n2; show P.length ≤ 255; omega, by simp [frF], by simp [frF], by
    show ((frPs P seen).map (·.1)).Nodup
    unfold frPs
    rw [List.map_map, show ((fun x : Nat × List UInt8 => x.1) ∘ fun k => (k, P.getD k [])) = id from rfl, List.map_id]
    exact h.nd, fun p hp => by
    obtain ⟨k, hk, rfl⟩ := List.mem_map.1 hp
    exact h.lt k hk, fun p hp => by
    obtain ⟨k, hk, rfl⟩ := List.mem_map.1 hp
    have := getD_sz h.sz k
    dsimp only
    omega⟩
theorem frB_over {P : List (List UInt8)} {seen : List Nat} (h : FrmI P seen) : overB (frB P seen) = false := by
  have h1 := h.len
  have h2 := frPs_sum h.sz seen
  have h3 := h.n2
  unfold overB frB frS
  refine decide_eq_false ?_
  dsimp only
  split
  · simp [pkts, bts]
  · simp only [pkts, bts, List.length_singleton, frF, frPs_len]
    omega
theorem frB_ok {P : List (List UInt8)} {seen : List Nat} (h : FrmI P seen) : (frB P seen).Ok 0 := by
  refine ⟨⟨by simp [frB], by simp [frB], by simp [frB], by simp [frB], by simp [frB], by simp [frB]⟩, fun f hf => ?_, ?_, fun f hf => ?_, by simp [frB], by simp [frB], by simp [frB], by simp [frB], by simp [frB], by simp [frB], by simp [frB], by simp [frB], frB_over h⟩
  · unfold frB frS at hf
    dsimp only at hf
    split at hf
    · cases hf
    · rw [List.mem_singleton] at hf; subst hf; exact frF_ok h
  · unfold frB frS
    dsimp only
    split <;> simp
  · show (-1 : Int) < f.tm
    omega
theorem frS_at (P : List (List UInt8)) (seen : List Nat) : atF (frS P seen) 7 = 0 := by
  unfold frS
  split
  · rfl
  · simp [atF, frF]
theorem evict_none {t n : Nat} {b : Bu} {k : Int} (h : overB b = false) : evictB t n b k [] = (b, k, []) := by
  cases n with
  | zero => rfl
  | succ n => unfold evictB; rw [if_neg (by rw [h]; decide)]
theorem frm_start {P : List (List UInt8)} {seen : List Nat} (h : FrmI P seen) : frameB (frB P seen) 7 P.length 0 = ⟨4, 300, 1048576, [frF P seen], -1, 0, 0, 0⟩ := by
  have h1 := h.n1
  have h2 := h.n2
  unfold frameB
  by_cases hs : seen = []
  · subst hs
    rw [show (frB P []).l = [] from rfl, show isF [] 7 = false from rfl, if_neg (by decide)]
    have : newF 7 P.length 0 = frF P [] := by
      unfold newF frF
      rw [show (max 1 (min (P.length : Int) 255)).toNat = P.length by omega]
      rfl
    rw [this]
    rfl
  · have e : (frB P seen).l = [frF P seen] := by unfold frB frS; dsimp only; rw [if_neg hs]
    rw [e, if_pos (by simp [isF, atF, frF])]
    unfold frB
    rw [show frS P seen = [frF P seen] from e]
theorem frm_bad {P : List (List UInt8)} {seen : List Nat} (h : FrmI P seen) {k : Nat} (hk : k < P.length) : badB k P.length = false := by
  have := h.n2
  unfold badB
  exact decide_eq_false (by omega)
theorem frm_new {P : List (List UInt8)} {seen : List Nat} (h : FrmI P seen) {k : Nat} (hk : k < P.length) (hn : k ∉ seen) :
    putB (frB P seen) 7 k P.length (P.getD k []) 0 = (frB P (seen ++ [k]), if seen.length + 1 = P.length then 2 else 1, []) ∧ FrmI P (seen ++ [k]) := by
  have hi : FrmI P (seen ++ [k]) := ⟨h.n1, h.n2, h.sz, List.nodup_append.2 ⟨h.nd, by simp, fun a ha b hb => by simp at hb; subst hb; exact fun e => hn (e ▸ ha)⟩, fun j hj => by
    rcases List.mem_append.1 hj with hj | hj
    · exact h.lt j hj
    · simp at hj; omega⟩
  refine ⟨?_, hi⟩
  have hg := frPs_get P k seen
  rw [if_neg hn] at hg
  have hput : putF (frF P seen) k P.length (P.getD k []) = (frF P (seen ++ [k]), if seen.length + 1 = P.length then 2 else 1) := by
    unfold putF
    rw [if_neg (by show ¬ ((P.length : Int) ≠ P.length ∨ (k : Int) < 0 ∨ (P.length : Int) ≤ k); omega), Int.toNat_natCast, show (frF P seen).ps = frPs P seen from rfl, hg, if_neg (by decide)]
    refine Prod.ext ?_ ?_
    · show Fr.mk _ _ _ _ = Fr.mk _ _ _ _
      congr 1
      simp [frPs]
    · dsimp only
      rw [frPs_len]
      rfl
  have hpb : partB ⟨4, 300, 1048576, [frF P seen], -1, 0, 0, 0⟩ 0 k P.length (P.getD k []) = (frB P (seen ++ [k]), if seen.length + 1 = P.length then 2 else 1) := by
    unfold partB
    dsimp only [List.getElem?_cons_zero]
    rw [hput]
    refine Prod.ext ?_ rfl
    show Bu.mk _ _ _ _ _ _ _ _ = Bu.mk _ _ _ _ _ _ _ _
    congr 1
    show [frF P (seen ++ [k])] = frS P (seen ++ [k])
    unfold frS
    rw [if_neg (fun e => by have := congrArg List.length e; simp at this)]
  unfold putB
  rw [if_neg (by show ¬ (((7 : Nat) : Int) ≤ -1); omega), frm_bad h hk, if_neg (by decide), frm_start h, show (frB P seen).l = frS P seen from rfl, frS_at, hpb]
  exact evict_none (frB_over hi)
theorem frm_old {P : List (List UInt8)} {seen : List Nat} (h : FrmI P seen) {k : Nat} (hk : k < P.length) (hn : k ∈ seen) :
    putB (frB P seen) 7 k P.length (P.getD k []) 0 = (frB P seen, 3, []) := by
  have hg := frPs_get P k seen
  rw [if_pos hn] at hg
  have hput : putF (frF P seen) k P.length (P.getD k []) = (frF P seen, 3) := by
    unfold putF
    rw [if_neg (by show ¬ ((P.length : Int) ≠ P.length ∨ (k : Int) < 0 ∨ (P.length : Int) ≤ k); omega), Int.toNat_natCast, show (frF P seen).ps = frPs P seen from rfl, hg, if_pos (by rfl)]
  have hne : seen ≠ [] := fun e => by rw [e] at hn; cases hn
  have hpb : partB ⟨4, 300, 1048576, [frF P seen], -1, 0, 0, 0⟩ 0 k P.length (P.getD k []) = (frB P seen, 3) := by
    unfold partB
    dsimp only [List.getElem?_cons_zero]
    rw [hput]
    refine Prod.ext ?_ rfl
    show Bu.mk _ _ _ _ _ _ _ _ = Bu.mk _ _ _ _ _ _ _ _
    congr 1
    unfold frS
    rw [if_neg hne]
    rfl
  unfold putB
  rw [if_neg (by show ¬ (((7 : Nat) : Int) ≤ -1); omega), frm_bad h hk, if_neg (by decide), frm_start h, show (frB P seen).l = frS P seen from rfl, frS_at, hpb]
  exact evict_none (frB_over h)
theorem frm_cat {P : List (List UInt8)} {seen : List Nat} (ha : ∀ k < P.length, k ∈ seen) : ∀ m, m ≤ P.length → catF (frPs P seen) m = (P.take m).flatten
  | 0, _ => by simp [catF]
  | m + 1, h => by
    rw [catF, frm_cat ha m (by omega), frPs_get, if_pos (ha m (by omega)), List.take_succ_eq_append_getElem (by omega), List.flatten_append]
    simp [List.getD_eq_getElem?_getD, show m < P.length by omega]
theorem nodup_sub_len : ∀ {a b : List Nat}, a.Nodup → (∀ k ∈ a, k ∈ b) → a.length ≤ b.length
  | [], b, _, _ => Nat.zero_le _
  | x :: a, b, hn, h => by
    obtain ⟨h1, h2⟩ := List.nodup_cons.1 hn
    have h3 := nodup_sub_len (a := a) (b := b.erase x) h2 fun k hk => (List.mem_erase_of_ne (fun e => h1 (by rw [← e]; exact hk))).2 (h k (List.mem_cons_of_mem _ hk))
    have h4 := List.length_erase_of_mem (h x (List.mem_cons_self ..))
    have h5 := List.length_pos_of_mem (h x (List.mem_cons_self ..))
    rw [List.length_cons]
    omega
/-- All came: they are played, once. -/
theorem frm_play {P : List (List UInt8)} {seen : List Nat} (h : FrmI P seen) (ha : ∀ k < P.length, k ∈ seen) : ∃ b, playB (frB P seen) 5 5 9 = (b, [(7, P.flatten)], []) ∧ playB b 99 0 0 = (b, [], []) ∧ b.l = [] ∧ b.pl = 1 ∧ b.dr = 0 := by
  have hl : seen.length = P.length := by
    have h1 := h.len
    have h2 : (List.range P.length).length ≤ seen.length := nodup_sub_len List.nodup_range fun k hk => ha k (List.mem_range.1 hk)
    rw [List.length_range] at h2
    omega
  have hne : seen ≠ [] := fun e => by have := h.n1; rw [e] at hl; simp at hl; omega
  have hw : wholeF (frF P seen) = true := decide_eq_true (by show (frPs P seen).length = P.length; rw [frPs_len, hl])
  have hd : dataF (frF P seen) = P.flatten := by
    unfold dataF
    rw [if_pos hw, show (frF P seen).ps = frPs P seen from rfl, show (frF P seen).n = P.length from rfl, frm_cat ha _ (Nat.le_refl _), List.take_length]
  refine ⟨⟨4, 300, 1048576, [], 7, 1, 0, 0⟩, ?_, rfl, rfl, rfl, rfl⟩
  unfold playB
  rw [show (frB P seen).l = [frF P seen] by unfold frB frS; dsimp only; rw [if_neg hne]]
  rw [playL, if_pos ⟨hw, by show (5 : Int) ≤ 5 - 0; omega⟩, hd]
  rfl
end Go.Proofs.YtkclmofjlmeolaaGreatDoor

