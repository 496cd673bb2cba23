
/- Goodbyes and words read strictly: the plain law. -/
import Derived.Test.YtlhkhncdnaibgaaNotesP
namespace Go.Proofs.Ytlhkhncdnaibgaa
open Go.RowKit
set_option linter.unusedVariables false
set_option linter.unusedSimpArgs false

/-- So many numbers of four bytes each. -/
def gets (c : Nat) (b : List UInt8) : List Int := (List.range c).map fun i => (getN ((b.drop (4 * i)).take 4) : Int)
theorem gets_len (c : Nat) (b : List UInt8) : (gets c b).length = c := by simp [gets]
theorem gets_succ (c : Nat) (b : List UInt8) : gets (c + 1) b = gets c b ++ [(getN ((b.drop (4 * c)).take 4) : Int)] := by
  unfold gets
  rw [List.range_succ, List.map_append]
  rfl
theorem gets_in (c : Nat) (b : List UInt8) : ∀ n ∈ gets c b, 0 ≤ n ∧ n < 4294967296 := by
  intro n hn
  obtain ⟨i, _, rfl⟩ := List.mem_map.1 hn
  have h1 := getN_lt ((b.drop (4 * i)).take 4)
  have h2 : ((b.drop (4 * i)).take 4).length ≤ 4 := by rw [List.length_take]; omega
  have h3 : (256 : Nat) ^ ((b.drop (4 * i)).take 4).length ≤ 256 ^ 4 := Nat.pow_le_pow_right (by decide) h2
  have h4 : (256 : Nat) ^ 4 = 4294967296 := by decide
  omega
theorem puts_gets (c : Nat) (b : List UInt8) (h : 4 * c ≤ b.length) : puts' 4 (gets c b) = b.take (4 * c) := by
  induction c with
  | zero => simp [gets, puts']
  | succ c ih =>
    rw [gets_succ, puts'_snoc, ih (by omega), putZ_take b (4 * c) 4 (by omega), show 4 * (c + 1) = 4 * c + 4 by omega, List.take_add]
/-- What is left behind the numbers. -/
def restY (p : Pc) : List UInt8 := p.2.2.drop (4 * p.1.toNat)
def lenY (p : Pc) : Nat := ((restY p).getD 0 0).toNat
def goodY (p : Pc) : Prop := (0 ≤ p.1 ∧ p.1 ≤ 31 ∧ 4 * p.1.toNat ≤ p.2.2.length) ∧ (restY p = [] ∨ (lenY p ≠ 0 ∧ lenY p < (restY p).length ∧ fillB ((restY p).take (lenY p + 1)) = restY p))
instance decY (p : Pc) : Decidable (goodY p) := by unfold goodY; infer_instance
def ansY (p : Pc) : Y9 := ⟨if restY p = [] then [] else ((restY p).drop 1).take (lenY p), gets p.1.toNat p.2.2⟩
def refYE (p : Pc) : Int := if p.2.1 ≠ 203 then 5 else if goodY p then 0 else 1
def refYR (p : Pc) : Y9 := if refYE p = 0 then ansY p else ⟨[], []⟩
theorem put1 (n : Nat) (h : n < 256) : putZ (n : Int) 1 = [UInt8.ofNat n] := by
  simp only [putZ, Int.pow_zero, Int.ediv_one, List.append_nil, List.nil_append, List.cons.injEq, and_true]
  congr 1
  omega
theorem reasonB_eq (r : List UInt8) (hr : r ≠ []) (hl : r.length < 256) : reasonB r = fillB (UInt8.ofNat r.length :: r) := by
  unfold reasonB fillB
  rw [if_neg hr, puts1, put1 _ hl]
  simp [Nat.add_comm]
theorem good_ans (p : Pc) (hk : p.2.1 = 203) (h : goodY p) : byeP (ansY p) = p ∧ (ansY p).Ok ∧ mayY (ansY p) = true := by
  obtain ⟨n, k, b⟩ := p
  obtain ⟨⟨h1, h2, h3⟩, h4⟩ := h
  dsimp only at hk h1 h2 h3
  subst hk
  have hm : mayY (ansY (n, 203, b)) = true := by
    unfold mayY ansY
    rw [decide_eq_true_eq]
    dsimp only
    rw [gets_len]
    refine ⟨by omega, ?_⟩
    split
    · simp
    · rw [List.length_take]
      have : lenY (n, 203, b) < 256 := UInt8.toNat_lt _
      omega
  refine ⟨?_, ⟨?_, ?_, ?_⟩, hm⟩
  · unfold byeP
    rw [if_pos hm]
    unfold ansY
    dsimp only
    rw [gets_len, puts_gets _ _ h3]
    have e : reasonB (if restY (n, 203, b) = [] then [] else ((restY (n, 203, b)).drop 1).take (lenY (n, 203, b))) = restY (n, 203, b) := by
      by_cases hs : restY (n, 203, b) = []
      · rw [if_pos hs, hs]; rfl
      · rw [if_neg hs]
        obtain ⟨g1, g2, g3⟩ := h4.resolve_left hs
        have hlt : lenY (n, 203, b) < 256 := UInt8.toNat_lt _
        have hll : (((restY (n, 203, b)).drop 1).take (lenY (n, 203, b))).length = lenY (n, 203, b) := by rw [List.length_take, List.length_drop]; omega
        rw [reasonB_eq _ (fun h => by rw [h] at hll; simp at hll; omega) (by omega), hll]
        have e2 : UInt8.ofNat (lenY (n, 203, b)) :: ((restY (n, 203, b)).drop 1).take (lenY (n, 203, b)) = (restY (n, 203, b)).take (lenY (n, 203, b) + 1) := by
          generalize hr : restY (n, 203, b) = s at *
          cases s with
          | nil => exact absurd rfl hs
          | cons a s =>
            have : lenY (n, 203, b) = a.toNat := by unfold lenY; rw [hr]; rfl
            rw [this]
            simp
        rw [e2, g3]
    rw [e]
    unfold restY
    dsimp only
    rw [List.take_append_drop]
    congr 1
    omega
  · unfold ansY
    dsimp only
    split
    · simp
    · have : lenY (n, 203, b) < 256 := UInt8.toNat_lt _
      rw [List.length_take]
      unfold maxLen
      omega
  · unfold ansY maxLen
    dsimp only
    rw [gets_len]
    omega
  · exact gets_in _ _
theorem good_iff (p : Pc) (hk : p.2.1 = 203) (hp : p.2.2.length ≤ maxLen) : (byeP (rawY p) = p ↔ goodY p) ∧ (goodY p → rawY p = ansY p) := by
  have key : goodY p → rawY p = ansY p := fun h => by
    obtain ⟨h1, h2, h3⟩ := good_ans p hk h
    have := rawY_bye (ansY p) h2 h3
    rw [h1] at this
    exact this
  refine ⟨⟨fun h => ?_, fun h => by rw [key h]; exact (good_ans p hk h).1⟩, key⟩
  obtain ⟨n, k, b⟩ := p
  dsimp only at hk
  subst hk
  have hcnt : (rawY (n, 203, b)).srcs.length = cnt32 n := by unfold rawY; dsimp only; rw [rdWs_len]
  cases hm : mayY (rawY (n, 203, b)) with
  | false => rw [(byeP_none _).2 hm] at h; simp only [Prod.mk.injEq] at h; omega
  | true =>
    unfold byeP at h
    rw [if_pos hm] at h
    unfold mayY at hm
    rw [decide_eq_true_eq] at hm
    generalize rawY (n, 203, b) = y at *
    obtain ⟨r, ss⟩ := y
    dsimp only at h hm hcnt
    simp only [Prod.mk.injEq, true_and] at h
    obtain ⟨e1, e2⟩ := h
    have hc : n.toNat = ss.length := by omega
    have hrest : restY (n, 203, b) = reasonB r := by
      unfold restY
      dsimp only
      rw [← e2, hc, List.drop_left' (by rw [puts'_length])]
    refine ⟨⟨?_, ?_, ?_⟩, ?_⟩
    · dsimp only; omega
    · dsimp only; omega
    · dsimp only; rw [← e2, List.length_append, puts'_length, hc]; omega
    · rw [hrest]
      by_cases hr : r = []
      · left; rw [hr]; rfl
      · right
        have hrl : 0 < r.length := List.length_pos_iff.2 hr
        have hln : lenY (n, 203, b) = r.length := by
          unfold lenY
          rw [hrest, reasonB_eq r hr (by omega)]
          unfold fillB
          simp only [List.cons_append, List.getD_cons_zero]
          exact UInt8.toNat_ofNat_of_lt' (by show r.length < 256; omega)
        rw [hln, reasonB_eq r hr (by omega)]
        have e5 : (fillB (UInt8.ofNat r.length :: r)).take (r.length + 1) = UInt8.ofNat r.length :: r := by
          unfold fillB
          rw [List.take_left' (by simp)]
        refine ⟨by omega, ?_, by rw [e5]⟩
        unfold fillB
        simp only [List.length_append, List.length_cons]
        omega
theorem byeE_ref (p : Pc) (hp : p.2.2.length ≤ maxLen) : byeE p = refYE p ∧ byeR p = refYR p := by
  have hE : byeE p = refYE p ∧ (byeE p = 0 → rawY p = ansY p) := by
    by_cases hk : p.2.1 = 203
    · obtain ⟨g1, g2⟩ := good_iff p hk hp
      have hb : byeE p = if byeP (rawY p) ≠ p then 1 else 0 := by unfold byeE justE; rw [if_neg (by simpa using hk)]
      have hr : refYE p = if goodY p then 0 else 1 := by unfold refYE; rw [if_neg (by simpa using hk)]
      rw [hb, hr]
      by_cases hg : goodY p
      · rw [if_pos hg, if_neg (by simpa using g1.2 hg)]
        exact ⟨rfl, fun _ => g2 hg⟩
      · rw [if_neg hg, if_pos (fun h => hg (g1.1 h))]
        exact ⟨rfl, fun h => by cases h⟩
    · unfold byeE justE refYE
      rw [if_pos hk, if_pos hk]
      exact ⟨rfl, fun h => by cases h⟩
  refine ⟨hE.1, ?_⟩
  unfold byeR refYR
  rw [← hE.1]
  split
  · rename_i h; exact hE.2 h
  · rfl
def ansA (p : Pc) : A9 := ⟨p.1, getN (p.2.2.take 4), (p.2.2.drop 4).take 4, p.2.2.drop 8⟩
def refAE (p : Pc) : Int := if p.2.1 ≠ 204 then 5 else if p.2.2.length < 8 then 1 else if appP (ansA p) ≠ p then 1 else 0
def refAR (p : Pc) : A9 := if refAE p = 0 then ansA p else ⟨0, 0, [], []⟩
theorem rawA_ans (p : Pc) (h : 8 ≤ p.2.2.length) : rawA p = ansA p := by
  obtain ⟨n, k, b⟩ := p
  dsimp only at h
  unfold rawA ansA
  dsimp only
  rw [goX_zero, goX_nx _ _ _ (by decide), goX_nx _ _ _ (by decide), goX_vl _ _ _ (by omega)]
  unfold goX
  rw [if_pos (by omega), if_pos (by omega)]
  unfold rawT
  rw [if_pos (by dsimp only; rw [List.length_drop]; omega)]
  rfl
theorem appE_ref (p : Pc) : appE p = refAE p ∧ appR p = refAR p := by
  have hE : appE p = refAE p ∧ (appE p = 0 → rawA p = ansA p) := by
    by_cases hk : p.2.1 = 204
    · by_cases hl : p.2.2.length < 8
      · have hne : appP (rawA p) ≠ p := fun h => by
          unfold appP at h
          split at h
          · rename_i hm
            have := (mayA_iff _).1 hm
            have hl2 := congrArg (fun q : Pc => q.2.2.length) h
            simp only [List.length_append, puts'_length, List.length_cons, List.length_nil] at hl2
            omega
          · have := congrArg (fun q : Pc => q.2.1) h
            dsimp only at this
            omega
        have hb : appE p = 1 := by unfold appE justE; rw [if_neg (by simpa using hk), if_pos hne]
        have hr : refAE p = 1 := by unfold refAE; rw [if_neg (by simpa using hk), if_pos hl]
        rw [hb, hr]
        exact ⟨rfl, fun h => by cases h⟩
      · have e := rawA_ans p (by omega)
        have hb : appE p = if appP (rawA p) ≠ p then 1 else 0 := by unfold appE justE; rw [if_neg (by simpa using hk)]
        have hr : refAE p = if appP (ansA p) ≠ p then 1 else 0 := by unfold refAE; rw [if_neg (by simpa using hk), if_neg hl]
        rw [hb, hr, e]
        exact ⟨rfl, fun _ => rfl⟩
    · unfold appE justE refAE
      rw [if_pos hk, if_pos hk]
      exact ⟨rfl, fun h => by cases h⟩
  refine ⟨hE.1, ?_⟩
  unfold appR refAR
  rw [← hE.1]
  split
  · rename_i h; exact hE.2 h
  · rfl
end Go.Proofs.Ytlhkhncdnaibgaa
