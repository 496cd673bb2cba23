/- Goodbyes and words read strictly: the plain law. -/
import Derived.Test.YtjkmnjmmnjhacaaGreatNotesSz
import Derived.Test.YtjkmnjmmnjhacaaGreatRKz
namespace Go.Proofs.YtjkmnjmmnjhacaaGreat
open Go.RowKit
set_option linter.unusedVariables false
set_option linter.unusedSimpArgs false

/-- So many numbers of four bytes each. -/
def gets (c : Nat) (b : List UInt8) : List Int := (List.range c).map fun i => (getN ((b.drop (4 * i)).take 4) : Int)
theorem gets_len (c : Nat) (b : List UInt8) : (gets c b).length = c := by simp [gets]
theorem gets_succ (c : Nat) (b : List UInt8) : gets (c + 1) b = gets c b ++ [(getN ((b.drop (4 * c)).take 4) : Int)] := by
  unfold gets
  rw [List.range_succ, List.map_append]
  rfl
theorem gets_in (c : Nat) (b : List UInt8) : ∀ n ∈ gets c b, 0 ≤ n ∧ n < 4294967296 := by
  intro n hn
  obtain ⟨i, _, rfl⟩ := List.mem_map.1 hn
  have h1 := getN_lt ((b.drop (4 * i)).take 4)
  have h2 : ((b.drop (4 * i)).take 4).length ≤ 4 := by rw [List.length_take]; omega
  have h3 : (256 : Nat) ^ ((b.drop (4 * i)).take 4).length ≤ 256 ^ 4 := Nat.pow_le_pow_right (by decide) h2
  have h4 : (256 : Nat) ^ 4 = 4294967296 := by decide
  omega
theorem puts_gets (c : Nat) (b : List UInt8) (h : 4 * c ≤ b.length) : puts' 4 (gets c b) = b.take (4 * c) := by
  induction c with
  | zero => simp [gets, puts']
  | succ c ih =>
    rw [gets_succ, puts'_snoc, ih (by omega), putZ_take b (4 * c) 4 (by omega), show 4 * (c + 1) = 4 * c + 4 by omega, List.take_add]
/-- What is left behind the numbers. -/
def restY (p : Pc) : List UInt8 := p.2.2.drop (4 * p.1.toNat)
def lenY (p : Pc) : Nat := ((restY p).getD 0 0).toNat
def goodY (p : Pc) : Prop := (0 ≤ p.1 ∧ p.1 ≤ 31 ∧ 4 * p.1.toNat ≤ p.2.2.length) ∧ (restY p = [] ∨ (lenY p ≠ 0 ∧ lenY p < (restY p).length ∧ fillB ((restY p).take (lenY p + 1)) = restY p))
instance decY (p : Pc) : Decidable (goodY p) := by unfold goodY; infer_instance
def ansY (p : Pc) : Y9 := ⟨if restY p = [] then [] else ((restY p).drop 1).take (lenY p), gets p.1.toNat p.2.2⟩
def refYE (p : Pc) : Int := if p.2.1 ≠ 203 then 5 else if goodY p then 0 else 1
def refYR (p : Pc) : Y9 := if refYE p = 0 then ansY p else ⟨[], []⟩
theorem put1 (n : Nat) (h : n < 256) : putZ (n : Int) 1 = [UInt8.ofNat n] := by
  simp only [putZ, Int.pow_zero, Int.ediv_one, List.append_nil, List.nil_append, List.cons.injEq, and_true]
  congr 1
  omega
theorem reasonB_eq (r : List UInt8) (hr : r ≠ []) (hl : r.length < 256) : reasonB r = fillB (UInt8.ofNat r.length :: r) := by
  unfold reasonB fillB
  rw [if_neg hr, puts1, put1 _ hl]
  simp [Nat.add_comm]
theorem good_ans (p : Pc) (hk : p.2.1 = 203) (h : goodY p) : byeP (ansY p) = p ∧ (ansY p).Ok ∧ mayY (ansY p) = true := by
  obtain ⟨n, k, b⟩ := p
  obtain ⟨⟨h1, h2, h3⟩, h4⟩ := h
  dsimp only at hk h1 h2 h3
  subst hk
  have hm : mayY (ansY (n, 203, b)) = true := by
    unfold mayY ansY
    rw [decide_eq_true_eq]
    dsimp only
    rw [gets_len]
    refine ⟨by omega, ?_⟩
    split
    · simp
    · rw [List.length_take]
      have : lenY (n, 203, b) < 256 := UInt8.toNat_lt _
      omega
  refine ⟨?_, ⟨?_, ?_, ?_⟩, hm⟩
  · unfold byeP
    rw [if_pos hm]
    unfold ansY
    dsimp only
    rw [gets_len, puts_gets _ _ h3]
    have e : reasonB (if restY (n, 203, b) = [] then [] else ((restY (n, 203, b)).drop 1).take (lenY (n, 203, b))) = restY (n, 203, b) := by
      by_cases hs : restY (n, 203, b) = []
      · rw [if_pos hs, hs]; rfl
      · rw [if_neg hs]
        obtain ⟨g1, g2, g3⟩ := h4.resolve_left hs
        have hlt : lenY (n, 203, b) < 256 := UInt8.toNat_lt _
        have hll : (((restY (n, 203, b)).drop 1).take (lenY (n, 203, b))).length = lenY (n, 203, b) := by rw [List.length_take, List.length_drop]; omega
        rw [reasonB_eq _ (fun h => by rw [h] at hll; simp at hll; omega) (by omega), hll]
        have e2 : UInt8.ofNat (lenY (n, 203, b)) :: ((restY (n, 203, b)).drop 1).take (lenY (n, 203, b)) = (restY (n, 203, b)).take (lenY (n, 203, b) + 1) := by
          generalize hr : restY (n, 203, b) = s at *
          cases s with
          | nil => exact absurd rfl hs
          | cons a s =>
            have : lenY (n, 203, b) = a.toNat := by unfold lenY; rw [hr]; rfl
            rw [this]
            simp
        rw [e2, g3]
    rw [e]
    unfold restY
    dsimp only
    rw [List.take_append_drop]
    congr 1
    omega
  · unfold ansY
    dsimp only
    split
    · simp
    · have : lenY (n, 203, b) < 256 := UInt8.toNat_lt _
      rw [List.length_take]
      unfold maxLen
      omega
  · unfold ansY maxLen
    dsimp only
    rw [gets_len]
    omega
  · exact gets_in _ _
theorem good_iff (p : Pc) (hk : p.2.1 = 203) (hp : p.2.2.length ≤ maxLen) : (byeP (rawY p) = p ↔ goodY p) ∧ (goodY p → rawY p = ansY p) := by
  have key : goodY p → rawY p = ansY p := fun h => by
    obtain ⟨h1, h2, h3⟩ := good_ans p hk h
    have := rawY_bye (ansY p) h2 h3
    rw [h1] at this
    exact this
  refine ⟨⟨fun h => ?_, fun h => by rw [key h]; exact (good_ans p hk h).1⟩, key⟩
  obtain ⟨n, k, b⟩ := p
  dsimp only at hk
  subst hk
  have hcnt : (rawY (n, 203, b)).srcs.length = cnt32 n := by unfold rawY; dsimp only; rw [rdWs_len]
  cases hm : mayY (rawY (n, 203, b)) with
  | false => rw [(byeP_none _).2 hm] at h; simp only [Prod.mk.injEq] at h; omega
  | true =>
    unfold byeP at h
    rw [if_pos hm] at h
    unfold mayY at hm
    rw [decide_eq_true_eq] at hm
    generalize rawY (n, 203, b) = y at *
    obtain ⟨r, ss⟩ := y
    dsimp only at h hm hcnt
    simp only [Prod.mk.injEq, true_and] at h
    obtain ⟨e1, e2⟩ := h
    have hc : n.toNat = ss.length := by omega
    have hrest : restY (n, 203, b) = reasonB r := by
      unfold restY
      dsimp only
      rw [← e2, hc, List.drop_left' (by rw [puts'_length])]
    refine ⟨⟨?_, ?_, ?_⟩, ?_⟩
    · dsimp only; omega
    · dsimp only; omega
    · dsimp only; rw [← e2, List.length_append, puts'_length, hc]; omega
    · rw [hrest]
      by_cases hr : r = []
      · left; rw [hr]; rfl
      · right
        have hrl : 0 < r.length := List.length_pos_iff.2 hr
        have hln : lenY (n, 203, b) = r.length := by
          unfold lenY
          rw [hrest, reasonB_eq r hr (by omega)]
          unfold fillB
          simp only [List.cons_append, List.getD_cons_zero]
          exact UInt8.toNat_ofNat_of_lt' (by show r.length < 256; omega)
        rw [hln, reasonB_eq r hr (by omega)]
        have e5 : (fillB (UInt8.ofNat r.length :: r)).take (r.length + 1) = UInt8.ofNat r.length :: r := by
          unfold fillB
          rw [List.take_left' (by simp)]
        refine ⟨by omega, ?_, by rw [e5]⟩
        unfold fillB
        simp only [List.length_append, List.length_cons]
        omega
theorem byeE_ref (p : Pc) (hp : p.2.2.length ≤ maxLen) : byeE p = refYE p ∧ byeR p = refYR p := by
  have hE : byeE p = refYE p ∧ (byeE p = 0 → rawY p = ansY p) := by
    by_cases hk : p.2.1 = 203
    · obtain ⟨g1, g2⟩ := good_iff p hk hp
      have hb : byeE p = if byeP (rawY p) ≠ p then 1 else 0 := by unfold byeE justE; rw [if_neg (by simpa using hk)]
      have hr : refYE p = if goodY p then 0 else 1 := by unfold refYE; rw [if_neg (by simpa using hk)]
      rw [hb, hr]
      by_cases hg : goodY p
      · rw [if_pos hg, if_neg (by simpa using g1.2 hg)]
        exact ⟨rfl, fun _ => g2 hg⟩
      · rw [if_neg hg, if_pos (fun h => hg (g1.1 h))]
        exact ⟨rfl, fun h => by cases h⟩
    · unfold byeE justE refYE
      rw [if_pos hk, if_pos hk]
      exact ⟨rfl, fun h => by cases h⟩
  refine ⟨hE.1, ?_⟩
  unfold byeR refYR
  rw [← hE.1]
  split
  · rename_i h; exact hE.2 h
  · rfl
def ansA (p : Pc) : A9 := ⟨p.1, getN (p.2.2.take 4), (p.2.2.drop 4).take 4, p.2.2.drop 8⟩
def refAE (p : Pc) : Int := if p.2.1 ≠ 204 then 5 else if p.2.2.length < 8 then 1 else if appP (ansA p) ≠ p then 1 else 0
def refAR (p : Pc) : A9 := if refAE p = 0 then ansA p else ⟨0, 0, [], []⟩
theorem rawA_ans (p : Pc) (h : 8 ≤ p.2.2.length) : rawA p = ansA p := by
  obtain ⟨n, k, b⟩ := p
  dsimp only at h
  unfold rawA ansA
  dsimp only
  rw [goX_zero, goX_nx _ _ _ (by decide), goX_nx _ _ _ (by decide), goX_vl _ _ _ (by omega)]
  unfold goX
  rw [if_pos (by omega), if_pos (by omega)]
  unfold rawT
  rw [if_pos (by dsimp only; rw [List.length_drop]; omega)]
  rfl
theorem appE_ref (p : Pc) : appE p = refAE p ∧ appR p = refAR p := by
  have hE : appE p = refAE p ∧ (appE p = 0 → rawA p = ansA p) := by
    by_cases hk : p.2.1 = 204
    · by_cases hl : p.2.2.length < 8
      · have hne : appP (rawA p) ≠ p := fun h => by
          unfold appP at h
          split at h
          · rename_i hm
            have := (mayA_iff _).1 hm
            have hl2 := congrArg (fun q : Pc => q.2.2.length) h
            simp only [List.length_append, puts'_length, List.length_cons, List.length_nil] at hl2
            omega
          · have := congrArg (fun q : Pc => q.2.1) h
            dsimp only at this
            omega
        have hb : appE p = 1 := by unfold appE justE; rw [if_neg (by simpa using hk), if_pos hne]
        have hr : refAE p = 1 := by unfold refAE; rw [if_neg (by simpa using hk), if_pos hl]
        rw [hb, hr]
        exact ⟨rfl, fun h => by cases h⟩
      · have e := rawA_ans p (by omega)
        have hb : appE p = if appP (rawA p) ≠ p then 1 else 0 := by unfold appE justE; rw [if_neg (by simpa using hk)]
        have hr : refAE p = if appP (ansA p) ≠ p then 1 else 0 := by unfold refAE; rw [if_neg (by simpa using hk), if_neg hl]
        rw [hb, hr, e]
        exact ⟨rfl, fun _ => rfl⟩
    · unfold appE justE refAE
      rw [if_pos hk, if_pos hk]
      exact ⟨rfl, fun h => by cases h⟩
  refine ⟨hE.1, ?_⟩
  unfold appR refAR
  rw [← hE.1]
  split
  · rename_i h; exact hE.2 h
  · rfl
end Go.Proofs.YtjkmnjmmnjhacaaGreat

namespace Go.Proofs.YtjkmnjmmnjhacaaGreat
open Go.RowKit
set_option linter.unusedVariables false
set_option linter.unusedSimpArgs false

end Go.Proofs.YtjkmnjmmnjhacaaGreat

namespace Go.Proofs.YtjkmnjmmnjhacaaGreat
open Go.RowKit
set_option linter.unusedVariables false
set_option linter.unusedSimpArgs false

set_option maxRecDepth 100000 in
set_option maxHeartbeats 4000000 in
theorem ref_toapp9 (p : Pc) (hp : p.2.2.length ≤ maxLen) : Spec Tryz.prog 51 [.ca (.val (pcV p))] [] (.ca (.val (.tup [.agg (za9L (appR p)), vi (appE p)]))) [] := by
  rw [(appE_ref p).1, (appE_ref p).2]
  obtain ⟨E, hE⟩ : ∃ E, E = refAE p := ⟨_, rfl⟩
  obtain ⟨R, hR⟩ : ∃ R, R = refAR p := ⟨_, rfl⟩
  rw [← hE, ← hR]
  unfold refAR at hR
  rw [← hE] at hR
  unfold refAE at hE
  have hq4 := getN_lt (p.2.2.take 4)
  have hq4l : (p.2.2.take 4).length ≤ 4 := by rw [List.length_take]; omega
  have hq4p : (256 : Nat) ^ (p.2.2.take 4).length ≤ 256 ^ 4 := Nat.pow_le_pow_right (by decide) hq4l
  have hq4e : (256 : Nat) ^ 4 = 4294967296 := by decide
  have hok : (ansA p).Ok := ⟨by unfold ansA; dsimp only; omega, by unfold ansA maxLen; dsimp only; rw [List.length_take]; omega, by unfold ansA; dsimp only; rw [List.length_drop]; omega⟩
  have c1 := q_get (p.2.2.take 4) (by omega)
  have c2 := ref_app9 (ansA p) hok
  clear hq4 hq4l hq4p hq4e
  obtain ⟨n, k, b⟩ := p
  dsimp only at *
  unfold maxLen at hp
  by_cases hk : k = 204
  · rw [if_neg (by simpa using hk)] at hE
    by_cases hl : b.length < 8
    · rw [if_pos hl] at hE
      subst hE
      rw [if_neg (by decide)] at hR
      subst hR
      refine spec_of Tryz.func51 rfl Tryz.ntmps51 Tryz.results51 ⟨by decide, by simp⟩ fun C hC => ?_
      (repeat (first | refine sp_ ?_ | exact ex0))
      (refine ret_s [] ?_; simp (decide := true) (disch := omega) only [go_sem, ↓reduceIte, ↓put_at])
    · rw [if_neg hl] at hE
      have hcm := rp_ne (appP (ansA (n, k, b))).1 n (appP (ansA (n, k, b))).2.1 k (appP (ansA (n, k, b))).2.2 b
      rw [pc_dec (appP (ansA (n, k, b))) (n, k, b)] at hcm
      obtain ⟨A, hA⟩ : ∃ A, A = ansA (n, k, b) := ⟨_, rfl⟩
      rw [← hA] at hcm hE hR c2 hok
      generalize appP A = Q at *
      unfold ansA at hA
      dsimp only at hA
      by_cases hQ : Q = (n, k, b)
      · rw [if_neg (by simpa using hQ)] at hE
        subst hE
        rw [if_pos rfl] at hR
        subst hR
        rw [decide_eq_true hQ] at hcm
        subst hA
        refine spec_of Tryz.func51 rfl Tryz.ntmps51 Tryz.results51 ⟨by decide, by simp⟩ fun C hC => ?_
        (repeat (first | refine sp_ ?_ | exact ex0))
        refine call_s Tryz.call74 c1 [] ?_
        (repeat (first | refine sp_ ?_ | exact ex0))
        refine call_s Tryz.call82 c2 [] ?_
        (repeat (first | refine sp_ ?_ | exact ex0))
        refine cmpA_s _ _ _ (.inr rfl) (by simp (decide := true) (disch := omega) only [go_sem, ↓reduceIte, ↓put_at]) (by simp (decide := true) (disch := omega) only [go_sem, ↓reduceIte, ↓put_at]) (by kernel_rfl) hcm ?_
        (repeat (first | refine sp_ ?_ | exact ex0))
        (refine ret_s [] ?_; simp (decide := true) (disch := omega) only [go_sem, ↓reduceIte, ↓put_at])
      · rw [if_pos hQ] at hE
        subst hE
        rw [if_neg (by decide)] at hR
        subst hR
        rw [decide_eq_false hQ] at hcm
        subst hA
        refine spec_of Tryz.func51 rfl Tryz.ntmps51 Tryz.results51 ⟨by decide, by simp⟩ fun C hC => ?_
        (repeat (first | refine sp_ ?_ | exact ex0))
        refine call_s Tryz.call74 c1 [] ?_
        (repeat (first | refine sp_ ?_ | exact ex0))
        refine call_s Tryz.call82 c2 [] ?_
        (repeat (first | refine sp_ ?_ | exact ex0))
        refine cmpA_s _ _ _ (.inr rfl) (by simp (decide := true) (disch := omega) only [go_sem, ↓reduceIte, ↓put_at]) (by simp (decide := true) (disch := omega) only [go_sem, ↓reduceIte, ↓put_at]) (by kernel_rfl) hcm ?_
        (repeat (first | refine sp_ ?_ | exact ex0))
        (refine ret_s [] ?_; simp (decide := true) (disch := omega) only [go_sem, ↓reduceIte, ↓put_at])
  · rw [if_pos hk] at hE
    subst hE
    rw [if_neg (by decide)] at hR
    subst hR
    refine spec_of Tryz.func51 rfl Tryz.ntmps51 Tryz.results51 ⟨by decide, by simp⟩ fun C hC => ?_
    (repeat (first | refine sp_ ?_ | exact ex0))
    (refine ret_s [] ?_; simp (decide := true) (disch := omega) only [go_sem, ↓reduceIte, ↓put_at])
set_option maxRecDepth 100000 in
set_option maxHeartbeats 8000000 in
theorem ref_tobye9 (p : Pc) (hp : p.2.2.length ≤ maxLen) : Spec Tryz.prog 50 [.ca (.val (pcV p))] [] (.ca (.val (.tup [.agg (zy9L (byeR p)), vi (byeE p)]))) [] := by
  rw [(byeE_ref p hp).1, (byeE_ref p hp).2]
  obtain ⟨E, hE⟩ : ∃ E, E = refYE p := ⟨_, rfl⟩
  obtain ⟨R, hR⟩ : ∃ R, R = refYR p := ⟨_, rfl⟩
  rw [← hE, ← hR]
  unfold refYR at hR
  rw [← hE] at hR
  unfold refYE at hE
  obtain ⟨n, k, b⟩ := p
  unfold maxLen at hp
  dsimp only at hp hE
  by_cases hk : k = 203
  · rw [if_neg (by simpa using hk)] at hE
    by_cases h1 : n < 0
    · rw [if_neg (fun h => by obtain ⟨⟨g1, g2, g3⟩, _⟩ := h; dsimp only at g1; omega)] at hE
      subst hE
      rw [if_neg (by decide)] at hR
      subst hR
      refine spec_of Tryz.func50 rfl Tryz.ntmps50 Tryz.results50 ⟨by decide, by simp⟩ fun C hC => ?_
      (repeat (first | refine sp_ ?_ | exact ex0))
      (refine ret_s [] ?_; simp (decide := true) (disch := omega) only [go_sem, ↓reduceIte, ↓put_at])
    by_cases h2 : 31 < n
    · rw [if_neg (fun h => by obtain ⟨⟨g1, g2, g3⟩, _⟩ := h; dsimp only at g2; omega)] at hE
      subst hE
      rw [if_neg (by decide)] at hR
      subst hR
      refine spec_of Tryz.func50 rfl Tryz.ntmps50 Tryz.results50 ⟨by decide, by simp⟩ fun C hC => ?_
      (repeat (first | refine sp_ ?_ | exact ex0))
      (refine ret_s [] ?_; simp (decide := true) (disch := omega) only [go_sem, ↓reduceIte, ↓put_at])
    by_cases h3 : b.length < 4 * n.toNat
    · rw [if_neg (fun h => by obtain ⟨⟨g1, g2, g3⟩, _⟩ := h; dsimp only at g3; omega)] at hE
      subst hE
      rw [if_neg (by decide)] at hR
      subst hR
      refine spec_of Tryz.func50 rfl Tryz.ntmps50 Tryz.results50 ⟨by decide, by simp⟩ fun C hC => ?_
      (repeat (first | refine sp_ ?_ | exact ex0))
      (refine ret_s [] ?_; simp (decide := true) (disch := omega) only [go_sem, ↓reduceIte, ↓put_at])
    · obtain ⟨N, rfl⟩ : ∃ N : Nat, n = N := ⟨n.toNat, by omega⟩
      rw [Int.toNat_natCast] at h3
      have hrest : restY ((N : Int), k, b) = b.drop (4 * N) := by unfold restY; dsimp only; rw [Int.toNat_natCast]
      have hans : ansY ((N : Int), k, b) = ⟨if b.drop (4 * N) = [] then [] else ((b.drop (4 * N)).drop 1).take ((b.drop (4 * N)).getD 0 0).toNat, gets N b⟩ := by
        unfold ansY lenY
        rw [hrest]
        dsimp only
        rw [Int.toNat_natCast]
      have hlenY : lenY ((N : Int), k, b) = ((b.drop (4 * N)).getD 0 0).toNat := by unfold lenY; rw [hrest]
      rw [hans] at hR
      have hgood : goodY ((N : Int), k, b) ↔ (b.drop (4 * N) = [] ∨ (((b.drop (4 * N)).getD 0 0).toNat ≠ 0 ∧ ((b.drop (4 * N)).getD 0 0).toNat < (b.drop (4 * N)).length ∧ fillB ((b.drop (4 * N)).take (((b.drop (4 * N)).getD 0 0).toNat + 1)) = b.drop (4 * N))) := by
        unfold goodY
        rw [hrest, hlenY]
        dsimp only
        rw [Int.toNat_natCast]
        exact ⟨fun h => h.2, fun h => ⟨⟨by omega, by omega, by omega⟩, h⟩⟩
      refine spec_of Tryz.func50 rfl Tryz.ntmps50 Tryz.results50 ⟨by decide, by simp⟩ fun C hC => ?_
      (repeat (first | refine sp_ ?_ | exact ex0))
      refine own_c (4, 0) 1 (4, 2) 3 1 ?_
      simp (decide := true) (disch := omega) only [go_sem, ↓reduceIte, ↓put_at]
      refine loop_s (α := {j : Nat // j ≤ N}) (fun j => [(.s 1, .av (.ptr (1, 0) 0 0)), (.o (1, 0), .num 3), (.c (1, 0) 0, .av (.val (vi N))), (.c (1, 0) 1, .av (.val (vi k))), (.c (1, 0) 2, .av (.val (vs b))), (.s 2, .av (.ptr (2, 0) 0 0)), (.o (2, 0), .num 2), (.c (2, 0) 0, .av (.val (vs []))), (.c (2, 0) 1, .av (.val (.sc (.slice none 0 0)))), (.s 3, .av (.val (vi 0))), (.s 4, .av (.ptr (4, 0) 0 0)), (.o (4, 0), .num 2), (.c (4, 0) 0, .av (.val (vs []))), (.c (4, 0) 1, .av (.own (4, 2) 0 3 1 ((gets j.1 b).map intEl))), (.k (4, 2), .row 3 1 (gets j.1 b).length), (.s 5, .av (.val (vi j.1)))]) (fun j => N - j.1) ⟨0, Nat.zero_le _⟩ ?_ (fun j => ?_)
      · simp only [gets, List.range_zero, List.map_nil]
        simp (decide := true) (disch := omega) only [go_sem, ↓reduceIte, ↓put_at]
      · obtain ⟨j, hj⟩ := j
        dsimp only at hj ⊢
        have hgl := gets_len j b
        by_cases hlt : j < N
        · have hgs := gets_succ j b
          have e1 : (4 * (j : Int) + 4).toNat = 4 * j + 4 := by omega
          have e2 : (4 * (j : Int)).toNat = 4 * j := by omega
          have c1 := q_getw b (4 * j) 4 (by decide)
          (repeat (first | refine sp_ ?_ | exact ex0))
          simp only [e1, e2, Nat.add_sub_cancel_left]
          refine call_s Tryz.call74 c1 [] ?_
          (repeat (first | refine sp_ ?_ | exact ex0))
          refine next_s ⟨j + 1, hlt⟩ ⟨?_, by dsimp only; omega⟩
          rw [hgs]
          simp (decide := true) (disch := omega) only [go_sem, ↓reduceIte, ↓put_at]
          rw [List.map_append]; rfl
        · have hjN : j = N := by omega
          subst hjN
          have e1 : (4 * (j : Int)).toNat = 4 * j := by omega
          have hdl : (b.drop (4 * j)).length = b.length - 4 * j := List.length_drop
          (repeat (first | refine sp_ ?_ | exact ex0))
          simp only [e1]
          have hsl : (b.drop (4 * j)).length ≤ 9223372036854775807 := by omega
          generalize b.drop (4 * j) = s at *
          by_cases hs : s = []
          · subst hs
            rw [if_pos (hgood.2 (.inl rfl))] at hE
            subst hE
            rw [if_pos rfl, if_pos rfl] at hR
            subst hR
            have hb : (([] : List UInt8) == []) = true := rfl
            simp only [hb]
            (repeat (first | refine sp_ ?_ | exact ex0))
            (refine ret_s [] ?_; simp (decide := true) (disch := omega) only [go_sem, ↓reduceIte, ↓put_at])
          · have hb : (s == []) = false := by simpa using hs
            have hs0 : 0 < s.length := List.length_pos_iff.2 hs
            simp only [hb]
            have hn1 : (s.getD 0 0).toNat < 256 := UInt8.toNat_lt _
            generalize hv : (s.getD 0 0).toNat = v at *
            by_cases hv0 : v = 0
            · rw [if_neg (fun h => by rcases hgood.1 h with h | h; exact hs h; exact h.1 hv0)] at hE
              subst hE
              rw [if_neg (by decide)] at hR
              subst hR
              (repeat (first | refine sp_ ?_ | exact ex0))
              rw [hv]
              (repeat (first | refine sp_ ?_ | exact ex0))
              (refine ret_s [] ?_; simp (decide := true) (disch := omega) only [go_sem, ↓reduceIte, ↓put_at])
            by_cases hvl : s.length ≤ v
            · rw [if_neg (fun h => by rcases hgood.1 h with h | h; exact hs h; omega)] at hE
              subst hE
              rw [if_neg (by decide)] at hR
              subst hR
              (repeat (first | refine sp_ ?_ | exact ex0))
              rw [hv]
              (repeat (first | refine sp_ ?_ | exact ex0))
              (refine ret_s [] ?_; simp (decide := true) (disch := omega) only [go_sem, ↓reduceIte, ↓put_at])
            · have c1 := ref_fill (s.take (v + 1)) (by rw [List.length_take]; omega)
              have ev : ((v : Int) + 1).toNat = v + 1 := by omega
              by_cases hf : fillB (s.take (v + 1)) = s
              · have hbf : (fillB (s.take (v + 1)) == s) = true := by simpa using hf
                rw [if_pos (hgood.2 (.inr ⟨hv0, by omega, hf⟩))] at hE
                subst hE
                rw [if_pos rfl, if_neg hs] at hR
                subst hR
                (repeat (first | refine sp_ ?_ | exact ex0))
                rw [hv]
                (repeat (first | refine sp_ ?_ | exact ex0))
                simp only [ev]
                refine gcall_s Tryz.call81 c1 [] ?_
                (repeat (first | refine sp_ ?_ | exact ex0))
                simp only [hbf]
                (repeat (first | refine sp_ ?_ | exact ex0))
                (refine ret_s [] ?_; simp (decide := true) (disch := omega) only [go_sem, ↓reduceIte, ↓put_at])
                try simp only [ev, Nat.add_sub_cancel]
              · have hbf : (fillB (s.take (v + 1)) == s) = false := by simpa using hf
                rw [if_neg (fun h => by rcases hgood.1 h with h | h; exact hs h; exact hf h.2.2)] at hE
                subst hE
                rw [if_neg (by decide)] at hR
                subst hR
                (repeat (first | refine sp_ ?_ | exact ex0))
                rw [hv]
                (repeat (first | refine sp_ ?_ | exact ex0))
                simp only [ev]
                refine gcall_s Tryz.call81 c1 [] ?_
                (repeat (first | refine sp_ ?_ | exact ex0))
                simp only [hbf]
                (repeat (first | refine sp_ ?_ | exact ex0))
                (refine ret_s [] ?_; simp (decide := true) (disch := omega) only [go_sem, ↓reduceIte, ↓put_at])
  · rw [if_pos hk] at hE
    subst hE
    rw [if_neg (by decide)] at hR
    subst hR
    refine spec_of Tryz.func50 rfl Tryz.ntmps50 Tryz.results50 ⟨by decide, by simp⟩ fun C hC => ?_
    (repeat (first | refine sp_ ?_ | exact ex0))
    (refine ret_s [] ?_; simp (decide := true) (disch := omega) only [go_sem, ↓reduceIte, ↓put_at])
end Go.Proofs.YtjkmnjmmnjhacaaGreat

