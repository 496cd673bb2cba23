
/- The document's net: what one does with it; walked. -/
import Derived.Test.YtdkgnlmojmafbaaNetX
namespace Go.Proofs.Ytdkgnlmojmafbaa
open Go.RowKit
set_option linter.unusedVariables false
set_option linter.unusedSimpArgs false

theorem plO_lt (l : Ln) (i : Int) : ∀ (os : List O28) (a k : Nat), plO l i os a k = -1 ∨ ∃ p : Nat, plO l i os a k = (p : Int) ∧ a ≤ p ∧ p < a + os.length
  | [], a, k => .inl rfl
  | o :: os, a, k => by
    unfold plO
    split
    · split
      · exact .inr ⟨a, rfl, Nat.le_refl _, by simp⟩
      · rcases plO_lt l i os (a + 1) (k + 1) with h | ⟨p, h1, h2, h3⟩
        · exact .inl h
        · exact .inr ⟨p, h1, by omega, by rw [List.length_cons]; omega⟩
    · rcases plO_lt l i os (a + 1) k with h | ⟨p, h1, h2, h3⟩
      · exact .inl h
      · exact .inr ⟨p, h1, by omega, by rw [List.length_cons]; omega⟩
def plZ (Z : X28) (l : Ln) (i : Int) : Int := plO l i Z.l 0 0
theorem plZ_or (Z : X28) (l : Ln) (i : Int) : plZ Z l i = -1 ∨ ∃ p : Nat, plZ Z l i = (p : Int) ∧ p < Z.l.length := by
  rcases plO_lt l i Z.l 0 0 with h | ⟨p, h1, _, h3⟩
  · exact .inl h
  · exact .inr ⟨p, h1, by omega⟩
def isZ (Z : X28) (l : Ln) (i : Int) : Bool := decide (0 ≤ plZ Z l i)
def atZ8 (Z : X28) (l : Ln) (i : Int) : List UInt8 := if isZ Z l i = true then (Z.l.getD (plZ Z l i).toNat ⟨0, 0, []⟩).d else []
def cutZ (Z : X28) (l : Ln) (i : Int) : X28 := if isZ Z l i = true then { Z with l := Z.l.eraseIdx (plZ Z l i).toNat } else Z
def sendZ (Z : X28) (l : Ln) (s : List UInt8) : X28 := if canX Z l s = true then { putX Z l s with sent := Z.sent + 1 } else { putX Z l s with lost := Z.lost + 1 }
def forgeZ (Z : X28) (l : Ln) (s : List UInt8) : X28 := if canX Z l s = true then { putX Z l s with forged := Z.forged + 1 } else { putX Z l s with lost := Z.lost + 1 }
def takeZ (Z : X28) (l : Ln) (i : Int) : X28 := if isZ Z l i = true then { cutZ Z l i with taken := Z.taken + 1 } else cutZ Z l i
def loseZ (Z : X28) (l : Ln) (i : Int) : X28 := if isZ Z l i = true then { cutZ Z l i with lost := Z.lost + 1 } else cutZ Z l i
def twinOkZ (Z : X28) (l : Ln) (i : Int) : Bool := isZ Z l i && canX Z l (atZ8 Z l i)
def twinZ (Z : X28) (l : Ln) (i : Int) : X28 := if twinOkZ Z l i = true then { putX Z l (atZ8 Z l i) with twins := Z.twins + 1 } else Z
def turnZ (Z : X28) (l : Ln) (i a : Int) (m : Nat) : X28 := if isZ Z l i = true then { Z with l := Z.l.set (plZ Z l i).toNat { Z.l.getD (plZ Z l i).toNat ⟨0, 0, []⟩ with d := turnS (atZ8 Z l i) a m }, turned := Z.turned + 1 } else Z
structure Fit (Z : X28) : Prop where
  len : Z.l.length ≤ 1048576
  ds : ∀ o ∈ Z.l, o.d.length ≤ 1048576
  c1 : 0 ≤ Z.sent ∧ Z.sent ≤ 1099511627776
  c2 : 0 ≤ Z.lost ∧ Z.lost ≤ 1099511627776
  c3 : 0 ≤ Z.taken ∧ Z.taken ≤ 1099511627776
  c4 : 0 ≤ Z.twins ∧ Z.twins ≤ 1099511627776
  c5 : 0 ≤ Z.turned ∧ Z.turned ≤ 1099511627776
  c6 : 0 ≤ Z.forged ∧ Z.forged ≤ 1099511627776
theorem Fit.all {Z : X28} (h : Fit Z) (l : Ln) : ∀ x ∈ allO Z.l l, x.length ≤ 1048576 := fun x hx => by
  obtain ⟨o, ho, rfl⟩ := List.mem_map.1 hx
  exact h.ds o (List.mem_filter.1 ho).1
theorem atZ8_get {Z : X28} {l : Ln} {i : Int} {p : Nat} (h : plZ Z l i = (p : Int)) (hp : p < Z.l.length) : isZ Z l i = true ∧ atZ8 Z l i = Z.l[p].d ∧ (plZ Z l i).toNat = p := by
  have h1 : isZ Z l i = true := by unfold isZ; rw [h]; exact decide_eq_true (by omega)
  refine ⟨h1, ?_, by omega⟩
  unfold atZ8
  rw [if_pos h1, show (plZ Z l i).toNat = p by omega]
  simp [hp]
theorem isZ_no {Z : X28} {l : Ln} {i : Int} (h : plZ Z l i = -1) : isZ Z l i = false ∧ atZ8 Z l i = [] := by
  have h1 : isZ Z l i = false := by unfold isZ; rw [h]; rfl
  exact ⟨h1, by unfold atZ8; rw [h1]; rfl⟩
set_option maxRecDepth 100000 in
set_option maxHeartbeats 8000000 in
theorem rx_cut (Z : X28) (l : Ln) (i : Int) (h : Fit Z) : Spec Try.prog 36 [.ca (.val (xV Z)), .ca (.val (vi l.1)), .ca (.val (vi l.2)), .ca (.val (vi i))] [] (.ca (.val (.tup [xV (cutZ Z l i), vs (atZ8 Z l i), vb (isZ Z l i)]))) [] := by
  have c1 := rx_place Z l i h.len
  rw [show plO l i Z.l 0 0 = plZ Z l i from rfl] at c1
  have hlen := h.len
  unfold cutZ
  rcases plZ_or Z l i with hp | ⟨p, hp, hlt⟩
  · obtain ⟨e1, e2⟩ := isZ_no hp
    rw [hp] at c1
    rw [e1, e2, if_neg (by decide)]
    refine spec_of Try.func36 rfl Try.ntmps36 Try.results36 ⟨by decide, by simp⟩ fun C hC => ?_
    (repeat' ((first | refine sp_ ?_ | exact ex0 | refine call_u Try.call37 (c1) [] ex1 ?_ | (refine ret_s [] ?_; simp (decide := true) (disch := omega) only [go_sem, ↓reduceIte, ↓put_at]))))
  · obtain ⟨e1, e2, e3⟩ := atZ8_get hp hlt
    rw [hp] at c1
    rw [e1, e2, e3, if_pos rfl, List.eraseIdx_eq_take_drop_succ]
    have hge : (Z.l.map oEl).getD p [] = oEl Z.l[p] := by simp [hlt]
    have hi : ((p : Int) + 1).toNat = p + 1 := by omega
    have hT : List.take p (List.map oEl Z.l) = (Z.l.take p).map oEl := (List.map_take ..).symm
    have hD : List.take (Z.l.length - (p + 1)) (List.drop (p + 1) (List.map oEl Z.l)) = (Z.l.drop (p + 1)).map oEl := by
      rw [← List.map_drop, List.take_of_length_le (by rw [List.length_map, List.length_drop]; omega)]
    have hTl : (Z.l.take p).length = p := by rw [List.length_take]; omega
    have hDl : (Z.l.drop (p + 1)).length = Z.l.length - (p + 1) := List.length_drop
    generalize Z.l.take p = A at *
    generalize Z.l.drop (p + 1) = D at *
    refine spec_of Try.func36 rfl Try.ntmps36 Try.results36 ⟨by decide, by simp⟩ fun C hC => ?_
    (repeat' ((first | refine sp_ ?_ | exact ex0 | refine call_u Try.call37 (c1) [] ex1 ?_ | (refine ret_s [] ?_; simp (decide := true) (disch := omega) only [go_sem, ↓reduceIte, ↓put_at]))))
    simp only [hi, hT, hD, List.length_map]
    refine ⟨⟨by omega, by omega, fun q h => h.elim⟩, ⟨⟨by omega, by omega, oEl_len A, oEl_one A⟩, by first | exact rfl | (show _ = _; kernel_rfl)⟩, ⟨by omega, by omega, by omega⟩, ⟨⟨by omega, by omega, oEl_len D, oEl_one D⟩, by rw [Nat.zero_add]⟩, ?_⟩
    (repeat' ((first | refine sp_ ?_ | exact ex0 | (refine ret_s [] ?_; simp (decide := true) (disch := omega) only [go_sem, ↓reduceIte, ↓put_at]))))
    rw [List.map_append]
set_option maxRecDepth 100000 in
set_option maxHeartbeats 8000000 in
theorem rx_send (Z : X28) (l : Ln) (s : List UInt8) (h : Fit Z) (hs : s.length ≤ 1099511627776) : Spec Try.prog 16 [.ca (.val (xV Z)), .ca (.val (vi l.1)), .ca (.val (vi l.2)), .ca (.val (vs s))] [] (.ca (.val (.tup [xV (sendZ Z l s), vb (canX Z l s)]))) [] := by
  have c1 := rx_put Z l s h.len hs (h.all l)
  have hc1 := h.c1
  have hc2 := h.c2
  unfold sendZ
  cases hc : canX Z l s with
  | true =>
    rw [if_pos rfl]
    unfold putX at c1 ⊢
    rw [hc, if_pos rfl] at c1
    rw [hc, if_pos rfl]
    refine spec_of Try.func16 rfl Try.ntmps16 Try.results16 ⟨by decide, by simp⟩ fun C hC => ?_
    (repeat' ((first | refine sp_ ?_ | exact ex0 | refine call_u Try.call35 (c1) [] ex1 ?_ | (refine ret_s [] ?_; simp (decide := true) (disch := omega) only [go_sem, ↓reduceIte, ↓put_at]))))
  | false =>
    rw [if_neg (by decide)]
    unfold putX at c1 ⊢
    rw [hc, if_neg (by decide)] at c1
    rw [hc, if_neg (by decide)]
    refine spec_of Try.func16 rfl Try.ntmps16 Try.results16 ⟨by decide, by simp⟩ fun C hC => ?_
    (repeat' ((first | refine sp_ ?_ | exact ex0 | refine call_u Try.call35 (c1) [] ex1 ?_ | (refine ret_s [] ?_; simp (decide := true) (disch := omega) only [go_sem, ↓reduceIte, ↓put_at]))))
set_option maxRecDepth 100000 in
set_option maxHeartbeats 8000000 in
theorem rx_forge (Z : X28) (l : Ln) (s : List UInt8) (h : Fit Z) (hs : s.length ≤ 1099511627776) : Spec Try.prog 23 [.ca (.val (xV Z)), .ca (.val (vi l.1)), .ca (.val (vi l.2)), .ca (.val (vs s))] [] (.ca (.val (.tup [xV (forgeZ Z l s), vb (canX Z l s)]))) [] := by
  have c1 := rx_put Z l s h.len hs (h.all l)
  have hc1 := h.c6
  have hc2 := h.c2
  unfold forgeZ
  cases hc : canX Z l s with
  | true =>
    rw [if_pos rfl]
    unfold putX at c1 ⊢
    rw [hc, if_pos rfl] at c1
    rw [hc, if_pos rfl]
    refine spec_of Try.func23 rfl Try.ntmps23 Try.results23 ⟨by decide, by simp⟩ fun C hC => ?_
    (repeat' ((first | refine sp_ ?_ | exact ex0 | refine call_u Try.call35 (c1) [] ex1 ?_ | (refine ret_s [] ?_; simp (decide := true) (disch := omega) only [go_sem, ↓reduceIte, ↓put_at]))))
  | false =>
    rw [if_neg (by decide)]
    unfold putX at c1 ⊢
    rw [hc, if_neg (by decide)] at c1
    rw [hc, if_neg (by decide)]
    refine spec_of Try.func23 rfl Try.ntmps23 Try.results23 ⟨by decide, by simp⟩ fun C hC => ?_
    (repeat' ((first | refine sp_ ?_ | exact ex0 | refine call_u Try.call35 (c1) [] ex1 ?_ | (refine ret_s [] ?_; simp (decide := true) (disch := omega) only [go_sem, ↓reduceIte, ↓put_at]))))
set_option maxRecDepth 100000 in
set_option maxHeartbeats 8000000 in
theorem rx_take (Z : X28) (l : Ln) (i : Int) (h : Fit Z) : Spec Try.prog 17 [.ca (.val (xV Z)), .ca (.val (vi l.1)), .ca (.val (vi l.2)), .ca (.val (vi i))] [] (.ca (.val (.tup [xV (takeZ Z l i), vs (atZ8 Z l i), vb (isZ Z l i)]))) [] := by
  have c1 := rx_cut Z l i h
  have hc := h.c3
  unfold takeZ
  cases hb : isZ Z l i with
  | true =>
    rw [if_pos rfl]
    unfold cutZ at c1 ⊢
    rw [hb, if_pos rfl] at c1
    rw [hb, if_pos rfl]
    refine spec_of Try.func17 rfl Try.ntmps17 Try.results17 ⟨by decide, by simp⟩ fun C hC => ?_
    (repeat' ((first | refine sp_ ?_ | exact ex0 | refine call_u Try.call36 (c1) [] ex1 ?_ | (refine ret_s [] ?_; simp (decide := true) (disch := omega) only [go_sem, ↓reduceIte, ↓put_at]))))
  | false =>
    rw [if_neg (by decide)]
    unfold cutZ at c1 ⊢
    rw [hb, if_neg (by decide)] at c1
    rw [hb, if_neg (by decide)]
    refine spec_of Try.func17 rfl Try.ntmps17 Try.results17 ⟨by decide, by simp⟩ fun C hC => ?_
    (repeat' ((first | refine sp_ ?_ | exact ex0 | refine call_u Try.call36 (c1) [] ex1 ?_ | (refine ret_s [] ?_; simp (decide := true) (disch := omega) only [go_sem, ↓reduceIte, ↓put_at]))))
set_option maxRecDepth 100000 in
set_option maxHeartbeats 8000000 in
theorem rx_lose (Z : X28) (l : Ln) (i : Int) (h : Fit Z) : Spec Try.prog 18 [.ca (.val (xV Z)), .ca (.val (vi l.1)), .ca (.val (vi l.2)), .ca (.val (vi i))] [] (.ca (.val (.tup [xV (loseZ Z l i), vb (isZ Z l i)]))) [] := by
  have c1 := rx_cut Z l i h
  have hc := h.c2
  unfold loseZ
  cases hb : isZ Z l i with
  | true =>
    rw [if_pos rfl]
    unfold cutZ at c1 ⊢
    rw [hb, if_pos rfl] at c1
    rw [hb, if_pos rfl]
    refine spec_of Try.func18 rfl Try.ntmps18 Try.results18 ⟨by decide, by simp⟩ fun C hC => ?_
    (repeat' ((first | refine sp_ ?_ | exact ex0 | refine call_u Try.call36 (c1) [] ex1 ?_ | (refine ret_s [] ?_; simp (decide := true) (disch := omega) only [go_sem, ↓reduceIte, ↓put_at]))))
  | false =>
    rw [if_neg (by decide)]
    unfold cutZ at c1 ⊢
    rw [hb, if_neg (by decide)] at c1
    rw [hb, if_neg (by decide)]
    refine spec_of Try.func18 rfl Try.ntmps18 Try.results18 ⟨by decide, by simp⟩ fun C hC => ?_
    (repeat' ((first | refine sp_ ?_ | exact ex0 | refine call_u Try.call36 (c1) [] ex1 ?_ | (refine ret_s [] ?_; simp (decide := true) (disch := omega) only [go_sem, ↓reduceIte, ↓put_at]))))
set_option maxRecDepth 100000 in
set_option maxHeartbeats 8000000 in
theorem rx_twin (Z : X28) (l : Ln) (i : Int) (h : Fit Z) : Spec Try.prog 20 [.ca (.val (xV Z)), .ca (.val (vi l.1)), .ca (.val (vi l.2)), .ca (.val (vi i))] [] (.ca (.val (.tup [xV (twinZ Z l i), vb (twinOkZ Z l i)]))) [] := by
  have c1 := rx_place Z l i h.len
  rw [show plO l i Z.l 0 0 = plZ Z l i from rfl] at c1
  have hlen := h.len
  have hc4 := h.c4
  unfold twinZ twinOkZ
  rcases plZ_or Z l i with hp | ⟨p, hp, hlt⟩
  · obtain ⟨e1, e2⟩ := isZ_no hp
    rw [hp] at c1
    rw [e1, e2, Bool.false_and, if_neg (by decide)]
    refine spec_of Try.func20 rfl Try.ntmps20 Try.results20 ⟨by decide, by simp⟩ fun C hC => ?_
    (repeat' ((first | refine sp_ ?_ | exact ex0 | refine call_u Try.call37 (c1) [] ex1 ?_ | (refine ret_s [] ?_; simp (decide := true) (disch := omega) only [go_sem, ↓reduceIte, ↓put_at]))))
  · obtain ⟨e1, e2, e3⟩ := atZ8_get hp hlt
    have hds := h.ds _ (List.getElem_mem hlt)
    have c2 := rx_put Z l Z.l[p].d h.len (by omega) (h.all l)
    rw [hp] at c1
    rw [e1, e2, Bool.true_and]
    have hge : (Z.l.map oEl).getD p [] = oEl Z.l[p] := by simp [hlt]
    unfold putX at c2 ⊢
    cases hc : canX Z l Z.l[p].d with
    | true =>
      rw [hc, if_pos rfl] at c2
      rw [if_pos rfl, if_pos rfl]
      refine spec_of Try.func20 rfl Try.ntmps20 Try.results20 ⟨by decide, by simp⟩ fun C hC => ?_
      (repeat' ((first | refine sp_ ?_ | exact ex0 | refine call_u Try.call37 (c1) [] ex1 ?_ | refine call_u Try.call35 (c2) [] ex1 ?_ | (refine ret_s [] ?_; simp (decide := true) (disch := omega) only [go_sem, ↓reduceIte, ↓put_at]))))
    | false =>
      rw [hc, if_neg (by decide)] at c2
      rw [if_neg (by decide)]
      refine spec_of Try.func20 rfl Try.ntmps20 Try.results20 ⟨by decide, by simp⟩ fun C hC => ?_
      (repeat' ((first | refine sp_ ?_ | exact ex0 | refine call_u Try.call37 (c1) [] ex1 ?_ | refine call_u Try.call35 (c2) [] ex1 ?_ | (refine ret_s [] ?_; simp (decide := true) (disch := omega) only [go_sem, ↓reduceIte, ↓put_at]))))
set_option maxRecDepth 100000 in
set_option maxHeartbeats 8000000 in
theorem rx_turn (Z : X28) (l : Ln) (i a : Int) (m : Nat) (h : Fit Z) (hm : m < 4294967296) : Spec Try.prog 21 [.ca (.val (xV Z)), .ca (.val (vi l.1)), .ca (.val (vi l.2)), .ca (.val (vi i)), .ca (.val (vi a)), .ca (.val (vu m))] [] (.ca (.val (.tup [xV (turnZ Z l i a m), vb (isZ Z l i)]))) [] := by
  have c1 := rx_place Z l i h.len
  rw [show plO l i Z.l 0 0 = plZ Z l i from rfl] at c1
  have hlen := h.len
  have hc5 := h.c5
  unfold turnZ
  rcases plZ_or Z l i with hp | ⟨p, hp, hlt⟩
  · obtain ⟨e1, e2⟩ := isZ_no hp
    rw [hp] at c1
    rw [e1, if_neg (by decide)]
    refine spec_of Try.func21 rfl Try.ntmps21 Try.results21 ⟨by decide, by simp⟩ fun C hC => ?_
    (repeat' ((first | refine sp_ ?_ | exact ex0 | refine call_u Try.call37 (c1) [] ex1 ?_ | (refine ret_s [] ?_; simp (decide := true) (disch := omega) only [go_sem, ↓reduceIte, ↓put_at]))))
  · obtain ⟨e1, e2, e3⟩ := atZ8_get hp hlt
    have hds := h.ds _ (List.getElem_mem hlt)
    have c2 := ref_turn Z.l[p].d a m (by omega) hm
    rw [hp] at c1
    rw [e1, e2, e3, if_pos rfl]
    have hge : (Z.l.map oEl).getD p [] = oEl Z.l[p] := by simp [hlt]
    have hg2 : Z.l.getD p ⟨0, 0, []⟩ = Z.l[p] := by simp [hlt]
    rw [hg2]
    generalize turnS Z.l[p].d a m = s' at *
    refine spec_of Try.func21 rfl Try.ntmps21 Try.results21 ⟨by decide, by simp⟩ fun C hC => ?_
    refine mark_s (24, 1) [24] ⟨by rw [hC]; decide, fun n => ?_⟩
    simp (decide := true) (disch := omega) only [go_sem, ↓reduceIte, ↓put_at]
    (repeat' ((fail_if_success (first | refine stop_at 6 ?_ | refine stop_l 6 ?_)); (first | refine sp_ ?_ | exact ex0 | refine call_u Try.call37 (c1) [] ex1 ?_ | refine call_u Try.call38 (c2) [] ex1 ?_ | (refine ret_s [] ?_; simp (decide := true) (disch := omega) only [go_sem, ↓reduceIte, ↓put_at]))))
    refine ⟨⟨by omega, by omega, oEl_len Z.l, oEl_one Z.l⟩, ?_⟩
    (repeat' ((fail_if_success (first | refine stop_at 6 ?_ | refine stop_l 6 ?_)); (first | refine sp_ ?_ | exact ex0 | refine call_u Try.call38 (c2) [] ex1 ?_ | (refine ret_s [] ?_; simp (decide := true) (disch := omega) only [go_sem, ↓reduceIte, ↓put_at]))))
    refine frz_s 15 (24, 1) (24, 2) 77 3 ((Z.l.set p ⟨Z.l[p].w, Z.l[p].p, s'⟩).map oEl) ?_
    simp (decide := true) (disch := omega) only [go_sem, ↓reduceIte, ↓put_at]
    refine ⟨by rw [List.map_set], ?_⟩
    (repeat' ((first | refine sp_ ?_ | exact ex0 | (refine ret_s [] ?_; simp (decide := true) (disch := omega) only [go_sem, ↓reduceIte, ↓put_at]))))
end Go.Proofs.Ytdkgnlmojmafbaa
