
/- Package net: a call of both nets; is a net the document's?; walked. -/
import Derived.Test.YtdkgnlmojmafbaaNetR
import Derived.Test.YtdkgnlmojmafbaaNetQ
import Derived.Test.YtdkgnlmojmafbaaNetL
import Derived.Test.YtdkgnlmojmafbaaNet4
import Derived.Test.YtdkgnlmojmafbaaQRef
namespace Go.Proofs.Ytdkgnlmojmafbaa
open Go.RowKit
set_option linter.unusedVariables false
set_option linter.unusedSimpArgs false

def doB (N : N28) (a : A28) : N28 := if a.k = 0 then sendB N (a.w, a.p) (a.d.take 40) else if a.k = 1 then takeB N (a.w, a.p) a.i else if a.k = 2 then loseB N (a.w, a.p) a.i else if a.k = 3 then twinB N (a.w, a.p) a.i else if a.k = 4 then turnB N (a.w, a.p) a.i a.a a.m.toNat else forgeB N (a.w, a.p) (a.d.take 40)
def doZ (Z : X28) (a : A28) : X28 := if a.k = 0 then sendZ Z (a.w, a.p) (a.d.take 40) else if a.k = 1 then takeZ Z (a.w, a.p) a.i else if a.k = 2 then loseZ Z (a.w, a.p) a.i else if a.k = 3 then twinZ Z (a.w, a.p) a.i else if a.k = 4 then turnZ Z (a.w, a.p) a.i a.a a.m.toNat else forgeZ Z (a.w, a.p) (a.d.take 40)
section
variable {N : N28} {Z : X28} {k : Nat}
theorem Rel.put_e (h : Rel N Z k) (l : Ln) (s : List UInt8) : (putX Z l s).sent = Z.sent ∧ (putX Z l s).lost = Z.lost ∧ (putX Z l s).taken = Z.taken ∧ (putX Z l s).twins = Z.twins ∧ (putX Z l s).turned = Z.turned ∧ (putX Z l s).forged = Z.forged := by
  unfold putX; split <;> exact ⟨rfl, rfl, rfl, rfl, rfl, rfl⟩
theorem Rel.put_l (h : Rel N Z k) (l : Ln) (s : List UInt8) (hc : canB N l s = false) : putX Z l s = Z ∧ putB N l s = N := by
  unfold putX putB
  rw [h.can, hc]
  exact ⟨rfl, rfl⟩
theorem Rel.cut_e (h : Rel N Z k) (l : Ln) (i : Int) : (cutZ Z l i).sent = Z.sent ∧ (cutZ Z l i).lost = Z.lost ∧ (cutZ Z l i).taken = Z.taken ∧ (cutZ Z l i).twins = Z.twins ∧ (cutZ Z l i).turned = Z.turned ∧ (cutZ Z l i).forged = Z.forged := by
  unfold cutZ; split <;> exact ⟨rfl, rfl, rfl, rfl, rfl, rfl⟩
theorem Rel.send (h : Rel N Z k) (l : Ln) (s : List UInt8) : Rel (sendB N l s) (sendZ Z l s) (k + 1) := by
  have ho := send_ok h.ok l s
  have g := h.put l s
  obtain ⟨f1, f2, f3, f4, f5, f6⟩ := h.put_e l s
  have hc := h.can l s
  unfold sendB at ho ⊢
  unfold sendZ
  rw [hc]
  split at ho <;> rename_i hcb
  · rw [if_pos hcb, if_pos hcb]
    exact ⟨by exact_mod_cast ho, g.most, g.bytes, g.bag, g.len, g.ds, by dsimp only; have := g.e1; omega, g.e2, g.e3, g.e4, g.e5, g.e6⟩
  · rw [if_neg hcb, if_neg hcb]
    exact ⟨by exact_mod_cast ho, g.most, g.bytes, g.bag, g.len, g.ds, g.e1, by dsimp only; have := g.e2; omega, g.e3, g.e4, g.e5, g.e6⟩
theorem Rel.forge (h : Rel N Z k) (l : Ln) (s : List UInt8) : Rel (forgeB N l s) (forgeZ Z l s) (k + 1) := by
  have ho := forge_ok h.ok l s
  have g := h.put l s
  obtain ⟨f1, f2, f3, f4, f5, f6⟩ := h.put_e l s
  have hc := h.can l s
  unfold forgeB at ho ⊢
  unfold forgeZ
  rw [hc]
  split at ho <;> rename_i hcb
  · rw [if_pos hcb, if_pos hcb]
    exact ⟨by exact_mod_cast ho, g.most, g.bytes, g.bag, g.len, g.ds, g.e1, g.e2, g.e3, g.e4, g.e5, by dsimp only; have := g.e6; omega⟩
  · rw [if_neg hcb, if_neg hcb]
    exact ⟨by exact_mod_cast ho, g.most, g.bytes, g.bag, g.len, g.ds, g.e1, by dsimp only; have := g.e2; omega, g.e3, g.e4, g.e5, g.e6⟩
theorem Rel.take (h : Rel N Z k) (l : Ln) (i : Int) : Rel (takeB N l i) (takeZ Z l i) (k + 1) := by
  have ho := take_ok h.ok l i
  have g := h.cut l i
  obtain ⟨f1, f2, f3, f4, f5, f6⟩ := h.cut_e l i
  have hc := h.is_eq l i
  have hl := g.len
  unfold takeB at ho ⊢
  unfold takeZ
  rw [hc]
  split at ho <;> rename_i hcb
  · rw [if_pos hcb, if_pos hcb]
    exact ⟨by exact_mod_cast ho, g.most, g.bytes, g.bag, Nat.le_succ_of_le hl, g.ds, g.e1, g.e2, by dsimp only; have := g.e3; omega, g.e4, g.e5, g.e6⟩
  · rw [if_neg hcb, if_neg hcb]
    exact ⟨by exact_mod_cast ho, g.most, g.bytes, g.bag, Nat.le_succ_of_le hl, g.ds, g.e1, g.e2, g.e3, g.e4, g.e5, g.e6⟩
theorem Rel.lose (h : Rel N Z k) (l : Ln) (i : Int) : Rel (loseB N l i) (loseZ Z l i) (k + 1) := by
  have ho := lose_ok h.ok l i
  have g := h.cut l i
  obtain ⟨f1, f2, f3, f4, f5, f6⟩ := h.cut_e l i
  have hc := h.is_eq l i
  have hl := g.len
  unfold loseB at ho ⊢
  unfold loseZ
  rw [hc]
  split at ho <;> rename_i hcb
  · rw [if_pos hcb, if_pos hcb]
    exact ⟨by exact_mod_cast ho, g.most, g.bytes, g.bag, Nat.le_succ_of_le hl, g.ds, g.e1, by dsimp only; have := g.e2; omega, g.e3, g.e4, g.e5, g.e6⟩
  · rw [if_neg hcb, if_neg hcb]
    exact ⟨by exact_mod_cast ho, g.most, g.bytes, g.bag, Nat.le_succ_of_le hl, g.ds, g.e1, g.e2, g.e3, g.e4, g.e5, g.e6⟩
theorem Rel.twin_eq (h : Rel N Z k) (l : Ln) (i : Int) : twinOkZ Z l i = twinOk N l i := by
  unfold twinOkZ twinOk
  rw [h.is_eq, h.at_eq, h.can]
theorem Rel.twin (h : Rel N Z k) (l : Ln) (i : Int) : Rel (twinB N l i) (twinZ Z l i) (k + 1) := by
  have ho := twin_ok h.ok l i
  have g := h.put l (atB N l i)
  obtain ⟨f1, f2, f3, f4, f5, f6⟩ := h.put_e l (atB N l i)
  have hc := h.twin_eq l i
  have ha := h.at_eq l i
  unfold twinB at ho ⊢
  unfold twinZ
  rw [hc, ha]
  split at ho <;> rename_i hcb
  · rw [if_pos hcb, if_pos hcb]
    exact ⟨by exact_mod_cast ho, g.most, g.bytes, g.bag, g.len, g.ds, g.e1, g.e2, g.e3, by dsimp only; have := g.e4; omega, g.e5, g.e6⟩
  · rw [if_neg hcb, if_neg hcb]
    exact ⟨by exact_mod_cast ho, h.most, h.bytes, h.bag, Nat.le_succ_of_le h.len, h.ds, h.e1, h.e2, h.e3, h.e4, h.e5, h.e6⟩
theorem Rel.do (h : Rel N Z k) (a : A28) : Rel (doB N a) (doZ Z a) (k + 1) := by
  unfold doB doZ
  split
  · exact h.send _ _
  · split
    · exact h.take _ _
    · split
      · exact h.lose _ _
      · split
        · exact h.twin _ _
        · split
          · exact h.turn _ _ _ _
          · exact h.forge _ _
end
set_option maxRecDepth 100000 in
set_option maxHeartbeats 8000000 in
theorem do_walk (N : N28) (Z : X28) (k : Nat) (a : A28) (h : Rel N Z k) (hk : k ≤ 1000) (ha : a.d.length ≤ maxLen) (hm : 0 ≤ a.m ∧ a.m < 4294967296) : Spec Try.prog 7 [.ptr 0 0, .ca (.val (xV Z)), .ca (.val (.agg (aEl a)))] [netO N] (.ca (.val (.tup [xV (doZ Z a), vb true]))) [netO (doB N a)] := by
  have hf := h.fit hk
  have cc := q_cut a.d 40 ha (by decide)
  rw [show (40 : Int).toNat = 40 from rfl] at cc
  have hs : (a.d.take 40).length ≤ 40 := by rw [List.length_take]; omega
  have b1 := net_send N (a.w, a.p) (a.d.take 40) h.ok (by omega) (by omega)
  have b2 := net_take N (a.w, a.p) a.i h.ok (by omega)
  have b3 := net_lose N (a.w, a.p) a.i h.ok (by omega)
  have b4 := net_twin N (a.w, a.p) a.i h.ok (by omega)
  have b5 := net_turn N (a.w, a.p) a.i a.a a.m.toNat h.ok (by omega) (by omega)
  have b6 := net_forge N (a.w, a.p) (a.d.take 40) h.ok (by omega) (by omega)
  have z1 := rx_send Z (a.w, a.p) (a.d.take 40) hf (by omega)
  have z2 := rx_take Z (a.w, a.p) a.i hf
  have z3 := rx_lose Z (a.w, a.p) a.i hf
  have z4 := rx_twin Z (a.w, a.p) a.i hf
  have z5 := rx_turn Z (a.w, a.p) a.i a.a a.m.toNat hf (by omega)
  have z6 := rx_forge Z (a.w, a.p) (a.d.take 40) hf (by omega)
  rw [h.can] at z1 z6
  rw [h.is_eq, h.at_eq] at z2
  rw [h.is_eq] at z3 z5
  rw [h.twin_eq] at z4
  rw [show ((a.m.toNat : Nat) : Int) = a.m by omega] at b5 z5
  have hat := atB_len h.ok (a.w, a.p) a.i
  unfold doB doZ
  dsimp only at b1 b2 b3 b4 b5 b6 z1 z2 z3 z4 z5 z6
  clear hf h ha
  generalize a.d.take 40 = s at *
  generalize canB N (a.w, a.p) s = cb at *
  generalize isB N (a.w, a.p) a.i = ib at *
  generalize atB N (a.w, a.p) a.i = tt at *
  generalize twinOk N (a.w, a.p) a.i = tb at *
  by_cases k0 : a.k = 0
  · rw [if_pos k0, if_pos k0]
    refine spec_of Try.func7 rfl Try.ntmps7 Try.results7 ⟨by decide, by simp⟩ fun C hC => ?_
    (repeat' ((first | refine sp_ ?_ | exact ex0 | refine call_u Try.call15 (cc) [] ex1 ?_ | refine call_u Try.call11 (b1) [(1000, 0)] ex1 ?_ | refine call_u Try.call16 (z1) [] ex1 ?_ | (refine ret_s [] ?_; simp (decide := true) (disch := omega) only [go_sem, ↓reduceIte, ↓put_at]))))
  rw [if_neg k0, if_neg k0]
  by_cases k1 : a.k = 1
  · rw [if_pos k1, if_pos k1]
    refine spec_of Try.func7 rfl Try.ntmps7 Try.results7 ⟨by decide, by simp⟩ fun C hC => ?_
    (repeat' ((first | refine sp_ ?_ | exact ex0 | refine call_u Try.call15 (cc) [] ex1 ?_ | refine call_u Try.call13 (b2) [(1000, 0)] ex1 ?_ | refine call_u Try.call17 (z2) [] ex1 ?_ | (refine ret_s [] ?_; simp (decide := true) (disch := omega) only [go_sem, ↓reduceIte, ↓put_at]))))
  rw [if_neg k1, if_neg k1]
  by_cases k2 : a.k = 2
  · rw [if_pos k2, if_pos k2]
    refine spec_of Try.func7 rfl Try.ntmps7 Try.results7 ⟨by decide, by simp⟩ fun C hC => ?_
    (repeat' ((first | refine sp_ ?_ | exact ex0 | refine call_u Try.call15 (cc) [] ex1 ?_ | refine call_u Try.call19 (b3) [(1000, 0)] ex1 ?_ | refine call_u Try.call18 (z3) [] ex1 ?_ | (refine ret_s [] ?_; simp (decide := true) (disch := omega) only [go_sem, ↓reduceIte, ↓put_at]))))
  rw [if_neg k2, if_neg k2]
  by_cases k3 : a.k = 3
  · rw [if_pos k3, if_pos k3]
    refine spec_of Try.func7 rfl Try.ntmps7 Try.results7 ⟨by decide, by simp⟩ fun C hC => ?_
    (repeat' ((first | refine sp_ ?_ | exact ex0 | refine call_u Try.call15 (cc) [] ex1 ?_ | refine call_u Try.call12 (b4) [(1000, 0)] ex1 ?_ | refine call_u Try.call20 (z4) [] ex1 ?_ | (refine ret_s [] ?_; simp (decide := true) (disch := omega) only [go_sem, ↓reduceIte, ↓put_at]))))
  rw [if_neg k3, if_neg k3]
  by_cases k4 : a.k = 4
  · rw [if_pos k4, if_pos k4]
    refine spec_of Try.func7 rfl Try.ntmps7 Try.results7 ⟨by decide, by simp⟩ fun C hC => ?_
    (repeat' ((first | refine sp_ ?_ | exact ex0 | refine call_u Try.call15 (cc) [] ex1 ?_ | refine call_u Try.call22 (b5) [(1000, 0)] ex1 ?_ | refine call_u Try.call21 (z5) [] ex1 ?_ | (refine ret_s [] ?_; simp (decide := true) (disch := omega) only [go_sem, ↓reduceIte, ↓put_at]))))
  rw [if_neg k4, if_neg k4]
  refine spec_of Try.func7 rfl Try.ntmps7 Try.results7 ⟨by decide, by simp⟩ fun C hC => ?_
  (repeat' ((first | refine sp_ ?_ | exact ex0 | refine call_u Try.call15 (cc) [] ex1 ?_ | refine call_u Try.call24 (b6) [(1000, 0)] ex1 ?_ | refine call_u Try.call23 (z6) [] ex1 ?_ | (refine ret_s [] ?_; simp (decide := true) (disch := omega) only [go_sem, ↓reduceIte, ↓put_at]))))
end Go.Proofs.Ytdkgnlmojmafbaa
