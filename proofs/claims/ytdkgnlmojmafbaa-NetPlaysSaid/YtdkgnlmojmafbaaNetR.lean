
/- Package net: bags by lanes, and the document's one list: they are alike behind any calls (plain). -/
import Derived.Test.YtdkgnlmojmafbaaNet7
import Derived.Test.YtdkgnlmojmafbaaNet8
import Derived.Test.YtdkgnlmojmafbaaNetY
namespace Go.Proofs.Ytdkgnlmojmafbaa
open Go.RowKit
set_option linter.unusedVariables false
set_option linter.unusedSimpArgs false

/-- A net is the document's. -/
structure Rel (N : N28) (Z : X28) (k : Nat) : Prop where
  ok : N.Ok (k : Int)
  most : Z.most = N.most
  bytes : Z.bytes = N.bytes
  bag : ∀ l, bagB N.m l = allO Z.l l
  len : Z.l.length ≤ k
  ds : ∀ o ∈ Z.l, o.d.length ≤ 1500
  e1 : Z.sent = N.sent
  e2 : Z.lost = N.lost
  e3 : Z.taken = N.taken
  e4 : Z.twins = N.twins
  e5 : Z.turned = N.turned
  e6 : Z.forged = N.forged
theorem Rel.fit {N : N28} {Z : X28} {k : Nat} (h : Rel N Z k) (hk : k ≤ 1000) : Fit Z :=
  ⟨by have := h.len; omega, fun o ho => by have := h.ds o ho; omega, by have := h.e1; have := h.ok.c1; omega, by have := h.e2; have := h.ok.c2; omega, by have := h.e3; have := h.ok.c3; omega, by have := h.e4; have := h.ok.c4; omega, by have := h.e5; have := h.ok.c5; omega, by have := h.e6; have := h.ok.c6; omega⟩
theorem allO_cons (o : O28) (os : List O28) (l : Ln) : allO (o :: os) l = (if o.w = l.1 ∧ o.p = l.2 then [o.d] else []) ++ allO os l := by
  rw [show o :: os = [o] ++ os from rfl, allO_app, allO_one]
/-- Where the i-th one of a lane is, it is. -/
theorem plO_spec (l : Ln) (i : Int) : ∀ (os : List O28) (a k : Nat), (plO l i os a k = -1 ∧ ¬ ((k : Int) ≤ i ∧ i < (k : Int) + (allO os l).length)) ∨
    ∃ p : Nat, ∃ h : p < os.length, plO l i os a k = ((a + p : Nat) : Int) ∧ (os[p].w = l.1 ∧ os[p].p = l.2) ∧ i = (k : Int) + (allO (os.take p) l).length
  | [], a, k => .inl ⟨rfl, by simp [allO]⟩
  | o :: os, a, k => by
    unfold plO
    rw [allO_cons]
    by_cases h : o.w = l.1 ∧ o.p = l.2
    · rw [if_pos h, if_pos h]
      by_cases hk : (k : Int) = i
      · rw [if_pos hk]
        refine .inr ⟨0, by simp, rfl, h, ?_⟩
        simp [allO, hk]
      · rw [if_neg hk]
        rcases plO_spec l i os (a + 1) (k + 1) with ⟨h1, h2⟩ | ⟨p, hp, h1, h2, h3⟩
        · refine .inl ⟨h1, fun q => h2 ?_⟩
          simp only [List.length_append, List.length_singleton] at q
          omega
        · refine .inr ⟨p + 1, by simpa using hp, by rw [h1]; omega, h2, ?_⟩
          rw [List.take_succ_cons, allO_cons, if_pos h, List.length_append, List.length_singleton]
          omega
    · rw [if_neg h, if_neg h]
      rcases plO_spec l i os (a + 1) k with ⟨h1, h2⟩ | ⟨p, hp, h1, h2, h3⟩
      · exact .inl ⟨h1, by simpa using h2⟩
      · refine .inr ⟨p + 1, by simpa using hp, by rw [h1]; omega, h2, ?_⟩
        rw [List.take_succ_cons, allO_cons, if_neg h, List.nil_append]
        exact h3
/-- A lane's list, cut at one of its places. -/
theorem allO_split {os : List O28} {p : Nat} (h : p < os.length) (l : Ln) : allO os l = allO (os.take p) l ++ (if os[p].w = l.1 ∧ os[p].p = l.2 then [os[p].d] else []) ++ allO (os.drop (p + 1)) l := by
  have e : os = os.take p ++ ([os[p]] ++ os.drop (p + 1)) := by
    rw [List.singleton_append, ← List.drop_eq_getElem_cons h, List.take_append_drop]
  have : allO os l = allO (os.take p ++ ([os[p]] ++ os.drop (p + 1))) l := by rw [← e]
  rw [this, allO_app, allO_app, allO_one, List.append_assoc]
theorem allO_erase {os : List O28} {p : Nat} (h : p < os.length) (l : Ln) : allO (os.eraseIdx p) l = allO (os.take p) l ++ allO (os.drop (p + 1)) l := by
  rw [List.eraseIdx_eq_take_drop_succ, allO_app]
theorem allO_set {os : List O28} {p : Nat} (h : p < os.length) (l : Ln) (x : O28) : allO (os.set p x) l = allO (os.take p) l ++ (if x.w = l.1 ∧ x.p = l.2 then [x.d] else []) ++ allO (os.drop (p + 1)) l := by
  rw [List.set_eq_take_append_cons_drop, if_pos h, show x :: os.drop (p + 1) = [x] ++ os.drop (p + 1) from rfl, allO_app, allO_app, allO_one, List.append_assoc]
section
variable {N : N28} {Z : X28} {k : Nat}
theorem Rel.is (h : Rel N Z k) (l : Ln) (i : Int) : (isZ Z l i = false ∧ isB N l i = false) ∨
    ∃ p : Nat, ∃ hp : p < Z.l.length, plZ Z l i = (p : Int) ∧ isZ Z l i = true ∧ isB N l i = true ∧ (Z.l[p].w = l.1 ∧ Z.l[p].p = l.2) ∧ i.toNat = (allO (Z.l.take p) l).length ∧ atZ8 Z l i = Z.l[p].d ∧ atB N l i = Z.l[p].d := by
  rcases plO_spec l i Z.l 0 0 with ⟨h1, h2⟩ | ⟨p, hp, h1, h2, h3⟩
  · left
    refine ⟨(isZ_no h1).1, ?_⟩
    unfold isB
    rw [h.bag, decide_eq_false_iff_not]
    intro q
    exact h2 (by simpa using q)
  · right
    rw [Nat.zero_add] at h1
    obtain ⟨a1, a2, a3⟩ := atZ8_get (Z := Z) (l := l) (i := i) h1 hp
    have hs := allO_split hp l
    rw [if_pos h2] at hs
    have hb : isB N l i = true := by
      unfold isB
      rw [h.bag, decide_eq_true_eq, hs]
      simp only [List.length_append, List.length_singleton]
      omega
    have hi : i.toNat = (allO (Z.l.take p) l).length := by omega
    refine ⟨p, hp, h1, a1, hb, h2, hi, a2, ?_⟩
    unfold atB
    rw [if_pos hb, h.bag, hs, hi]
    simp
theorem Rel.is_eq (h : Rel N Z k) (l : Ln) (i : Int) : isZ Z l i = isB N l i := by
  rcases h.is l i with ⟨a, b⟩ | ⟨p, hp, _, a, b, _⟩
  · rw [a, b]
  · rw [a, b]
theorem Rel.at_eq (h : Rel N Z k) (l : Ln) (i : Int) : atZ8 Z l i = atB N l i := by
  rcases h.is l i with ⟨a, b⟩ | ⟨p, hp, _, _, _, _, _, a, b⟩
  · unfold atZ8 atB; rw [a, b]; rfl
  · rw [a, b]
theorem Rel.can (h : Rel N Z k) (l : Ln) (s : List UInt8) : canX Z l s = canB N l s := by
  unfold canX canB
  rw [h.bag, h.most, h.bytes]
theorem Rel.put (h : Rel N Z k) (l : Ln) (s : List UInt8) : Rel (putB N l s) (putX Z l s) (k + 1) := by
  have hm := (put_ok h.ok l s).mono (K' := ((k + 1 : Nat) : Int)) (by omega)
  have hc := h.can l s
  unfold putB at hm ⊢
  unfold putX
  rw [hc]
  by_cases hcb : canB N l s = true
  · rw [if_pos hcb] at hm ⊢
    rw [if_pos hcb]
    refine ⟨hm, h.most, h.bytes, fun l' => ?_, by have := h.len; simp; omega, fun o ho => ?_, h.e1, h.e2, h.e3, h.e4, h.e5, h.e6⟩
    · dsimp only
      rw [bagB_set, allO_app, allO_one, h.bag, h.bag]
      by_cases hl : l = l'
      · subst hl; simp
      · rw [if_neg hl, if_neg (fun q => hl (Prod.ext q.1 q.2)), List.append_nil]
    · rcases List.mem_append.1 ho with ho | ho
      · exact h.ds o ho
      · simp at ho
        subst ho
        unfold canB at hcb
        rw [decide_eq_true_eq] at hcb
        exact hcb.2.2.1
  · rw [if_neg hcb] at hm ⊢
    rw [if_neg hcb]
    exact ⟨hm, h.most, h.bytes, h.bag, by have := h.len; omega, h.ds, h.e1, h.e2, h.e3, h.e4, h.e5, h.e6⟩
theorem Rel.cut (h : Rel N Z k) (l : Ln) (i : Int) : Rel (cutB N l i) (cutZ Z l i) k := by
  have hm := cut_ok h.ok l i
  unfold cutB at hm ⊢
  unfold cutZ
  rcases h.is l i with ⟨a, b⟩ | ⟨p, hp, hpl, a, b, hon, hi, _, _⟩
  · rw [a, b, if_neg (by decide), if_neg (by decide)]
    exact h
  · rw [if_pos b] at hm ⊢
    rw [if_pos a, hpl, show ((p : Int).toNat) = p from rfl]
    refine ⟨hm, h.most, h.bytes, fun l' => ?_, by have := h.len; have := List.length_eraseIdx_le Z.l p; dsimp only; omega, fun o ho => h.ds o (List.mem_of_mem_eraseIdx ho), h.e1, h.e2, h.e3, h.e4, h.e5, h.e6⟩
    dsimp only
    rw [bagB_less h.ok.nd, allO_erase hp, h.bag, h.bag, hi]
    by_cases hl : l = l'
    · subst hl
      rw [if_pos rfl, allO_split hp l, if_pos hon, List.append_assoc, List.eraseIdx_append_of_length_le (by omega)]
      simp
    · rw [if_neg hl, allO_split hp l', if_neg (fun q => hl (Prod.ext (hon.1.symm.trans q.1) (hon.2.symm.trans q.2))), List.append_nil]
theorem Rel.turn (h : Rel N Z k) (l : Ln) (i a : Int) (m : Nat) : Rel (turnB N l i a m) (turnZ Z l i a m) (k + 1) := by
  have hm := turn_ok h.ok l i a m
  have ha := h.at_eq l i
  unfold turnB at hm ⊢
  unfold turnZ
  rcases h.is l i with ⟨e1, e2⟩ | ⟨p, hp, hpl, e1, e2, hon, hi, e3, e4⟩
  · rw [e2, if_neg (by decide)] at hm
    rw [e1, e2, if_neg (by decide), if_neg (by decide)]
    exact ⟨by have := hm; exact_mod_cast this, h.most, h.bytes, h.bag, by have := h.len; omega, h.ds, h.e1, h.e2, h.e3, h.e4, h.e5, h.e6⟩
  · rw [if_pos e2] at hm ⊢
    rw [if_pos e1, hpl, show ((p : Int).toNat) = p from rfl, e3]
    rw [e4] at hm ⊢
    have hg : Z.l.getD p ⟨0, 0, []⟩ = Z.l[p] := by simp [hp]
    rw [hg]
    refine ⟨by exact_mod_cast hm, h.most, h.bytes, fun l' => ?_, by have := h.len; dsimp only; rw [List.length_set]; omega, fun o ho => ?_, h.e1, h.e2, h.e3, h.e4, by dsimp only; rw [h.e5], h.e6⟩
    · dsimp only
      rw [bagB_set, allO_set hp, h.bag, h.bag, hi]
      dsimp only
      by_cases hl : l = l'
      · subst hl
        rw [if_pos rfl, if_pos hon, allO_split hp l, if_pos hon, List.append_assoc, List.set_append_right _ _ (by omega)]
        simp
      · have hno : ¬ (Z.l[p].w = l'.1 ∧ Z.l[p].p = l'.2) := fun q => hl (Prod.ext (hon.1.symm.trans q.1) (hon.2.symm.trans q.2))
        rw [if_neg hl, allO_split hp l', if_neg hno, if_neg hno]
    · rcases List.mem_or_eq_of_mem_set ho with ho | ho
      · exact h.ds o ho
      · rw [ho]
        dsimp only
        rw [turnS_len]
        exact h.ds _ (List.getElem_mem hp)
end
end Go.Proofs.Ytdkgnlmojmafbaa
