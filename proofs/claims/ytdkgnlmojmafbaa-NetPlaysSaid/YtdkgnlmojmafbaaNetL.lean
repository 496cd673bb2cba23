
/- Package net: the plain law of its bags: what arrives was sent there; as many come as go, or are there. -/
import Derived.Test.YtdkgnlmojmafbaaNet3
namespace Go.Proofs.Ytdkgnlmojmafbaa
open Go.RowKit
set_option linter.unusedVariables false
set_option linter.unusedSimpArgs false

structure A28 where
  k : Int
  w : Int
  p : Int
  i : Int
  a : Int
  m : Int
  d : List UInt8
abbrev aEl (a : A28) : List V := [vi a.k, vi a.w, vi a.p, vi a.i, vi a.a, vu a.m, vs a.d]
/-- Texts that were met. -/
def seenS (s : List (List UInt8)) : List (Value × T) := s.map fun z => (str z, .av (.sc (.bool true)))
theorem str_inj {a b : List UInt8} : str a = str b ↔ a = b := by
  constructor
  · intro h
    injection h with h
    have := congrArg (fun x => x.data.toList) h
    simpa using this
  · rintro rfl; rfl
theorem seenS_get (s : List (List UInt8)) (z : List UInt8) : kvGet (seenS s) (str z) = if z ∈ s then some (.av (.sc (.bool true))) else none := by
  induction s with
  | nil => rfl
  | cons x s ih =>
    show kvGet ((_, _) :: seenS s) _ = _
    rw [kvGet_cons]
    by_cases h : x = z
    · subst h; simp
    · rw [if_neg (fun e => h (str_inj.1 e)), ih]
      have : z ≠ x := fun e => h e.symm
      simp [this]
def addH (s : List (List UInt8)) (z : List UInt8) : List (List UInt8) := if z ∈ s then s else s ++ [z]
theorem addH_self (s : List (List UInt8)) (z : List UInt8) : z ∈ addH s z := by unfold addH; split; assumption; simp
theorem addH_old {s : List (List UInt8)} {z x : List UInt8} (h : x ∈ s) : x ∈ addH s z := by unfold addH; split; exact h; simp [h]
theorem seenS_set (s : List (List UInt8)) (z : List UInt8) : kvSet (seenS s) (str z) (.av (.sc (.bool true))) = seenS (addH s z) := by
  unfold addH
  induction s with
  | nil => rfl
  | cons x s ih =>
    show kvSet ((_, _) :: seenS s) _ _ = _
    rw [kvSet_cons]
    by_cases h : x = z
    · subst h; simp [seenS]
    · have h2 : z ≠ x := fun e => h e.symm
      rw [if_neg (fun e => h (str_inj.1 e)), ih]
      by_cases hz : z ∈ s
      · simp [hz, seenS]
      · simp [hz, h2, seenS]
theorem seenS_keys (s : List (List UInt8)) : keysIs .str ((seenS s).map (·.1)) = True := eq_true (keysIs_of fun k hk => by
  obtain ⟨p, hp, rfl⟩ := List.mem_map.1 hk
  obtain ⟨z, _, rfl⟩ := List.mem_map.1 hp
  trivial)
attribute [go_sem] seenS_keys seenS_set
def keyL (l : Ln) : List UInt8 := [UInt8.ofNat (48 + l.1).toNat, UInt8.ofNat (48 + l.2).toNat]
def total : Bags → Nat
  | [] => 0
  | p :: m => p.2.length + total m
theorem total_set (l : Ln) (b : List (List UInt8)) : ∀ m : Bags, total (setB m l b) + (bagB m l).length = total m + b.length
  | [] => by simp [setB, total, bagB, getB]
  | p :: m => by
    have ih := total_set l b m
    unfold bagB at ih ⊢
    unfold setB getB
    by_cases h : p.1 = l
    · rw [if_pos h, if_pos h]; simp [total]; omega
    · rw [if_neg h, if_neg h]; simp only [total]; omega
theorem total_del (l : Ln) : ∀ m : Bags, total (delB m l) + (bagB m l).length = total m
  | [] => by simp [delB, total, bagB, getB]
  | p :: m => by
    have ih := total_del l m
    unfold bagB at ih ⊢
    unfold delB getB
    by_cases h : p.1 = l
    · rw [if_pos h, if_pos h]; simp [total]; omega
    · rw [if_neg h, if_neg h]; simp only [total]; omega
theorem total_less (l : Ln) (b : List (List UInt8)) (m : Bags) : total (lessB m l b) + (bagB m l).length = total m + b.length := by
  unfold lessB
  split
  · rename_i h; rw [h]; exact total_del l m
  · exact total_set l b m
def thS (m : Bags) : Nat → Nat
  | 0 => 0
  | j + 1 => thS m j + ((bagB m (0, ((j + 1 : Nat) : Int))).length + (bagB m (1, ((j + 1 : Nat) : Int))).length)
theorem bagB_cons (p : Ln × List (List UInt8)) (m : Bags) (l : Ln) : bagB (p :: m) l = if p.1 = l then p.2 else bagB m l := by
  show (getB (p :: m) l).getD [] = _
  rw [show getB (p :: m) l = if p.1 = l then some p.2 else getB m l from rfl]
  split
  · rfl
  · rfl
theorem bagB_out {m : Bags} {l : Ln} (h : l ∉ m.map (·.1)) : bagB m l = [] := by unfold bagB; rw [getB_none h]; rfl
theorem th4 (m : Bags) : thS m 4 = 0 + ((bagB m (0, 1)).length + (bagB m (1, 1)).length) + ((bagB m (0, 2)).length + (bagB m (1, 2)).length) + ((bagB m (0, 3)).length + (bagB m (1, 3)).length) + ((bagB m (0, 4)).length + (bagB m (1, 4)).length) := rfl
theorem th_total : ∀ m : Bags, (m.map (·.1)).Nodup → (∀ p ∈ m, (p.1.1 = 0 ∨ p.1.1 = 1) ∧ 1 ≤ p.1.2 ∧ p.1.2 ≤ 4) → thS m 4 = total m
  | [], _, _ => rfl
  | p :: m, hn, hl => by
    rw [List.map_cons, List.nodup_cons] at hn
    have ih := th_total m hn.2 (fun q hq => hl q (by simp [hq]))
    have h0 := bagB_out hn.1
    obtain ⟨h1, h2, h3⟩ := hl p (by simp)
    obtain ⟨⟨w, t⟩, b⟩ := p
    dsimp only at h0 h1 h2 h3
    have ht : t = 1 ∨ t = 2 ∨ t = 3 ∨ t = 4 := by omega
    rw [th4] at ih ⊢
    simp only [bagB_cons, total]
    rcases h1 with rfl | rfl
    · rcases ht with rfl | rfl | rfl | rfl
      · rw [h0] at ih; simp; simp at ih; omega
      · rw [h0] at ih; simp; simp at ih; omega
      · rw [h0] at ih; simp; simp at ih; omega
      · rw [h0] at ih; simp; simp at ih; omega
    · rcases ht with rfl | rfl | rfl | rfl
      · rw [h0] at ih; simp; simp at ih; omega
      · rw [h0] at ih; simp; simp at ih; omega
      · rw [h0] at ih; simp; simp at ih; omega
      · rw [h0] at ih; simp; simp at ih; omega
/-- What holds between the calls. -/
structure BagI (N : N28) (had : List (List UInt8)) (lost : Int) (i : Nat) : Prop where
  ok : N.Ok i
  ln : ∀ p ∈ N.m, 1 ≤ p.1.2 ∧ p.1.2 ≤ 4
  had : ∀ p ∈ N.m, ∀ s ∈ p.2, keyL p.1 ++ s ∈ had
  sum : N.sent + N.twins + N.forged = N.taken + N.lost - lost + (total N.m : Nat)
  lost : 0 ≤ lost ∧ lost ≤ i
theorem BagI.th {N : N28} {had : List (List UInt8)} {lost : Int} {i : Nat} (h : BagI N had lost i) : N.sent + N.twins + N.forged = N.taken + N.lost - lost + (thS N.m 4 : Nat) := by
  rw [th_total N.m h.ok.nd (fun p hp => ⟨by have := (h.ok.bags p hp).1; unfold lnOk at this; rw [decide_eq_true_eq] at this; exact this.1, h.ln p hp⟩)]
  exact h.sum
theorem bag_mem {m : Bags} {l : Ln} {s : List UInt8} (h : s ∈ bagB m l) : ∃ b, (l, b) ∈ m ∧ s ∈ b ∧ bagB m l = b := by
  unfold bagB at h ⊢
  cases hg : getB m l with
  | none => rw [hg] at h; cases h
  | some b => rw [hg] at h; exact ⟨b, getB_mem hg, h, rfl⟩
theorem put_I {N : N28} {had : List (List UInt8)} {l : Ln} {s : List UInt8} (hl : 1 ≤ l.2 ∧ l.2 ≤ 4) (h1 : ∀ p ∈ N.m, 1 ≤ p.1.2 ∧ p.1.2 ≤ 4) (h2 : ∀ p ∈ N.m, ∀ s ∈ p.2, keyL p.1 ++ s ∈ had) (hc : canB N l s = true) :
    (∀ p ∈ (putB N l s).m, 1 ≤ p.1.2 ∧ p.1.2 ≤ 4) ∧ (∀ had' : List (List UInt8), (∀ x ∈ had, x ∈ had') → keyL l ++ s ∈ had' → ∀ p ∈ (putB N l s).m, ∀ s ∈ p.2, keyL p.1 ++ s ∈ had') ∧ total (putB N l s).m = total N.m + 1 := by
  unfold putB
  rw [if_pos hc]
  dsimp only
  refine ⟨fun p hp => ?_, fun had' hh hk p hp x hx => ?_, ?_⟩
  · rcases setB_mem hp with rfl | hp
    · exact hl
    · exact h1 p hp
  · rcases setB_mem hp with rfl | hp
    · dsimp only at hx ⊢
      rcases List.mem_append.1 hx with hx | hx
      · obtain ⟨b, hb, hxb, _⟩ := bag_mem hx
        exact hh _ (h2 _ hb x hxb)
      · simp at hx; subst hx; exact hk
    · exact hh _ (h2 p hp x hx)
  · have := total_set l (bagB N.m l ++ [s]) N.m
    rw [List.length_append] at this
    simp at this
    omega
theorem cut_I {N : N28} {had : List (List UInt8)} {l : Ln} {i : Int} (h1 : ∀ p ∈ N.m, 1 ≤ p.1.2 ∧ p.1.2 ≤ 4) (h2 : ∀ p ∈ N.m, ∀ s ∈ p.2, keyL p.1 ++ s ∈ had) (hc : isB N l i = true) :
    (∀ p ∈ (cutB N l i).m, 1 ≤ p.1.2 ∧ p.1.2 ≤ 4) ∧ (∀ p ∈ (cutB N l i).m, ∀ s ∈ p.2, keyL p.1 ++ s ∈ had) ∧ total (cutB N l i).m + 1 = total N.m ∧ keyL l ++ atB N l i ∈ had := by
  have hi := hc
  unfold isB at hi
  rw [decide_eq_true_eq] at hi
  have hlt : i.toNat < (bagB N.m l).length := by omega
  have hat : atB N l i = (bagB N.m l)[i.toNat] := by unfold atB; rw [if_pos hc]; simp [hlt]
  obtain ⟨b, hb, hxb, hbe⟩ := bag_mem (List.getElem_mem hlt)
  unfold cutB
  rw [if_pos hc]
  dsimp only
  have hsub : ∀ p ∈ lessB N.m l ((bagB N.m l).eraseIdx i.toNat), p ∈ N.m ∨ (p.1 = l ∧ ∀ s ∈ p.2, s ∈ b) := fun p hp => by
    unfold lessB at hp
    split at hp
    · exact .inl (delB_sub.subset hp)
    · rcases setB_mem hp with rfl | hp
      · exact .inr ⟨rfl, fun s hs => by rw [← hbe]; exact List.mem_of_mem_eraseIdx hs⟩
      · exact .inl hp
  refine ⟨fun p hp => ?_, fun p hp s hs => ?_, ?_, by rw [hat]; exact h2 _ hb _ hxb⟩
  · rcases hsub p hp with h | ⟨h, _⟩
    · exact h1 p h
    · rw [h]; exact h1 _ hb
  · rcases hsub p hp with h | ⟨h, h'⟩
    · exact h2 p h s hs
    · rw [h]; exact h2 _ hb s (h' s hs)
  · have := total_less l ((bagB N.m l).eraseIdx i.toNat) N.m
    rw [List.length_eraseIdx_of_lt hlt] at this
    omega
theorem send_I {N : N28} {had : List (List UInt8)} {lost : Int} {i : Nat} (h : BagI N had lost i) {l : Ln} (hl : 1 ≤ l.2 ∧ l.2 ≤ 4) (s : List UInt8) :
    (canB N l s = true → BagI (sendB N l s) (addH had (keyL l ++ s)) lost (i + 1)) ∧ (canB N l s = false → BagI (sendB N l s) had (lost + 1) (i + 1)) := by
  have hok := send_ok h.ok l s
  have hlo := h.lost
  constructor
  · intro hc
    obtain ⟨g1, g2, g3⟩ := put_I hl h.ln h.had hc
    have hs := h.sum
    refine ⟨hok, ?_, ?_, ?_, by omega⟩
    · unfold sendB; rw [if_pos hc]; exact g1
    · unfold sendB; rw [if_pos hc]; exact g2 _ (fun x hx => addH_old hx) (addH_self _ _)
    · unfold sendB; rw [if_pos hc]
      dsimp only
      rw [g3]
      unfold putB; rw [if_pos hc]
      dsimp only
      omega
  · intro hc
    have hs := h.sum
    have he : sendB N l s = { N with lost := N.lost + 1 } := by unfold sendB putB; rw [hc]; rfl
    rw [he] at hok ⊢
    refine ⟨hok, h.ln, h.had, ?_, by omega⟩
    dsimp only
    omega
theorem forge_I {N : N28} {had : List (List UInt8)} {lost : Int} {i : Nat} (h : BagI N had lost i) {l : Ln} (hl : 1 ≤ l.2 ∧ l.2 ≤ 4) (s : List UInt8) :
    (canB N l s = true → BagI (forgeB N l s) (addH had (keyL l ++ s)) lost (i + 1)) ∧ (canB N l s = false → BagI (forgeB N l s) had (lost + 1) (i + 1)) := by
  have hok := forge_ok h.ok l s
  have hlo := h.lost
  constructor
  · intro hc
    obtain ⟨g1, g2, g3⟩ := put_I hl h.ln h.had hc
    have hs := h.sum
    refine ⟨hok, ?_, ?_, ?_, by omega⟩
    · unfold forgeB; rw [if_pos hc]; exact g1
    · unfold forgeB; rw [if_pos hc]; exact g2 _ (fun x hx => addH_old hx) (addH_self _ _)
    · unfold forgeB; rw [if_pos hc]
      dsimp only
      rw [g3]
      unfold putB; rw [if_pos hc]
      dsimp only
      omega
  · intro hc
    have hs := h.sum
    have he : forgeB N l s = { N with lost := N.lost + 1 } := by unfold forgeB putB; rw [hc]; rfl
    rw [he] at hok ⊢
    refine ⟨hok, h.ln, h.had, ?_, by omega⟩
    dsimp only
    omega
theorem take_I {N : N28} {had : List (List UInt8)} {lost : Int} {i : Nat} (h : BagI N had lost i) (l : Ln) (j : Int) : BagI (takeB N l j) had lost (i + 1) ∧ (isB N l j = true → keyL l ++ atB N l j ∈ had) := by
  have hok := take_ok h.ok l j
  have hlo := h.lost
  have hs := h.sum
  cases hc : isB N l j with
  | true =>
    obtain ⟨g1, g2, g3, g4⟩ := cut_I h.ln h.had hc
    refine ⟨⟨hok, ?_, ?_, ?_, by omega⟩, fun _ => g4⟩
    · unfold takeB; rw [if_pos hc]; exact g1
    · unfold takeB; rw [if_pos hc]; exact g2
    · unfold takeB; rw [if_pos hc]
      dsimp only
      have : (cutB N l j).sent = N.sent ∧ (cutB N l j).twins = N.twins ∧ (cutB N l j).forged = N.forged ∧ (cutB N l j).taken = N.taken ∧ (cutB N l j).lost = N.lost := by unfold cutB; rw [if_pos hc]; exact ⟨rfl, rfl, rfl, rfl, rfl⟩
      omega
  | false =>
    have he : takeB N l j = N := by unfold takeB cutB; rw [hc]; rfl
    rw [he] at hok ⊢
    exact ⟨⟨hok, h.ln, h.had, hs, by omega⟩, fun h => by cases h⟩
theorem lose_I {N : N28} {had : List (List UInt8)} {lost : Int} {i : Nat} (h : BagI N had lost i) (l : Ln) (j : Int) : BagI (loseB N l j) had lost (i + 1) := by
  have hok := lose_ok h.ok l j
  have hlo := h.lost
  have hs := h.sum
  cases hc : isB N l j with
  | true =>
    obtain ⟨g1, g2, g3, g4⟩ := cut_I h.ln h.had hc
    refine ⟨hok, ?_, ?_, ?_, by omega⟩
    · unfold loseB; rw [if_pos hc]; exact g1
    · unfold loseB; rw [if_pos hc]; exact g2
    · unfold loseB; rw [if_pos hc]
      dsimp only
      have : (cutB N l j).sent = N.sent ∧ (cutB N l j).twins = N.twins ∧ (cutB N l j).forged = N.forged ∧ (cutB N l j).taken = N.taken ∧ (cutB N l j).lost = N.lost := by unfold cutB; rw [if_pos hc]; exact ⟨rfl, rfl, rfl, rfl, rfl⟩
      omega
  | false =>
    have he : loseB N l j = N := by unfold loseB cutB; rw [hc]; rfl
    rw [he] at hok ⊢
    exact ⟨hok, h.ln, h.had, hs, by omega⟩
theorem twin_I {N : N28} {had : List (List UInt8)} {lost : Int} {i : Nat} (h : BagI N had lost i) {l : Ln} (hl : 1 ≤ l.2 ∧ l.2 ≤ 4) (j : Int) : BagI (twinB N l j) had lost (i + 1) := by
  have hok := twin_ok h.ok l j
  have hlo := h.lost
  have hs := h.sum
  cases hc : twinOk N l j with
  | true =>
    unfold twinOk at hc
    rw [Bool.and_eq_true] at hc
    obtain ⟨hc1, hc2⟩ := hc
    obtain ⟨g1, g2, g3⟩ := put_I hl h.ln h.had hc2
    obtain ⟨_, _, _, g4⟩ := cut_I h.ln h.had hc1
    have hc : twinOk N l j = true := by unfold twinOk; rw [hc1, hc2]; rfl
    refine ⟨hok, ?_, ?_, ?_, by omega⟩
    · unfold twinB; rw [if_pos hc]; exact g1
    · unfold twinB; rw [if_pos hc]; exact g2 had (fun x hx => hx) g4
    · unfold twinB; rw [if_pos hc]
      dsimp only
      rw [g3]
      unfold putB; rw [if_pos hc2]
      dsimp only
      omega
  | false =>
    have he : twinB N l j = N := by unfold twinB; rw [hc]; rfl
    rw [he] at hok ⊢
    exact ⟨hok, h.ln, h.had, hs, by omega⟩
theorem new_I (a b : Int) : BagI (newB a b) [] 0 0 := ⟨newB_ok a b, fun p hp => by simp [newB] at hp, fun p hp => by simp [newB] at hp, by simp [newB, total], by omega⟩
theorem th_le {N : N28} {K : Int} (h : N.Ok K) : ∀ j : Nat, (thS N.m j : Int) ≤ 2048 * j
  | 0 => by simp [thS]
  | j + 1 => by
    have ih := th_le h j
    have h1 := (bagB_small h (0, ((j + 1 : Nat) : Int))).1
    have h2 := (bagB_small h (1, ((j + 1 : Nat) : Int))).1
    have hm := h.most
    simp only [thS]
    omega
end Go.Proofs.Ytdkgnlmojmafbaa
