/- Package media: Parse. -/
import Derived.Test.YtkclmofjlmeolaaGreatDoorMedia1z
import Derived.Test.YtkclmofjlmeolaaGreatDoorRtp4z
import Derived.Test.YtkclmofjlmeolaaGreatDoorRBz
import Derived.Test.YtkclmofjlmeolaaGreatDoorFrmMz
import Derived.Test.YtkclmofjlmeolaaGreatDoorQInz
namespace Go.Proofs.YtkclmofjlmeolaaGreatDoor
open Go.RowKit
set_option linter.unusedVariables false
set_option linter.unusedSimpArgs false

set_option maxRecDepth 100000 in
set_option maxHeartbeats 8000000 in
theorem media_elements (p : P4) (hl : p.ext.length ≤ 1000000) : Spec Tryz.prog 23 [.ca (.val (.agg (p4L p)))] [] (.ca (.val (.tup [.lst 2 ((if p.hasExt = true then (parse5 p.profile p.ext).2.1 else []).map e5El), vi (if p.hasExt = true then (parse5 p.profile p.ext).2.2 else 5)]))) [] := by
  have c := exts_of p hl
  obtain ⟨mk, kd, sq, tm, sr, os, hx, pf, ex, da, pd⟩ := p
  dsimp only at *
  cases hx with
  | true =>
    simp only [if_true] at c ⊢
    refine spec_of Tryz.func23 rfl Tryz.ntmps23 Tryz.results23 ⟨by decide, by simp⟩ fun C hC => ?_
    (repeat (first | refine sp_ ?_ | exact ex0))
    refine call_s Tryz.call55 c [] ?_
    (repeat (first | refine sp_ ?_ | exact ex0))
    (refine ret_s [] ?_; simp (decide := true) (disch := omega) only [go_sem, ↓reduceIte, ↓put_at])
  | false =>
    simp only [Bool.false_eq_true, if_false, List.map_nil]
    refine spec_of Tryz.func23 rfl Tryz.ntmps23 Tryz.results23 ⟨by decide, by simp⟩ fun C hC => ?_
    (repeat (first | refine sp_ ?_ | exact ex0))
    (refine ret_s [] ?_; simp (decide := true) (disch := omega) only [go_sem, ↓reduceIte, ↓put_at])
theorem find5_len (l : List E5) (id : Int) (hd : ∀ x ∈ l, x.data.length ≤ maxLen) : ((find5 l id).getD []).length ≤ maxLen := by
  unfold find5
  cases h : l.find? (fun x => decide (x.id = id)) with
  | none => simp [maxLen]
  | some x => exact hd x (List.mem_of_find?_eq_some h)
theorem rawL_len (l : List UInt8) (e n : Int) : (rawL l e n).length ≤ l.length := by
  unfold rawL failL
  split
  · rw [List.length_drop]; omega
  · split
    · simp
    · exact Nat.le_refl _
set_option maxRecDepth 100000 in
set_option maxHeartbeats 4000000 in
theorem media_read (p : P4) (l : List E5) (hl : l.length ≤ maxLen) (hd : ∀ x ∈ l, x.data.length ≤ maxLen) : Spec Tryz.prog 24 [.ca (.val (.agg (p4L p))), .ca (.val (.lst 2 (l.map e5El)))] [] (.ca (.val (.agg (m6L (rd6 p l))))) [] := by
  have c1 := exts_find l 1 hl
  have c2 := exts_find l 2 hl
  have la := find5_len l 1 hd
  have lb := find5_len l 2 hd
  have e0 : rd6 p l = ⟨p.src, p.seq, p.time, getN (rawT ((find5 l 1).getD []) 1), getN (rawT (rawL ((find5 l 1).getD []) 0 1) 2), getN (rawT ((find5 l 2).getD []) 1), getN (rawT (rawL ((find5 l 2).getD []) 0 1) 1), p.data⟩ := rfl
  rw [e0]
  generalize (find5 l 1).getD [] = a at *
  generalize (find5 l 2).getD [] = b at *
  generalize (find5 l 1).isSome = A at *
  generalize (find5 l 2).isSome = B at *
  clear e0
  have k1 := pen_of a
  have k2 := pen_of b
  have k3 := in_u8 a 0 la
  have k4 := in_u16 (rawL a 0 1) (rawE a 0 1) (Nat.le_trans (rawL_len _ _ _) la)
  have k5 := in_u8 b 0 lb
  have k6 := in_u8 (rawL b 0 1) (rawE b 0 1) (Nat.le_trans (rawL_len _ _ _) lb)
  have h16 : (getN (rawT (rawL a 0 1) 2) : Int) < 65536 := raw_lt (rawL a 0 1) 2 65536 (by decide)
  obtain ⟨mk, kd, sq, tm, sr, os, hx, pf, ex, da, pd⟩ := p
  refine spec_of Tryz.func24 rfl Tryz.ntmps24 Tryz.results24 ⟨by decide, by simp⟩ fun C hC => ?_
  (repeat (first | refine sp_ ?_ | exact ex0))
  refine call_s Tryz.call56 c1 [] ?_
  (repeat (first | refine sp_ ?_ | exact ex0))
  refine call_s Tryz.call56 c2 [] ?_
  (repeat (first | refine sp_ ?_ | exact ex0))
  refine call_s Tryz.call47 k1 [] ?_
  (repeat (first | refine sp_ ?_ | exact ex0))
  refine call_s Tryz.call47 k2 [] ?_
  (repeat (first | refine sp_ ?_ | exact ex0))
  refine call_s Tryz.call48 k3 [(35, 0)] ?_
  (repeat (first | refine sp_ ?_ | exact ex0))
  refine call_s Tryz.call49 k4 [(35, 0)] ?_
  (repeat (first | refine sp_ ?_ | exact ex0))
  refine call_s Tryz.call48 k5 [(37, 0)] ?_
  (repeat (first | refine sp_ ?_ | exact ex0))
  refine call_s Tryz.call48 k6 [(37, 0)] ?_
  (repeat (first | refine sp_ ?_ | exact ex0))
  (refine ret_s [] ?_; simp (decide := true) (disch := omega) only [go_sem, ↓reduceIte, ↓put_at])
theorem rd6_ok (p : P4) (l : List E5) (hp : p.Ok) : (rd6 p l).Ok := by
  refine ⟨hp.src, hp.seq, hp.time, ?_⟩
  show 0 ≤ (getN (rawT (rawL (rd6.find5' l 1) 0 1) 2) : Int) ∧ (getN (rawT (rawL (rd6.find5' l 1) 0 1) 2) : Int) < 65536
  exact ⟨by omega, raw_lt _ 2 65536 (by decide)⟩
theorem body4_data (p : P4) : p.data.length ≤ (body4 p).length := by
  unfold body4
  simp only [List.length_append]
  omega
set_option maxRecDepth 100000 in
set_option maxHeartbeats 4000000 in
theorem media_parse (s : List UInt8) (hl : s.length ≤ 1099511627776) : Spec Tryz.prog 9 [.ca (.val (vs s))] [] (.ca (.val (.tup [.agg (m6L (parse6 s).1), vi (parse6 s).2]))) [] := by
  obtain ⟨R, hR⟩ : ∃ R, R = parse6 s := ⟨_, rfl⟩
  rw [← hR]
  unfold parse6 at hR
  by_cases h1 : 1500 < s.length
  · rw [if_pos h1] at hR
    subst hR
    unfold no6
    refine spec_of Tryz.func9 rfl Tryz.ntmps9 Tryz.results9 ⟨by decide, by simp⟩ fun C hC => ?_
    (repeat (first | refine sp_ ?_ | exact ex0))
    (refine ret_s [] ?_; simp (decide := true) (disch := omega) only [go_sem, ↓reduceIte, ↓put_at])
  rw [if_neg h1] at hR
  have c1 := crc_right s (by unfold maxLen; omega)
  by_cases h2 : rem s ≠ 0
  · rw [if_pos h2] at hR
    rw [decide_eq_false h2] at c1
    subst hR
    unfold no6
    refine spec_of Tryz.func9 rfl Tryz.ntmps9 Tryz.results9 ⟨by decide, by simp⟩ fun C hC => ?_
    (repeat (first | refine sp_ ?_ | exact ex0))
    refine call_s Tryz.call21 c1 [] ?_
    (repeat (first | refine sp_ ?_ | exact ex0))
    (refine ret_s [] ?_; simp (decide := true) (disch := omega) only [go_sem, ↓reduceIte, ↓put_at])
  rw [if_neg h2] at hR
  rw [decide_eq_true (Classical.not_not.1 h2)] at c1
  have c2 := rtp_parse s (by unfold maxLen; omega)
  have hpp : (parse4 s).2 = 0 → body4 (parse4 s).1 = s ∧ may4 (parse4 s).1 = true ∧ (parse4 s).1.Ok := fun h => pack_parse s (parse4 s).1 (by rw [← h]) (by omega)
  generalize parse4 s = Q at *
  obtain ⟨p, e⟩ := Q
  dsimp only at *
  by_cases h3 : e ≠ 0
  · rw [if_pos h3] at hR
    subst hR
    unfold no6
    obtain ⟨mk, kd, sq, tm, sr, os, hx, pf, ex, da, pd⟩ := p
    refine spec_of Tryz.func9 rfl Tryz.ntmps9 Tryz.results9 ⟨by decide, by simp⟩ fun C hC => ?_
    (repeat (first | refine sp_ ?_ | exact ex0))
    refine call_s Tryz.call21 c1 [] ?_
    (repeat (first | refine sp_ ?_ | exact ex0))
    refine call_s Tryz.call22 c2 [] ?_
    (repeat (first | refine sp_ ?_ | exact ex0))
    (refine ret_s [] ?_; simp (decide := true) (disch := omega) only [go_sem, ↓reduceIte, ↓put_at])
  rw [if_neg h3] at hR
  have h3 : e = 0 := Classical.not_not.1 h3
  subst h3
  obtain ⟨hbody, hmay, hok⟩ := hpp rfl
  have hext : p.ext.length ≤ 262140 := by
    have := ((may4_iff p).1 hmay).2.2.2.2
    cases hx : p.hasExt with
    | true => rw [hx, if_pos rfl] at this; exact this.2
    | false => rw [hx, if_neg (by decide)] at this; rw [this.2]; simp
  have hdat : p.data.length ≤ maxLen := by
    have := body4_data p
    rw [hbody] at this
    unfold maxLen; omega
  have c3 := media_elements p (by omega)
  by_cases h4 : p.hasExt = false
  · rw [if_pos h4] at hR
    rw [h4, if_neg (by decide), if_neg (by decide)] at c3
    subst hR
    unfold no6
    obtain ⟨mk, kd, sq, tm, sr, os, hx, pf, ex, da, pd⟩ := p
    refine spec_of Tryz.func9 rfl Tryz.ntmps9 Tryz.results9 ⟨by decide, by simp⟩ fun C hC => ?_
    (repeat (first | refine sp_ ?_ | exact ex0))
    refine call_s Tryz.call21 c1 [] ?_
    (repeat (first | refine sp_ ?_ | exact ex0))
    refine call_s Tryz.call22 c2 [] ?_
    (repeat (first | refine sp_ ?_ | exact ex0))
    refine call_s Tryz.call23 c3 [] ?_
    (repeat (first | refine sp_ ?_ | exact ex0))
    (refine ret_s [] ?_; simp (decide := true) (disch := omega) only [go_sem, ↓reduceIte, ↓put_at])
  rw [if_neg h4] at hR
  have h4 : p.hasExt = true := by cases hx : p.hasExt with
    | true => rfl
    | false => exact absurd hx h4
  rw [if_pos h4, if_pos h4] at c3
  have hraw := parse5_raw p.profile p.ext
  have hcnt := raw5_count (formOk (parse5 p.profile p.ext).1) (parse5 p.profile p.ext).2.1
  have hdt := raw5_data (formOk (parse5 p.profile p.ext).1) (parse5 p.profile p.ext).2.1
  generalize parse5 p.profile p.ext = X at *
  obtain ⟨f, l, g⟩ := X
  dsimp only at *
  by_cases h5 : g ≠ 0
  · rw [if_pos h5] at hR
    subst hR
    unfold no6
    obtain ⟨mk, kd, sq, tm, sr, os, hx, pf, ex, da, pd⟩ := p
    refine spec_of Tryz.func9 rfl Tryz.ntmps9 Tryz.results9 ⟨by decide, by simp⟩ fun C hC => ?_
    (repeat (first | refine sp_ ?_ | exact ex0))
    refine call_s Tryz.call21 c1 [] ?_
    (repeat (first | refine sp_ ?_ | exact ex0))
    refine call_s Tryz.call22 c2 [] ?_
    (repeat (first | refine sp_ ?_ | exact ex0))
    refine call_s Tryz.call23 c3 [] ?_
    (repeat (first | refine sp_ ?_ | exact ex0))
    (refine ret_s [] ?_; simp (decide := true) (disch := omega) only [go_sem, ↓reduceIte, ↓put_at])
  rw [if_neg h5] at hR
  have h5 : g = 0 := Classical.not_not.1 h5
  subst h5
  have hraw := hraw rfl
  have c4 := media_read p l (by unfold maxLen; omega) (fun x hx => by
    have := hdt x hx
    unfold maxLen; omega)
  have c5 := media_pack (rd6 p l) (rd6_ok p l hok) hdat
  generalize rd6 p l = m at *
  generalize pack6 m = t at *
  obtain ⟨sr2, sq2, tm2, pa, ps, ix, ct, da2⟩ := m
  obtain ⟨mk, kd, sq, tm, sr, os, hx, pf, ex, da, pd⟩ := p
  by_cases h6 : t = s
  · rw [if_pos h6] at hR
    have hb : (t == s) = true := by rw [h6]; exact beq_self_eq_true s
    subst hR
    refine spec_of Tryz.func9 rfl Tryz.ntmps9 Tryz.results9 ⟨by decide, by simp⟩ fun C hC => ?_
    (repeat (first | refine sp_ ?_ | exact ex0))
    refine call_s Tryz.call21 c1 [] ?_
    (repeat (first | refine sp_ ?_ | exact ex0))
    refine call_s Tryz.call22 c2 [] ?_
    (repeat (first | refine sp_ ?_ | exact ex0))
    refine call_s Tryz.call23 c3 [] ?_
    (repeat (first | refine sp_ ?_ | exact ex0))
    refine call_s Tryz.call24 c4 [] ?_
    (repeat (first | refine sp_ ?_ | exact ex0))
    refine call_s Tryz.call7 c5 [] ?_
    (repeat (first | refine sp_ ?_ | exact ex0))
    simp only [hb]
    (repeat (first | refine sp_ ?_ | exact ex0))
    (refine ret_s [] ?_; simp (decide := true) (disch := omega) only [go_sem, ↓reduceIte, ↓put_at])
  · rw [if_neg h6] at hR
    have hb : (t == s) = false := by simpa using h6
    subst hR
    unfold no6
    refine spec_of Tryz.func9 rfl Tryz.ntmps9 Tryz.results9 ⟨by decide, by simp⟩ fun C hC => ?_
    (repeat (first | refine sp_ ?_ | exact ex0))
    refine call_s Tryz.call21 c1 [] ?_
    (repeat (first | refine sp_ ?_ | exact ex0))
    refine call_s Tryz.call22 c2 [] ?_
    (repeat (first | refine sp_ ?_ | exact ex0))
    refine call_s Tryz.call23 c3 [] ?_
    (repeat (first | refine sp_ ?_ | exact ex0))
    refine call_s Tryz.call24 c4 [] ?_
    (repeat (first | refine sp_ ?_ | exact ex0))
    refine call_s Tryz.call7 c5 [] ?_
    (repeat (first | refine sp_ ?_ | exact ex0))
    simp only [hb]
    (repeat (first | refine sp_ ?_ | exact ex0))
    (refine ret_s [] ?_; simp (decide := true) (disch := omega) only [go_sem, ↓reduceIte, ↓put_at])
end Go.Proofs.YtkclmofjlmeolaaGreatDoor

namespace Go.Proofs.YtkclmofjlmeolaaGreatDoor
open Go.RowKit
set_option linter.unusedVariables false
set_option linter.unusedSimpArgs false

theorem pack6_len (m : M6) (hm : may6 m = true) : (pack6 m).length = m.data.length + 28 := by
  unfold pack6
  rw [if_pos hm, sealB_len, head6_len]
  omega
end Go.Proofs.YtkclmofjlmeolaaGreatDoor

namespace Go.Proofs.YtkclmofjlmeolaaGreatDoor
open Go.RowKit
set_option linter.unusedVariables false
set_option linter.unusedSimpArgs false

section
variable {P : Program} {ops : Array Oper} {C : Ctx} {E : Env} {σ : St} {a : Act} {w : World} {md : Bool} {K : St → List FP → Prop} {acc : List FP} {rest : List Oper}
def onesA (σ : St) : List AV → Prop
  | [] => True
  | x :: xs => oneA σ x ∧ onesA σ xs
def livesA : List AV → List Pl
  | [] => []
  | x :: xs => liveL x ++ livesA xs
attribute [go_sem] onesA livesA
end
section
variable {P : Program} {C : Ctx} {σ : St} {Q : Exit → St → Prop}
end
end Go.Proofs.YtkclmofjlmeolaaGreatDoor

namespace Go.Proofs.YtkclmofjlmeolaaGreatDoor
open Go.RowKit
set_option linter.unusedVariables false
set_option linter.unusedSimpArgs false

section
variable {P : Program} {ops : Array Oper} {C : Ctx} {E : Env} {σ : St} {a : Act} {w : World}
theorem Gm.cell (h : Gm C E σ a w) (o : Id) (i : Nat) (x : AV) (hx : ∀ n, σ (.o o) = .num n → i < n → ∃ v, w.cell? ⟨E.loc o, i, none⟩ = some v ∧ RdA E σ x v) : Gm C E (put σ (.c o i) (.av x)) a w := by
  have hmo : Mo E σ E (put σ (.c o i) (.av x)) := Mo.same (fun o => put_ne _ _ (by simp)) (fun o => put_ne _ _ (by simp)) (fun o => put_ne _ _ (by simp)) (fun o => put_ne _ _ (by simp))
  have hO : ∀ o', put σ (.c o i) (.av x) (.o o') = σ (.o o') := fun o' => put_ne _ _ (by simp)
  have hK : ∀ o', put σ (.c o i) (.av x) (.k o') = σ (.k o') := fun o' => put_ne _ _ (by simp)
  have hS : ∀ o', put σ (.c o i) (.av x) (.s o') = σ (.s o') := fun o' => put_ne _ _ (by simp)
  refine ⟨h.sz, h.df, h.ms, h.fr, fun t y hy => (h.sl t y (by rw [← hS]; exact hy)).mo hmo, fun o' j y n' h1 h2 h3 => ?_, fun o' n' h1 => h.ob o' n' (by rw [← hO]; exact h1), fun k e s T h1 => h.ro k e s T (by rw [← hK]; exact h1),
    fun o1 o2 n n' h1 h2 => h.oo o1 o2 n n' (by rw [← hO]; exact h1) (by rw [← hO]; exact h2), fun k k' e s T e' s' T' b h1 h2 => h.rr k k' e s T e' s' T' b (by rw [← hK]; exact h1) (by rw [← hK]; exact h2),
    fun o n k e s T h1 h2 => h.or o n k e s T (by rw [← hO]; exact h1) (by rw [← hK]; exact h2), h.pi, h.ml, h.mx,
    h.tr.beside hmo (fun o => put_ne _ _ (by simp)) (fun o => put_ne _ _ (by simp)) hO hK (fun _ _ _ _ _ _ => rfl) (fun _ _ _ _ _ _ => rfl)⟩
  rw [hO] at h2
  by_cases e : Pl.c o' j = Pl.c o i
  · injection e with e1 e2
    subst e1 e2
    rw [put_same] at h1
    cases h1
    obtain ⟨v, hv, hr⟩ := hx n' h2 h3
    exact ⟨v, hv, hr.mo hmo⟩
  · rw [put_ne _ _ e] at h1
    obtain ⟨v, hv, hr⟩ := h.ce o' j y n' h1 h2 h3
    exact ⟨v, hv, hr.mo hmo⟩
/-- Cells of which something else is known now. -/
def cellsX (ls : List (Id × Nat)) (x : AV) : List (Pl × X) := ls.map fun l => (.c l.1 l.2, .av x)
theorem Gm.cellsTell (x : AV) : ∀ (ls : List (Id × Nat)) (σ : St), Gm C E σ a w → (∀ s : St, (∀ l, (∀ o i, l ≠ .c o i) → s l = σ l) → ∀ l ∈ ls, ∃ v, w.cell? ⟨E.loc l.1, l.2, none⟩ = some v ∧ RdA E s x v) → Gm C E (puts σ (cellsX ls x)) a w
  | [], σ, hg, _ => hg
  | l :: ls, σ, hg, hx => by
    have h1 := hg.cell l.1 l.2 x fun _ _ _ => hx σ (fun _ _ => rfl) l (List.mem_cons_self ..)
    exact Gm.cellsTell x ls _ h1 fun s hs u hu => hx s (fun p hp => by rw [hs p hp, put_ne _ _ (hp l.1 l.2)]) u (List.mem_cons_of_mem _ hu)
theorem cellsX_out (x : AV) : ∀ (ls : List (Id × Nat)) (σ : St) {l : Pl}, (∀ o i, l ≠ .c o i) → puts σ (cellsX ls x) l = σ l
  | [], _, _, _ => rfl
  | t :: ls, σ, l, h => (cellsX_out x ls (put σ (.c t.1 t.2) (.av x)) h).trans (put_ne _ _ (h t.1 t.2))
/-- Cells of objects that are there hold a value. -/
def cellsHold (σ : St) (x : AV) : List (Id × Nat) → Prop
  | [] => True
  | l :: ls => σ (.c l.1 l.2) = .av x ∧ l.2 < xnum (σ (.o l.1)) ∧ cellsHold σ x ls
theorem cellsHold_get {x : AV} (hg : Gm C E σ a w) : ∀ {ls : List (Id × Nat)}, cellsHold σ x ls → ∀ l ∈ ls, ∃ v, w.cell? ⟨E.loc l.1, l.2, none⟩ = some v ∧ RdA E σ x v
  | [], _, _, h => by cases h
  | l :: ls, h, u, hu => by
    rcases List.mem_cons.1 hu with rfl | hu
    · cases hn : σ (.o u.1) with
      | num n =>
        have h2 := h.2.1
        rw [hn] at h2
        exact hg.ce u.1 u.2 x n h.1 hn h2
      | _ => have h2 := h.2.1; rw [hn] at h2; exact absurd h2 (Nat.not_lt_zero _)
    · exact cellsHold_get hg h.2.2 u hu
def unbW (σ : St) (k o : Id) (ys : List T) (ls : List (Id × Nat)) (ts : List Nat) : List (Pl × X) :=
  outW k ++ (objGain (puts σ (outW k)) [] o (gg σ o + 1) (ys.map toCA) ++ (cellsX ls (.ptr o (gg σ o + 1) 0) ++ slotsW ts (.ptr o (gg σ o + 1) 0)))
theorem kid_nz (o : Id) : ∀ (cs : List CA) (j : Nat), ∀ k ∈ kidsOf o j cs, k.2 ≠ 0 := fun cs => by
  induction cs with
  | nil => intro j k hk; cases hk
  | cons c cs ih =>
    intro j k hk
    simp only [kidsOf] at hk
    split at hk
    · rcases List.mem_cons.1 hk with rfl | hk
      · exact kid_ne o j
      · exact ih _ k hk
    · exact ih _ k hk
/-- What a cell holds whole becomes an object. -/
theorem Gm.unbox (hg : Gm C E σ a w) {k o : Id} {ys : List T} {ls : List (Id × Nat)} {ts : List Nat} (h1 : σ (.r k) = .tree (.box ys)) (ho : o.2 = 0 ∧ C.pins o = none) (hls : cellsHold σ (.ptr k (gg σ k) 0) ls) (hl0 : ∀ l ∈ ls, l.1.2 = 0 ∧ l.1 ≠ o) (hts : slotsAre σ (.ptr k (gg σ k) 0) C.nt ts) :
    ∃ E', Gm C E' (puts σ (unbW σ k o ys ls ts)) a w := by
  obtain ⟨hh, _⟩ := hg.tr.hg k _ h1
  obtain ⟨hbv, hk2⟩ := hg.tr.bx k ys h1
  obtain ⟨g1, m1, l1⟩ := hg.let_go k
  obtain ⟨b, us, ty, Fy, y0, y1, y2, y3, y4, y5⟩ := box_inv hh
  have hb : b = E.loc k := by rw [hbv] at y0; injection y0 with e; injection e with e; injection e with e; exact e.symm
  subst hb
  obtain ⟨Fz, z1, z2⟩ := args_of_hg (bs := []) y3
  have hgo : gg (puts σ (outW k)) o = gg σ o := gg_of (by simp [outW, puts, put])
  obtain ⟨E2, g2, m2, f1, f2, f3, f4, f5, f6⟩ := objGain_ok g1 [] [] (fun ob o' b h => by simp at h) o (gg σ o + 1) (E.loc k) (.inr ⟨by rw [hgo]; omega, ho.2, ho.1⟩) ty (ys.map toCA) us Fz (fun k' hk' => ⟨by simp, fun e => kid_nz _ _ _ _ hk' (e ▸ ho.1)⟩) y1 y2 z1 (fun h => y4 ((z2 _).1 h)) (fun c hc => by
    have hin : c ∈ E.bf k := (y5 c).2 (by
      rcases List.mem_cons.1 hc with h | h
      · exact .inl h
      · exact .inr ((z2 c).1 h))
    refine ⟨hg.tr.dd k _ c h1 hin, fun ⟨t, ht⟩ => ?_⟩
    obtain ⟨q1, q2⟩ := l1 t c ht
    exact q2 (hg.ho_inj q1 (t' := .r k) ⟨_, h1, hin⟩))
  refine ⟨E2, ?_⟩
  unfold unbW
  rw [puts_append, puts_append, puts_append]
  generalize puts (puts σ (outW k)) (objGain (puts σ (outW k)) [] o (gg σ o + 1) (ys.map toCA)) = s0 at g2 f2 f4 f6 ⊢
  have hcells := cellsHold_get hg hls
  have hkey : ∀ s : St, s (.g o) = s0 (.g o) → gg s o = gg σ o + 1 := fun s hs => by rw [← f4]; exact gg_of hs
  have g3 := Gm.cellsTell (.ptr o (gg σ o + 1) 0) ls s0 g2 fun s hs l hl => by
    obtain ⟨v, hv, hr⟩ := hcells l hl
    obtain ⟨e1, e2⟩ := hl0 l hl
    have hv2 := hr.2 rfl
    refine ⟨v, ?_, Nat.le_of_eq (hkey s (hs _ (by simp))).symm, fun _ => by rw [f3]; exact hv2⟩
    rw [(f2 l.1 (fun h => kid_nz _ _ _ _ h e1) e2).1]
    exact hv
  have hsl := slotsAre_get hts
  refine Gm.slots (.ptr o (gg σ o + 1) 0) ts _ g3 (fun t ht => (hsl t ht).2) fun s hs t ht => ?_
  have hv2 := (hg.sl t _ (hsl t ht).1).2 rfl
  exact ⟨Nat.le_of_eq (hkey s ((hs _ (by simp)).trans (cellsX_out _ _ _ (by simp)))).symm, fun _ => by rw [f3]; exact hv2⟩
def rebW (σ : St) (k o : Id) (ys : List T) (ls : List (Id × Nat)) (ts : List Nat) : List (Pl × X) :=
  dropW σ (tokObjs σ [o] [ys.map toCA]) ++ (treeW σ k (.box ys) ++ (cellsX ls (.ptr k (gg σ k + 1) 0) ++ slotsW ts (.ptr k (gg σ k + 1) 0)))
/-- And back. -/
theorem Gm.rebox (hg : Gm C E σ a w) {k o : Id} {ys : List T} {ls : List (Id × Nat)} {ts : List Nat} (hm : mObjs σ [o] [o] [ys.map toCA]) (hn : (tokObjs σ [o] [ys.map toCA]).Nodup) (hk : k.2 ≠ 0) (hls : cellsHold σ (.ptr o (gg σ o) 0) ls) (hl0 : ∀ l ∈ ls, l.1.2 = 0) (hts : slotsAre σ (.ptr o (gg σ o) 0) C.nt ts) :
    ∃ E', Gm C E' (puts σ (rebW σ k o ys ls ts)) a w := by
  obtain ⟨G, b1, b2, g1, b4⟩ := hg.boxed hm hn
  unfold rebW
  obtain ⟨d1, d2, d3, d3', _⟩ := dropW_at (σ := σ) (tokObjs σ [o] [ys.map toCA])
  generalize tokObjs σ [o] [ys.map toCA] = toks at *
  rw [puts_append, puts_append, puts_append]
  have e0 : treeW σ k (.box ys) = treeW (puts σ (dropW σ toks)) k (.box ys) := (treeW_congr (d3' k) (d3 k)).symm
  have e1 : gg σ k = gg (puts σ (dropW σ toks)) k := (gg_of (d3 k)).symm
  rw [e0, e1]
  generalize puts σ (dropW σ toks) = s1 at *
  obtain ⟨E', g2, m2, _, f4, _, g6⟩ := g1.gainTree k (.box ys) (.pointer (some ⟨E.loc o, 0, none⟩)) G (fun y h => by cases h) b1 (fun b hb => by
    obtain ⟨t, r1, r2⟩ := b2 b hb
    refine ⟨(hg.ho_dd r2).2, fun ⟨t', ht'⟩ => ?_⟩
    obtain ⟨p1, p2⟩ := b4 t' b ht'
    exact p2 (hg.ho_inj r2 p1 ▸ r1)) hk
  have g6' : RdP E' (puts s1 (treeW s1 k (.box ys))) (.ptr k (gg s1 k + 1) 0) (.pointer (some ⟨E.loc o, 0, none⟩)) := g6
  refine ⟨E', ?_⟩
  generalize puts s1 (treeW s1 k (.box ys)) = s2 at g2 m2 g6' ⊢
  have hcells := cellsHold_get hg hls
  have hrd : ∀ s : St, s (.g k) = s2 (.g k) → RdA E' s (.ptr k (gg s1 k + 1) 0) (.pointer (some ⟨E.loc o, 0, none⟩)) := fun s hs => by
    have := g6'
    refine ⟨by rw [gg_of hs]; exact this.1, fun h => this.2 (by rw [← gg_of hs]; exact h)⟩
  have g3 := Gm.cellsTell (.ptr k (gg s1 k + 1) 0) ls s2 g2 fun s hs l hl => by
    obtain ⟨v, hv, hr⟩ := hcells l hl
    have hv2 := hr.2 rfl
    refine ⟨v, ?_, by rw [hv2]; exact hrd s (hs _ (by simp))⟩
    rw [f4 l.1 (fun e => hk (e ▸ hl0 l hl))]
    exact hv
  have hsl := slotsAre_get hts
  refine Gm.slots (.ptr k (gg s1 k + 1) 0) ts _ g3 (fun t ht => (hsl t ht).2) fun s hs t ht => ?_
  have hv2 := (hg.sl t _ (hsl t ht).1).2 rfl
  rw [hv2]
  exact hrd s ((hs _ (by simp)).trans (cellsX_out _ _ _ (by simp)))
/-! ### Maps of boxes -/
def splMW (σ : St) (k kb : Id) (es : List (Value × T)) (ps : List (Value × T)) : List (Pl × X) := (.r k, .tree (.mp es)) :: treeW (put σ (.r k) (.tree (.mp es))) kb (.bag ps)
def joiMW (k kb : Id) (es : List (Value × T)) : List (Pl × X) := outW kb ++ [(.r k, .tree (.mp es))]
theorem box_ex (xs : List T) : (∃ us, T.box xs = T.box us) = True := eq_true ⟨_, rfl⟩
attribute [go_sem] box_ex cellsX cellsHold unbW rebW splMW joiMW
end
section
variable {P : Program} {C : Ctx} {σ : St} {Q : Exit → St → Prop}
/-- What a cell holds whole becomes the object (d, 0); these cells and slots point at it. -/
theorem unb_s {c : Code} {n : Nat} (hC : C.nt = n) (k : Id) (d : Nat) (ls : List (Id × Nat)) (ts : List Nat) (ys : List T) (hn : (d :: ts).all (fun t => decide (t < n)) = true ∧ (ls.all fun l => decide (l.1.2 = 0 ∧ l.1 ≠ (d, 0))) = true)
    (h : (σ (.r k) = .tree (.box ys) ∧ cellsHold σ (.ptr k (gg σ k) 0) ls ∧ slotsHold σ (.ptr k (gg σ k) 0) ts) ∧ AW P C c (puts σ (unbW σ k (d, 0) ys ls ts)) Q) : AW P C c σ Q := by
  subst hC
  obtain ⟨⟨h1, h2, h3⟩, hk⟩ := h
  have hall := all_lt hn.1
  intro E a w hg
  obtain ⟨E', g⟩ := hg.unbox (o := (d, 0)) h1 ⟨rfl, C.np d (hall d (List.mem_cons_self ..))⟩ h2 (fun l hl => by simpa using List.all_eq_true.1 hn.2 l hl) (slotsHold_are h3 fun t ht => hall t (List.mem_cons_of_mem _ ht))
  exact hk E' a w g
/-- An object is held whole by a cell again. -/
theorem reb_s {c : Code} {n : Nat} (hC : C.nt = n) (k o : Id) (ls : List (Id × Nat)) (ts : List Nat) (ys : List T) (hk2 : k.2 ≠ 0) (hn : ts.all (fun t => decide (t < n)) = true ∧ (ls.all fun l => decide (l.1.2 = 0)) = true)
    (h : (mObjs σ [o] [o] [ys.map toCA] ∧ (tokObjs σ [o] [ys.map toCA]).Nodup ∧ cellsHold σ (.ptr o (gg σ o) 0) ls ∧ slotsHold σ (.ptr o (gg σ o) 0) ts) ∧ AW P C c (puts σ (rebW σ k o ys ls ts)) Q) : AW P C c σ Q := by
  subst hC
  obtain ⟨⟨h1, h2, h3, h4⟩, hk⟩ := h
  intro E a w hg
  obtain ⟨E', g⟩ := hg.rebox h1 h2 hk2 h3 (fun l hl => by simpa using List.all_eq_true.1 hn.2 l hl) (slotsHold_are h4 (all_lt hn.1))
  exact hk E' a w g
end
end Go.Proofs.YtkclmofjlmeolaaGreatDoor

namespace Go.Proofs.YtkclmofjlmeolaaGreatDoor
open Go.RowKit
set_option linter.unusedVariables false
set_option linter.unusedSimpArgs false

/-- A buffer, held whole. -/
def buT (b : Bu) : List T := [.av (vi b.cf), .av (vi b.cp), .av (vi b.cb), .av (vi b.l.length), .av (vi (pkts b.l)), .av (vi (bts b.l)), rowF b.l, .av (vi b.hz), .av (vi b.pl), .av (vi b.dr), .av (vi b.ev)]
attribute [go_sem] buT
/-- A part, as media. -/
def frM (P : List (List UInt8)) (k : Nat) : M6 := ⟨0, k, 7, 1, 0, k, P.length, P.getD k []⟩
theorem frM_may {P : List (List UInt8)} {seen : List Nat} (h : FrmI P seen) {k : Nat} (hk : k < P.length) : (frM P k).Ok ∧ may6 (frM P k) = true := by
  have h1 := h.n2
  have h2 := getD_sz h.sz k
  refine ⟨⟨by simp [frM], ⟨by simp [frM], by show (k : Int) < 65536; omega⟩, by simp [frM], by simp [frM]⟩, (may6_iff _).2 ⟨⟨?_, ?_⟩, ⟨?_, ?_⟩, ⟨?_, ?_⟩, ?_⟩⟩
  · show (1 : Int) ≤ 1; omega
  · show (1 : Int) ≤ 15; omega
  · show (1 : Int) ≤ P.length; omega
  · show (P.length : Int) ≤ 255; omega
  · show (0 : Int) ≤ k; omega
  · show (k : Int) < P.length; omega
  · show (P.getD k []).length ≤ 1472; omega
/-- Behind a packet that is put: what came, and how often all were there first. -/
def frN (seen : List Nat) (k : Nat) : List Nat := if k ∈ seen then seen else seen ++ [k]
def frW (P : List (List UInt8)) (seen : List Nat) (k : Nat) (w : Int) : Int := if k ∉ seen ∧ seen.length + 1 = P.length then w + 1 else w
abbrev frK (P : List (List UInt8)) : List (List V) := (List.range P.length).map fun k => [vs (pack6 (frM P k))]
theorem frN_ok {P : List (List UInt8)} {seen : List Nat} (h : FrmI P seen) {k : Nat} (hk : k < P.length) : FrmI P (frN seen k) := by
  unfold frN
  split
  · exact h
  · rename_i hn
    exact (frm_new h hk hn).2
theorem frm_any {P : List (List UInt8)} {seen : List Nat} (h : FrmI P seen) {k : Nat} (hk : k < P.length) (w : Int) :
    ∃ kd : Int, putB (frB P seen) 7 k P.length (P.getD k []) 0 = (frB P (frN seen k), kd, []) ∧ ((kd = 2 ∧ frW P seen k w = w + 1) ∨ (kd ≠ 2 ∧ frW P seen k w = w)) := by
  unfold frN frW
  by_cases hm : k ∈ seen
  · refine ⟨3, ?_, .inr ⟨by omega, by rw [if_neg (fun q => q.1 hm)]⟩⟩
    rw [if_pos hm]
    exact frm_old h hk hm
  · rw [if_neg hm]
    by_cases he : seen.length + 1 = P.length
    · refine ⟨2, ?_, .inl ⟨rfl, by rw [if_pos ⟨hm, he⟩]⟩⟩
      rw [(frm_new h hk hm).1, if_pos he]
    · refine ⟨1, ?_, .inr ⟨by omega, by rw [if_neg (fun q => he q.2)]⟩⟩
      rw [(frm_new h hk hm).1, if_neg he]
set_option maxRecDepth 100000 in
set_option maxHeartbeats 4000000 in
theorem frm_put {P : List (List UInt8)} {seen : List Nat} (h : FrmI P seen) {k : Nat} (hk : k < P.length) (w : Int) (hw : 0 ≤ w ∧ w ≤ 100000) :
    Spec Tryz.prog 8 [.ca (.val (vi k)), .ptr 0 0, .ptr 1 0, .ptr 2 0] [[.val (.lst 1 (frK P))], [.hd (.box (buT (frB P seen)))], [.val (vi w)]] (.ca (.val (vb true))) [[.val (.lst 1 (frK P))], [.hd (.box (buT (frB P (frN seen k))))], [.val (vi (frW P seen k w))]] := by
  obtain ⟨ho, hm⟩ := frM_may h hk
  have hpp := parse_pack6 (frM P k) ho hm
  have hpl : (pack6 (frM P k)).length ≤ 1099511627776 := by
    have h1 := pack6_len (frM P k) hm
    have h2 : (frM P k).data.length ≤ 65 := getD_sz h.sz k
    omega
  have c1 := media_parse (pack6 (frM P k)) hpl
  rw [hpp] at c1
  have h2 := getD_sz h.sz k
  have c2 := buf_put (frB_ok h) (by omega) 7 k P.length (P.getD k []) 0 (by omega) (by omega) (by omega) (by omega)
  obtain ⟨kd, hput, hkd⟩ := frm_any h hk w
  rw [hput] at c2
  clear hput
  dsimp only at c2
  generalize frW P seen k w = w' at *
  generalize frB P (frN seen k) = B' at *
  generalize frB P seen = B at *
  have hn2 := h.n2
  have hkz : (k : Int) < P.length := by omega
  have hgd : (frK P).getD k [] = [vs (pack6 (frM P k))] := by simp [frK, List.getD_eq_getElem?_getD, List.getElem?_range hk]
  have hlen : (frK P).length = P.length := by simp [frK]
  generalize pack6 (frM P k) = pk at *
  generalize frK P = KS at *
  rw [show frM P k = ⟨0, k, 7, 1, 0, k, P.length, P.getD k []⟩ from rfl] at c1
  generalize hS : P.getD k [] = sd at *
  dsimp only at c1
  refine spec_of Tryz.func8 rfl Tryz.ntmps8 Tryz.results8 ⟨by decide, by simp⟩ fun C hC => ?_
  refine unb_s hC (1001, 1) 29 [((1001, 0), 0)] [] (buT B) ⟨rfl, rfl⟩ ⟨by simp (decide := true) (disch := omega) only [go_sem, ↓reduceIte, ↓put_at], ?_⟩
  (repeat' ((first | refine sp_ ?_ | exact ex0 | (refine ret_s [] ?_; simp (decide := true) (disch := omega) only [go_sem, ↓reduceIte, ↓put_at]))))
  simp (decide := true) (disch := omega) only [go_sem, hgd, ↓reduceIte, ↓put_at]
  (repeat' ((first | refine sp_ ?_ | exact ex0 | refine call_u Tryz.call9 (c1) [] ex1 ?_ | refine call_u Tryz.call10 (c2) [(29, 0)] ex1 ?_ | (refine ret_s [] ?_; simp (decide := true) (disch := omega) only [go_sem, ↓reduceIte, ↓put_at]))))
  refine fld_s 3 0 _ [vi kd, .lst 1 []] (vi kd) (by kernel_rfl) ti3 (by simp (decide := true) (disch := omega) only [go_sem, ↓reduceIte, ↓put_at]) rfl ?_
  rcases hkd with ⟨rfl, rfl⟩ | ⟨hk2, rfl⟩
  · (repeat' ((fail_if_success (refine stop_ret ?_)); (first | refine sp_ ?_ | exact ex0 | (refine ret_s [] ?_; simp (decide := true) (disch := omega) only [go_sem, ↓reduceIte, ↓put_at]))))
    refine reb_s hC (1001, 1) (29, 0) [((1001, 0), 0)] [] (buT B') (by decide) ⟨rfl, rfl⟩ ⟨by simp (decide := true) (disch := omega) only [go_sem, ↓reduceIte, ↓put_at], ?_⟩
    (repeat' ((first | refine sp_ ?_ | exact ex0 | (refine ret_s [] ?_; simp (decide := true) (disch := omega) only [go_sem, ↓reduceIte, ↓put_at]))))
  · (repeat' ((fail_if_success (refine stop_ret ?_)); (first | refine sp_ ?_ | exact ex0 | (refine ret_s [] ?_; simp (decide := true) (disch := omega) only [go_sem, ↓reduceIte, ↓put_at]))))
    refine reb_s hC (1001, 1) (29, 0) [((1001, 0), 0)] [] (buT B') (by decide) ⟨rfl, rfl⟩ ⟨by simp (decide := true) (disch := omega) only [go_sem, ↓reduceIte, ↓put_at], ?_⟩
    (repeat' ((first | refine sp_ ?_ | exact ex0 | (refine ret_s [] ?_; simp (decide := true) (disch := omega) only [go_sem, ↓reduceIte, ↓put_at]))))
end Go.Proofs.YtkclmofjlmeolaaGreatDoor

