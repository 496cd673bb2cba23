
/- Layer 16 in plain Lean: paths taken away, merged; the document's tables. -/
import Derived.Test.YtdgkehoodlncmaaTabM
namespace Go.Proofs.Ytdgkehoodlncmaa
set_option linter.unusedVariables false
set_option linter.unusedSimpArgs false

def tDrop (t : Tb) (id : Int) : Tb × Bool := if hasP t.l id then ({ t with ver := t.ver + 1, l := t.l.filter fun e => decide (e.id ≠ id) }, true) else (t, false)
theorem tDrop_ok {t : Tb} (h : TbOk t) (id : Int) : TbOk (tDrop t id).1 := by
  unfold tDrop
  split
  · exact ⟨h.up.filter _, fun e he => h.ok e (List.mem_filter.1 he).1, Nat.le_trans (List.length_filter_le _ _) h.few⟩
  · exact h
theorem drop_del {l : List En} (h : Up16 l) {id : Int} (hh : hasP l id = true) : l.take (atP l id) ++ l.drop (atP l id + 1) = l.filter fun e => decide (e.id ≠ id) := by
  obtain ⟨h1, h2⟩ := has_at h hh
  have e : l = l.take (atP l id) ++ l[atP l id] :: l.drop (atP l id + 1) := by rw [← List.drop_eq_getElem_cons h1, List.take_append_drop]
  have f1 : (l.take (atP l id)).filter (fun e => decide (e.id ≠ id)) = l.take (atP l id) := List.filter_eq_self.2 fun y hy => by
    rw [take_at h] at hy
    have := (List.mem_filter.1 hy).2
    simp at this ⊢; omega
  have f2 : (l.drop (atP l id + 1)).filter (fun e => decide (e.id ≠ id)) = l.drop (atP l id + 1) := List.filter_eq_self.2 fun y hy => by
    obtain ⟨k, hk, rfl⟩ := List.mem_iff_getElem.1 hy
    rw [List.getElem_drop]
    have := up_get h (i := atP l id) (j := atP l id + 1 + k) (by omega) (by simp at hk; omega)
    simp; omega
  have f3 : [l[atP l id]].filter (fun e => decide (e.id ≠ id)) = [] := by simp [h2]
  conv => rhs; rw [e]
  rw [List.filter_append, f1, show l[atP l id] :: l.drop (atP l id + 1) = [l[atP l id]] ++ l.drop (atP l id + 1) from rfl, List.filter_append, f3, f2]
  rfl
/-- Merged, one by one, as long as none is refused. -/
def tMerge (t : Tb) : List En → Tb × Nat × Int
  | [] => (t, 0, 0)
  | e :: es => if (tSet t e).2.2 ≠ 0 then ((tSet t e).1, 0, (tSet t e).2.2) else
    ((tMerge (tSet t e).1 es).1, (if (tSet t e).2.1 then 1 else 0) + (tMerge (tSet t e).1 es).2.1, (tMerge (tSet t e).1 es).2.2)
theorem tMerge_ok : ∀ (l : List En) {t : Tb}, TbOk t → TbOk (tMerge t l).1
  | [], t, h => h
  | e :: es, t, h => by
    unfold tMerge
    split
    · exact tSet_ok h e
    · exact tMerge_ok es (tSet_ok h e)
theorem tSet_ver (t : Tb) (e : En) : t.ver ≤ (tSet t e).1.ver ∧ (tSet t e).1.ver ≤ t.ver + 1 := by
  unfold tSet
  (repeat' split) <;> simp <;> omega
theorem tMerge_ver : ∀ (l : List En) (t : Tb), t.ver ≤ (tMerge t l).1.ver ∧ (tMerge t l).1.ver ≤ t.ver + l.length
  | [], t => ⟨Int.le_refl _, by simp [tMerge]⟩
  | e :: es, t => by
    have h1 := tSet_ver t e
    have h2 := tMerge_ver es (tSet t e).1
    unfold tMerge
    simp only [List.length_cons]
    split
    · dsimp only; omega
    · dsimp only; omega
theorem setL_last {pre : List En} {e : En} (h : ∀ x ∈ pre, x.id < e.id) : setL pre e = pre ++ [e] ∧ hasP pre e.id = false ∧ e ∉ pre := by
  refine ⟨?_, ?_, fun hc => by have := h e hc; omega⟩
  · unfold setL
    rw [List.filter_eq_self.2 fun x hx => by simpa using h x hx, List.filter_eq_nil_iff.2 fun x hx => by have := h x hx; simp; omega]
  · cases hh : hasP pre e.id with
    | false => rfl
    | true =>
      obtain ⟨x, hx, he⟩ := hasP_iff.1 hh
      have := h x hx; omega
theorem merge_pre : ∀ (suf pre : List En), Up16 (pre ++ suf) → (∀ e ∈ suf, okE e) → (pre ++ suf).length ≤ 15 → tMerge ⟨15, pre.length, pre⟩ suf = (⟨15, (pre ++ suf).length, pre ++ suf⟩, suf.length, 0)
  | [], pre, _, _, _ => by simp [tMerge]
  | e :: es, pre, hu, ho, hl => by
    obtain ⟨k1, k2, k3⟩ := List.pairwise_append.1 hu
    obtain ⟨s1, s2, s3⟩ := setL_last (pre := pre) (e := e) fun x hx => k3 x hx e (List.mem_cons_self ..)
    have hlen : pre.length + (es.length + 1) ≤ 15 := by simpa using hl
    have hs : tSet ⟨15, pre.length, pre⟩ e = (⟨15, (pre ++ [e]).length, pre ++ [e]⟩, true, 0) := by
      unfold tSet
      rw [if_pos (ho e (List.mem_cons_self ..)), if_neg (fun hc => by have := hc.2; simp at this; omega), if_neg s3, s1]
      simp
    unfold tMerge
    rw [hs]
    have e1 : pre ++ e :: es = (pre ++ [e]) ++ es := by simp
    have hrec := merge_pre es (pre ++ [e]) (by rw [← e1]; exact hu) (fun x hx => ho x (List.mem_cons_of_mem _ hx)) (by rw [← e1]; exact hl)
    simp only [ne_eq, not_true_eq_false, if_false, if_true]
    rw [hrec, e1]
    simp; omega
theorem merge_new {t : Tb} (h : TbOk t) : tMerge tNew t.l = (⟨15, t.l.length, t.l⟩, t.l.length, 0) := merge_pre t.l [] (by simpa using h.up) h.ok (by simpa using h.few)
theorem merge_same {t : Tb} : ∀ (l : List En), (∀ e ∈ l, e ∈ t.l ∧ okE e) → tMerge t l = (t, 0, 0)
  | [], _ => rfl
  | e :: es, h => by
    obtain ⟨h1, h2⟩ := h e (List.mem_cons_self ..)
    have hs : tSet t e = (t, false, 0) := by
      unfold tSet
      rw [if_pos h2, if_neg (fun hc => by have := hasP_iff.2 ⟨e, h1, rfl⟩; rw [hc.1] at this; cases this), if_pos h1]
    unfold tMerge
    rw [hs]
    have := merge_same es fun x hx => h x (List.mem_cons_of_mem _ hx)
    simp only [ne_eq, not_true_eq_false, if_false]
    rw [this]
    simp
/-! ### The document's -/
def rGet (l : List En) (id : Int) : Option En := l.find? fun e => decide (e.id = id)
def rDrop (x : Tb) (id : Int) : Tb × Bool := if (x.l.filter fun e => decide (e.id ≠ id)).length = x.l.length then (x, false) else (⟨x.most, x.ver + 1, x.l.filter fun e => decide (e.id ≠ id)⟩, true)
/-- Places 1 to n, one of them another one. -/
def rRow (l : List En) (e : En) : Nat → List En
  | 0 => []
  | n + 1 => rRow l e n ++ (if ((n + 1 : Nat) : Int) = e.id then [e] else (rGet l ((n + 1 : Nat) : Int)).toList)
theorem rRow_len (l : List En) (e : En) : ∀ n, (rRow l e n).length ≤ n
  | 0 => Nat.le_refl _
  | n + 1 => by
    have := rRow_len l e n
    unfold rRow
    rw [List.length_append]
    split
    · simp; omega
    · cases rGet l ((n + 1 : Nat) : Int) <;> simp <;> omega
def rSet (x : Tb) (e : En) : Tb × Bool × Int :=
  if okE e then
    if (rGet x.l e.id).isSome = false ∧ x.most ≤ x.l.length then (x, false, 8)
    else if rGet x.l e.id = some e then (x, false, 0)
    else (⟨x.most, x.ver + 1, rRow x.l e 15⟩, true, 0)
  else (x, false, 6)
theorem rSet_len {x : Tb} (h : x.l.length ≤ 15) (e : En) : (rSet x e).1.l.length ≤ 15 := by
  unfold rSet
  (repeat' split) <;> first | exact rRow_len _ _ _ | exact h
theorem rSet_ver (x : Tb) (e : En) : x.ver ≤ (rSet x e).1.ver ∧ (rSet x e).1.ver ≤ x.ver + 1 := by
  unfold rSet
  (repeat' split) <;> simp <;> omega
end Go.Proofs.Ytdgkehoodlncmaa
