
/- Layer 16 in plain Lean: paths by their numbers. -/
import Derived.Test.YtdgkehoodlncmaaKit
namespace Go.Proofs.Ytdgkehoodlncmaa
set_option linter.unusedVariables false
set_option linter.unusedSimpArgs false

structure En where
  id : Int
  up : Bool
  rate : Int
deriving DecidableEq
structure Tb where
  most : Int
  ver : Int
  l : List En
abbrev Up16 (l : List En) : Prop := l.Pairwise fun a b => a.id < b.id
/-- Where a number stands, or would. -/
def atP (l : List En) (id : Int) : Nat := (l.takeWhile fun e => decide (e.id < id)).length
def hasP (l : List En) (id : Int) : Bool := l.any fun e => decide (e.id = id)
def okE (e : En) : Prop := 1 ≤ e.id ∧ e.id ≤ 15 ∧ 0 ≤ e.rate ∧ e.rate ≤ 65535
instance (e : En) : Decidable (okE e) := by unfold okE; infer_instance
/-- One is so. -/
def setL (l : List En) (e : En) : List En := l.filter (fun x => decide (x.id < e.id)) ++ e :: l.filter (fun x => decide (e.id < x.id))
def tSet (t : Tb) (e : En) : Tb × Bool × Int :=
  if okE e then
    if hasP t.l e.id = false ∧ t.most ≤ t.l.length then (t, false, 8)
    else if e ∈ t.l then (t, false, 0)
    else ({ t with ver := t.ver + 1, l := setL t.l e }, true, 0)
  else (t, false, 6)
theorem tw_split {α : Type} (p : α → Bool) : ∀ l : List α, l.takeWhile p ++ l.dropWhile p = l
  | [] => rfl
  | x :: xs => by
    by_cases h : p x = true
    · simp [h, tw_split p xs]
    · simp [h]
theorem atP_le (l : List En) (id : Int) : atP l id ≤ l.length := by
  have := congrArg List.length (tw_split (fun e => decide (e.id < id)) l)
  rw [List.length_append] at this
  unfold atP; omega
theorem tw_filter {l : List En} (h : Up16 l) (id : Int) : l.takeWhile (fun e => decide (e.id < id)) = l.filter fun e => decide (e.id < id) := by
  induction l with
  | nil => rfl
  | cons x xs ih =>
    have h1 := List.pairwise_cons.1 h
    by_cases hx : x.id < id
    · simp [hx, ih h1.2]
    · have : xs.filter (fun e => decide (e.id < id)) = [] := List.filter_eq_nil_iff.2 fun y hy => by have := h1.1 y hy; simp; omega
      simp [hx, this]
theorem dw_filter {l : List En} (h : Up16 l) (id : Int) : l.dropWhile (fun e => decide (e.id < id)) = l.filter fun e => decide (id ≤ e.id) := by
  induction l with
  | nil => rfl
  | cons x xs ih =>
    have h1 := List.pairwise_cons.1 h
    by_cases hx : x.id < id
    · have : ¬ id ≤ x.id := by omega
      simp [hx, ih h1.2, this]
    · have hx2 : id ≤ x.id := by omega
      have : xs.filter (fun e => decide (id ≤ e.id)) = xs := List.filter_eq_self.2 fun y hy => by have := h1.1 y hy; simp; omega
      simp [hx, hx2, this]
theorem take_at {l : List En} (h : Up16 l) (id : Int) : l.take (atP l id) = l.filter fun e => decide (e.id < id) := by
  rw [← tw_filter h id]
  have e := tw_split (fun e : En => decide (e.id < id)) l
  calc l.take (atP l id) = (l.takeWhile (fun e => decide (e.id < id)) ++ l.dropWhile fun e => decide (e.id < id)).take (l.takeWhile fun e => decide (e.id < id)).length := by rw [e]; rfl
    _ = _ := List.take_left
theorem drop_at {l : List En} (h : Up16 l) (id : Int) : l.drop (atP l id) = l.filter fun e => decide (id ≤ e.id) := by
  rw [← dw_filter h id]
  have e := tw_split (fun e : En => decide (e.id < id)) l
  calc l.drop (atP l id) = (l.takeWhile (fun e => decide (e.id < id)) ++ l.dropWhile fun e => decide (e.id < id)).drop (l.takeWhile fun e => decide (e.id < id)).length := by rw [e]; rfl
    _ = _ := List.drop_left
theorem hasP_iff {l : List En} {id : Int} : hasP l id = true ↔ ∃ e ∈ l, e.id = id := by unfold hasP; simp
theorem has_split {l : List En} (h : Up16 l) (id : Int) (hh : hasP l id = false) : l.filter (fun e => decide (id ≤ e.id)) = l.filter fun e => decide (id < e.id) := by
  refine List.filter_congr fun y hy => ?_
  have : y.id ≠ id := fun e => by
    have := hasP_iff.2 ⟨y, hy, e⟩
    rw [hh] at this; cases this
  by_cases h1 : id ≤ y.id
  · have : id < y.id := by omega
    simp [h1, this]
  · have : ¬ id < y.id := by omega
    simp [h1, this]
/-- Not there: put in. -/
theorem set_ins {l : List En} (h : Up16 l) (e : En) (hh : hasP l e.id = false) : l.take (atP l e.id) ++ e :: l.drop (atP l e.id) = setL l e := by
  rw [take_at h, drop_at h, has_split h _ hh]; rfl
theorem up_get {l : List En} (h : Up16 l) {i j : Nat} (hi : i < j) (hj : j < l.length) : (l[i]'(by omega)).id < (l[j]).id := List.pairwise_iff_getElem.1 h i j (by omega) hj hi
theorem at_lt {l : List En} (h : Up16 l) {id : Int} {k : Nat} (hk : k < l.length) : k < atP l id ↔ (l[k]).id < id := by
  constructor
  · intro h1
    have : l[k] ∈ l.take (atP l id) := by
      rw [List.mem_take_iff_getElem]
      exact ⟨k, by omega, rfl⟩
    rw [take_at h] at this
    simpa using (List.mem_filter.1 this).2
  · intro h1
    refine Nat.lt_of_not_le fun h2 => ?_
    have : l[k] ∈ l.drop (atP l id) := by
      rw [List.mem_drop_iff_getElem]
      exact ⟨k - atP l id, by omega, by congr 1; omega⟩
    rw [drop_at h] at this
    have := (List.mem_filter.1 this).2
    simp at this; omega
theorem has_at {l : List En} (h : Up16 l) {id : Int} (hh : hasP l id = true) : ∃ hl : atP l id < l.length, (l[atP l id]).id = id := by
  obtain ⟨e, h1, h2⟩ := hasP_iff.1 hh
  obtain ⟨k, hk, rfl⟩ := List.mem_iff_getElem.1 h1
  have h3 : ¬ k < atP l id := fun h3 => by have := (at_lt h hk).1 h3; omega
  have h4 : atP l id < l.length := by omega
  refine ⟨h4, ?_⟩
  have h5 : ¬ (l[atP l id]).id < id := fun h5 => by have := (at_lt h h4).2 h5; omega
  rcases Nat.lt_or_ge (atP l id) k with h6 | h6
  · have := up_get h h6 hk; omega
  · have : atP l id = k := by omega
    simp only [this]; exact h2
theorem at_has {l : List En} (h : Up16 l) {id : Int} : hasP l id = (decide (atP l id < l.length) && decide (((l[atP l id]?).map (·.id)) = some id)) := by
  cases hh : hasP l id with
  | true =>
    obtain ⟨h1, h2⟩ := has_at h hh
    simp [h1, h2]
  | false =>
    by_cases h1 : atP l id < l.length
    · have : (l[atP l id]).id ≠ id := fun e => by
        have := hasP_iff.2 ⟨_, List.getElem_mem h1, e⟩
        rw [hh] at this; cases this
      simp [h1, this]
    · simp [h1]
/-- There: another one in its place. -/
theorem set_set {l : List En} (h : Up16 l) (e : En) (hh : hasP l e.id = true) : l.set (atP l e.id) e = setL l e := by
  obtain ⟨h1, h2⟩ := has_at h hh
  have h3 : l.drop (atP l e.id) = l[atP l e.id] :: l.drop (atP l e.id + 1) := List.drop_eq_getElem_cons h1
  have h4 := drop_at h e.id
  rw [h3] at h4
  have h5 : l.drop (atP l e.id + 1) = l.filter fun x => decide (e.id < x.id) := by
    have h6 : (l.filter fun x => decide (e.id ≤ x.id)).filter (fun x => decide (e.id < x.id)) = l.filter fun x => decide (e.id < x.id) := by
      rw [List.filter_filter]
      refine List.filter_congr fun y hy => ?_
      by_cases h7 : e.id < y.id
      · have : e.id ≤ y.id := by omega
        simp [h7, this]
      · simp [h7]
    rw [← h6, ← h4]
    have h7 : ¬ e.id < (l[atP l e.id]).id := by omega
    rw [List.filter_cons_of_neg (by simpa using h7)]
    symm
    refine List.filter_eq_self.2 fun y hy => ?_
    obtain ⟨k, hk, rfl⟩ := List.mem_iff_getElem.1 hy
    rw [List.getElem_drop]
    have := up_get h (i := atP l e.id) (j := atP l e.id + 1 + k) (by omega) (by simp at hk; omega)
    simp; omega
  rw [List.set_eq_take_append_cons_drop, if_pos h1, take_at h, h5]; rfl
theorem set_up {l : List En} (h : Up16 l) (e : En) : Up16 (setL l e) := by
  unfold setL
  refine List.pairwise_append.2 ⟨h.filter _, List.pairwise_cons.2 ⟨fun y hy => by simpa using (List.mem_filter.1 hy).2, h.filter _⟩, fun a ha b hb => ?_⟩
  have h1 : a.id < e.id := by simpa using (List.mem_filter.1 ha).2
  rcases List.mem_cons.1 hb with rfl | hb
  · exact h1
  · have h2 : e.id < b.id := by simpa using (List.mem_filter.1 hb).2
    omega
theorem set_mem {l : List En} {e x : En} : x ∈ setL l e ↔ x = e ∨ (x ∈ l ∧ x.id ≠ e.id) := by
  unfold setL
  simp only [List.mem_append, List.mem_cons, List.mem_filter, decide_eq_true_eq]
  constructor
  · rintro (⟨h1, h2⟩ | rfl | ⟨h1, h2⟩)
    · exact .inr ⟨h1, by omega⟩
    · exact .inl rfl
    · exact .inr ⟨h1, by omega⟩
  · rintro (rfl | ⟨h1, h2⟩)
    · exact .inr (.inl rfl)
    · rcases Int.lt_or_gt_of_ne h2 with h3 | h3
      · exact .inl ⟨h1, h3⟩
      · exact .inr (.inr ⟨h1, h3⟩)
/-- Rising lists of the same members are the same. -/
theorem up_ext : ∀ {a b : List En}, Up16 a → Up16 b → (∀ x, x ∈ a ↔ x ∈ b) → a = b
  | [], [], _, _, _ => rfl
  | [], y :: ys, _, _, h => absurd ((h y).2 (List.mem_cons_self ..)) (by simp)
  | x :: xs, [], _, _, h => absurd ((h x).1 (List.mem_cons_self ..)) (by simp)
  | x :: xs, y :: ys, ha, hb, h => by
    have h1 := List.pairwise_cons.1 ha
    have h2 := List.pairwise_cons.1 hb
    have hxy : x = y := by
      have m1 := (h x).1 (List.mem_cons_self ..)
      have m2 := (h y).2 (List.mem_cons_self ..)
      rcases List.mem_cons.1 m1 with e | m1
      · exact e
      · rcases List.mem_cons.1 m2 with e | m2
        · exact e.symm
        · have := h2.1 x m1
          have := h1.1 y m2
          omega
    subst hxy
    rw [up_ext h1.2 h2.2 fun z => ?_]
    constructor
    · intro hz
      rcases List.mem_cons.1 ((h z).1 (List.mem_cons_of_mem _ hz)) with e | e
      · subst e; have := h1.1 z hz; omega
      · exact e
    · intro hz
      rcases List.mem_cons.1 ((h z).2 (List.mem_cons_of_mem _ hz)) with e | e
      · subst e; have := h2.1 z hz; omega
      · exact e
/-- Many, one behind the other. -/
def tSets (t : Tb) : List En → Tb
  | [] => t
  | e :: es => tSets (tSet t e).1 es
theorem tSets_app (t : Tb) (a b : List En) : tSets t (a ++ b) = tSets (tSets t a) b := by
  induction a generalizing t with
  | nil => rfl
  | cons x xs ih => exact ih _
/-- Ids from 1 to 15, rising: at most 15. -/
theorem up_len : ∀ {l : List En} {k : Int}, Up16 l → (∀ e ∈ l, k ≤ e.id ∧ e.id ≤ 15) → (l.length : Int) ≤ max 0 (16 - k)
  | [], k, _, _ => by simp; omega
  | x :: xs, k, h, hb => by
    have h1 := List.pairwise_cons.1 h
    have h2 := hb x (List.mem_cons_self ..)
    have := up_len (k := x.id + 1) h1.2 fun e he => by
      have := h1.1 e he
      have := hb e (List.mem_cons_of_mem _ he)
      omega
    simp only [List.length_cons]
    omega
/-- What is so, of a table. -/
structure TbOk (t : Tb) : Prop where
  up : Up16 t.l
  ok : ∀ e ∈ t.l, okE e
  few : t.l.length ≤ 15
theorem tSet_ok {t : Tb} (h : TbOk t) (e : En) : TbOk (tSet t e).1 := by
  unfold tSet
  split
  · rename_i he
    split
    · exact h
    · split
      · exact h
      · have hu := set_up h.up e
        have ho : ∀ x ∈ setL t.l e, okE x := fun x hx => by
          rcases set_mem.1 hx with rfl | ⟨h1, _⟩
          · exact he
          · exact h.ok x h1
        refine ⟨hu, ho, ?_⟩
        have := up_len (k := 1) hu fun x hx => ⟨(ho x hx).1, (ho x hx).2.1⟩
        simp at this ⊢; omega
  · exact h
theorem tSets_ok {t : Tb} (h : TbOk t) : ∀ es : List En, TbOk (tSets t es) := by
  intro es
  induction es generalizing t with
  | nil => exact h
  | cons e es ih => exact ih (tSet_ok h e)
/-- Of paths of unlike numbers each that may be is set, once. -/
theorem tSets_new {t : Tb} (h : TbOk t) (hm : t.most = 15) : ∀ (es : List En), (es.map (·.id)).Nodup → (∀ e ∈ es, hasP t.l e.id = false) →
    (∀ x, x ∈ (tSets t es).l ↔ x ∈ t.l ∨ (x ∈ es ∧ okE x)) ∧ (tSets t es).ver = t.ver + ((es.filter fun e => decide (okE e)).length : Nat) := by
  intro es
  induction es generalizing t with
  | nil => intro _ _; simp [tSets]
  | cons e es ih =>
    intro hn hf
    simp only [List.map_cons, List.nodup_cons] at hn
    have hfe := hf e (List.mem_cons_self ..)
    have hrec := ih (t := (tSet t e).1) (tSet_ok h e)
    by_cases he : okE e
    · have hlen : ¬ (t.most ≤ t.l.length) := fun hc => by
        have hu := set_up h.up e
        have ho : ∀ x ∈ setL t.l e, okE x := fun x hx => by
          rcases set_mem.1 hx with rfl | ⟨h1, _⟩
          · exact he
          · exact h.ok x h1
        have h1 := up_len (k := 1) hu fun x hx => ⟨(ho x hx).1, (ho x hx).2.1⟩
        have h2 : (setL t.l e).length = t.l.length + 1 := by
          rw [← set_ins h.up e hfe]
          have := atP_le t.l e.id
          simp; omega
        have := h.few
        omega
      have hne : e ∉ t.l := fun hc => by
        have := hasP_iff.2 ⟨e, hc, rfl⟩
        rw [hfe] at this; cases this
      have hset : (tSet t e).1 = { t with ver := t.ver + 1, l := setL t.l e } := by unfold tSet; rw [if_pos he, if_neg (fun hc => hlen hc.2), if_neg hne]
      obtain ⟨r1, r2⟩ := hrec (by rw [hset]; exact hm) hn.2 (fun x hx => by
        rw [hset]
        show hasP (setL t.l e) x.id = false
        cases hc : hasP (setL t.l e) x.id with
        | false => rfl
        | true =>
          obtain ⟨y, hy, hyx⟩ := hasP_iff.1 hc
          rcases set_mem.1 hy with rfl | ⟨h1, _⟩
          · exact absurd (List.mem_map.2 ⟨x, hx, hyx.symm⟩) hn.1
          · have := hasP_iff.2 ⟨y, h1, hyx⟩
            rw [hf x (List.mem_cons_of_mem _ hx)] at this; cases this)
      refine ⟨fun x => ?_, ?_⟩
      · show x ∈ (tSets (tSet t e).1 es).l ↔ _
        rw [r1 x, hset]
        show (x ∈ setL t.l e ∨ _) ↔ _
        rw [set_mem]
        constructor
        · rintro ((rfl | ⟨h1, _⟩) | ⟨h1, h2⟩)
          · exact .inr ⟨List.mem_cons_self .., he⟩
          · exact .inl h1
          · exact .inr ⟨List.mem_cons_of_mem _ h1, h2⟩
        · rintro (h1 | ⟨h1, h2⟩)
          · exact .inl (.inr ⟨h1, fun hc => by have := hasP_iff.2 ⟨x, h1, hc⟩; rw [hfe] at this; cases this⟩)
          · rcases List.mem_cons.1 h1 with rfl | h1
            · exact .inl (.inl rfl)
            · exact .inr ⟨h1, h2⟩
      · show (tSets (tSet t e).1 es).ver = _
        rw [r2, hset, List.filter_cons_of_pos (by simpa using he)]
        simp; omega
    · have hset : (tSet t e).1 = t := by unfold tSet; rw [if_neg he]
      rw [hset] at hrec
      obtain ⟨r1, r2⟩ := hrec hm hn.2 (fun x hx => hf x (List.mem_cons_of_mem _ hx))
      refine ⟨fun x => ?_, ?_⟩
      · show x ∈ (tSets (tSet t e).1 es).l ↔ _
        rw [hset, r1 x]
        constructor
        · rintro (h1 | ⟨h1, h2⟩)
          · exact .inl h1
          · exact .inr ⟨List.mem_cons_of_mem _ h1, h2⟩
        · rintro (h1 | ⟨h1, h2⟩)
          · exact .inl h1
          · rcases List.mem_cons.1 h1 with rfl | h1
            · exact absurd h2 he
            · exact .inr ⟨h1, h2⟩
      · show (tSets (tSet t e).1 es).ver = _
        rw [hset, r2, List.filter_cons_of_neg (by simpa using he)]
def tNew : Tb := ⟨15, 0, []⟩
theorem tNew_ok : TbOk tNew := ⟨List.Pairwise.nil, fun e h => by simp [tNew] at h, by simp [tNew]⟩
/-- In whatever order. -/
theorem order16 (es : List En) (hn : (es.map (·.id)).Nodup) : tSets tNew es.reverse = tSets tNew es := by
  have h0 : ∀ l : List En, ∀ e ∈ l, hasP tNew.l e.id = false := fun l e _ => rfl
  obtain ⟨a1, a2⟩ := tSets_new tNew_ok rfl es hn (h0 _)
  obtain ⟨b1, b2⟩ := tSets_new tNew_ok rfl es.reverse (by rw [List.map_reverse]; exact (List.reverse_perm _).nodup_iff.2 hn) (h0 _)
  have hl : (tSets tNew es.reverse).l = (tSets tNew es).l := up_ext (tSets_ok tNew_ok _).up (tSets_ok tNew_ok _).up fun x => by rw [a1, b1]; simp
  have hv : (tSets tNew es.reverse).ver = (tSets tNew es).ver := by rw [a2, b2, List.filter_reverse, List.length_reverse]
  have hm : ∀ (l : List En) (t : Tb), (tSets t l).most = t.most := fun l => by
    induction l with
    | nil => intro t; rfl
    | cons x xs ih => intro t; rw [tSets, ih]; unfold tSet; (repeat' split) <;> rfl
  have h1 := hm es.reverse tNew
  have h2 := hm es tNew
  cases h3 : tSets tNew es.reverse
  cases h4 : tSets tNew es
  simp only [h3, h4] at hl hv h1 h2
  subst hl hv
  rw [h1, h2]
end Go.Proofs.Ytdgkehoodlncmaa
