
/- A call, by what the function is known to do. -/
import Derived.Test.YtkdnaemkhgjbpaaDoorR8
namespace Go.Proofs.YtkdnaemkhgjbpaaDoor
open Go.RowKit
set_option linter.unusedVariables false
set_option linter.unusedSimpArgs false

theorem Mo.trans {E1 E2 E3 : Env} {a b c : St} (h : Mo E1 a E2 b) (k : Mo E2 b E3 c) : Mo E1 a E3 c := by
  refine ⟨Mem.le_trans h.m k.m, fun o => ⟨Nat.le_trans (h.g o).1 (k.g o).1, fun he => ?_⟩, fun q => ⟨Nat.le_trans (h.q q).1 (k.q q).1, fun he e sz T h1 => ?_⟩⟩
  · have h1 := (h.g o).1; have h2 := (k.g o).1
    rw [(k.g o).2 (by omega), (h.g o).2 (by omega)]
  · have h2 := (h.q q).1; have h3 := (k.q q).1
    obtain ⟨T1, h4, h5, h6⟩ := (k.q q).2 (by omega) e sz T h1
    obtain ⟨T2, h7, h8, h9⟩ := (h.q q).2 (by omega) e sz T1 h4
    exact ⟨T2, h7, by omega, fun h10 => by rw [h6 (by omega), h9 (by omega)]⟩
theorem puts_in : ∀ (W : List (Pl × X)) (σ : St) (l : Pl), l ∈ locs W → ∃ x, (l, x) ∈ W ∧ puts σ W l = x
  | p :: W, σ, l, h => by
    by_cases hl : l ∈ locs W
    · obtain ⟨x, h1, h2⟩ := puts_in W (put σ p.1 p.2) l hl
      exact ⟨x, List.mem_cons_of_mem _ h1, h2⟩
    · have he : l = p.1 := by simp only [locs, List.map_cons, List.mem_cons] at h; exact h.resolve_right hl
      refine ⟨p.2, by rw [he]; simp, ?_⟩
      show puts (put σ p.1 p.2) W l = _
      rw [puts_out _ _ _ hl, he, put_same]
theorem locs_append (a b : List (Pl × X)) : locs (a ++ b) = locs a ++ locs b := by simp [locs]

/-! ### What is taken back behind a call -/
def gains : St → Id → Nat → List CA → List (Pl × X) × List AV
  | _, _, _, [] => ([], [])
  | σ, o, j, .val x :: cs => ((gains σ o (j + 1) cs).1, .val x :: (gains σ o (j + 1) cs).2)
  | σ, o, j, .own e sz es :: cs =>
    let W := [(Pl.q (o.1, j + 1), X.num (gq σ (o.1, j + 1) + 1)), (Pl.k (o.1, j + 1), X.row e sz es.length)]
    (W ++ (gains (puts σ W) o (j + 1) cs).1, .own (o.1, j + 1) (gq σ (o.1, j + 1) + 1) e sz es :: (gains (puts σ W) o (j + 1) cs).2)
def objGain (σ : St) (o : Id) (G' : Nat) (cs : List CA) : List (Pl × X) := (gains σ o 0 cs).1 ++ objW o G' cs.length (gains σ o 0 cs).2
def objsW : St → List Id → List (List CA) → List (Pl × X)
  | σ, o :: ids, cs :: objs => objGain σ o (gg σ o) cs ++ objsW (puts σ (objGain σ o (gg σ o) cs)) ids objs
  | _, _, _ => []
def dropW (σ : St) (ts ids : List Id) : List (Pl × X) := (ts.flatMap fun k => [(Pl.q k, X.num (gq σ k + 1)), (Pl.k k, X.non)]) ++ ids.map fun o => (Pl.o o, X.non)

section
variable {P : Program} {ops : Array Oper} {C : Ctx} {E : Env} {σ : St} {a : Act} {w : World}
theorem gains_locs (o : Id) : ∀ (cs : List CA) (σ : St) (j : Nat) (l : Pl), l ∈ locs (gains σ o j cs).1 → (∃ k, l = .q k) ∨ ∃ k, l = .k k
  | [], _, _, _, h => by simp [gains, locs] at h
  | .val x :: cs, σ, j, l, h => gains_locs o cs σ (j + 1) l h
  | .own e sz es :: cs, σ, j, l, h => by
    simp only [gains, locs_append, List.mem_append] at h
    rcases h with h | h
    · simp [locs] at h; rcases h with rfl | rfl; exact .inl ⟨_, rfl⟩; exact .inr ⟨_, rfl⟩
    · exact gains_locs o cs _ (j + 1) l h
theorem gains_length (o : Id) : ∀ (cs : List CA) (σ : St) (j : Nat), (gains σ o j cs).2.length = cs.length
  | [], _, _ => rfl
  | .val x :: cs, σ, j => by simp [gains, gains_length o cs]
  | .own e sz es :: cs, σ, j => by simp [gains, gains_length o cs]
theorem CAok.rd {m : Mem} {e : TypeId} {sz : Nat} {es : List (List V)} {v : Value} (h : CAok m w (.own e sz es) v) : Rd m (.lst sz es) v := h.1
theorem gains_ok (o : Id) : ∀ (cs : List CA) (vs : List Value) (j : Nat) (E : Env) (σ : St), Gm C E σ a w → (hl : vs.length = cs.length) → (∀ (i : Nat) (c : CA) (v : Value), cs[i]? = some c → vs[i]? = some v → CAok E.m w c v) →
    (∀ (i : Nat) (c : CA) (v : Value) (b : Nat), cs[i]? = some c → vs[i]? = some v → ownB c v = some b → (C.D b ∨ C.w0.heap.size ≤ b) ∧ ¬ LiveB E σ b) →
    (∀ (i i' : Nat) (c c' : CA) (v v' : Value) (b : Nat), cs[i]? = some c → vs[i]? = some v → ownB c v = some b → cs[i']? = some c' → vs[i']? = some v' → ownB c' v' = some b → i = i') →
    ∃ E', Gm C E' (puts σ (gains σ o j cs).1) a w ∧ Mo E σ E' (puts σ (gains σ o j cs).1) ∧ E'.m = E.m ∧ E'.loc = E.loc ∧
      (∀ b, LiveB E' (puts σ (gains σ o j cs).1) b → LiveB E σ b ∨ ∃ (i : Nat) (c : CA) (v : Value), cs[i]? = some c ∧ vs[i]? = some v ∧ ownB c v = some b) ∧
      ∀ i (h1 : i < (gains σ o j cs).2.length) (h2 : i < vs.length), RdA E' (puts σ (gains σ o j cs).1) (gains σ o j cs).2[i] vs[i]
  | [], vs, j, E, σ, hg, hl, _, _, _ => ⟨E, hg, Mo.same (fun _ => rfl) (fun _ => rfl) (fun _ => rfl), rfl, rfl, fun b h => .inl h, fun i h => by simp [gains] at h⟩
  | .val x :: cs, v :: vs, j, E, σ, hg, hl, hc, hb, hd => by
    obtain ⟨E', h1, h2, h3, h4, h5, h6⟩ := gains_ok o cs vs (j + 1) E σ hg (by simpa using hl) (fun i c u h1 h2 => hc (i + 1) c u (by simpa using h1) (by simpa using h2)) (fun i c u b h1 h2 h3 => hb (i + 1) c u b (by simpa using h1) (by simpa using h2) h3)
      (fun i i' c c' u u' b h1 h2 h3 h4 h5 h6 => by have := hd (i + 1) (i' + 1) c c' u u' b (by simpa using h1) (by simpa using h2) h3 (by simpa using h4) (by simpa using h5) h6; omega)
    refine ⟨E', h1, h2, h3, h4, fun b hb => (h5 b hb).imp id fun ⟨i, c, u, k1, k2, k3⟩ => ⟨i + 1, c, u, by simpa using k1, by simpa using k2, k3⟩, fun i k1 k2 => ?_⟩
    cases i with
    | zero =>
      have h7 : Rd E.m x v := hc 0 (.val x) v rfl rfl
      show Rd E'.m x v
      rw [h3]; exact h7
    | succ i => exact h6 i (by simpa [gains] using k1) (by simpa using k2)
  | .own e sz es :: cs, v :: vs, j, E, σ, hg, hl, hc, hb, hd => by
    obtain ⟨hrd, xs, hown, hxs⟩ := hc 0 (.own e sz es) v rfl rfl
    obtain ⟨W, hW⟩ : ∃ W, W = [(Pl.q (o.1, j + 1), X.num (gq σ (o.1, j + 1) + 1)), (Pl.k (o.1, j + 1), X.row e sz es.length)] := ⟨_, rfl⟩
    obtain ⟨E1, g1, g2, g3, g4, g5, g6⟩ := hg.gainRow (o.1, j + 1) (gq σ (o.1, j + 1) + 1) (by omega) e sz es.length v xs hown (fun b hbb => by
      obtain ⟨k1, k2⟩ := hb 0 (.own e sz es) v b rfl rfl hbb
      exact ⟨hxs b hbb, k1, k2⟩)
    rw [← hW] at g1 g2 g5 g6
    obtain ⟨E', h1, h2, h3, h4, h5, h6⟩ := gains_ok o cs vs (j + 1) E1 (puts σ W) g1 (by simpa using hl) (fun i c u h1 h2 => by rw [g3]; exact hc (i + 1) c u (by simpa using h1) (by simpa using h2))
      (fun i c u b h1 h2 h3 => by
        obtain ⟨k1, k2⟩ := hb (i + 1) c u b (by simpa using h1) (by simpa using h2) h3
        refine ⟨k1, fun hL => ?_⟩
        rcases g5 b hL with k3 | k3
        · exact k2 k3
        · have := hd 0 (i + 1) (.own e sz es) c v u b rfl rfl k3 (by simpa using h1) (by simpa using h2) h3
          omega)
      (fun i i' c c' u u' b h1 h2 h3 h4 h5 h6 => by have := hd (i + 1) (i' + 1) c c' u u' b (by simpa using h1) (by simpa using h2) h3 (by simpa using h4) (by simpa using h5) h6; omega)
    have e1 : (gains σ o j (.own e sz es :: cs)).1 = W ++ (gains (puts σ W) o (j + 1) cs).1 := by rw [hW]; rfl
    have e2 : (gains σ o j (.own e sz es :: cs)).2 = .own (o.1, j + 1) (gq σ (o.1, j + 1) + 1) e sz es :: (gains (puts σ W) o (j + 1) cs).2 := by rw [hW]; rfl
    have e3 : puts σ (gains σ o j (.own e sz es :: cs)).1 = puts (puts σ W) (gains (puts σ W) o (j + 1) cs).1 := by rw [e1, puts_append]
    rw [e3]
    refine ⟨E', h1, g2.trans h2, h3.trans g3, h4.trans g4, fun b hbb => ?_, fun i k1 k2 => ?_⟩
    · rcases h5 b hbb with k1 | ⟨i, c, u, k1, k2, k3⟩
      · rcases g5 b k1 with k2 | k2
        · exact .inl k2
        · exact .inr ⟨0, _, v, rfl, rfl, k2⟩
      · exact .inr ⟨i + 1, c, u, by simpa using k1, by simpa using k2, k3⟩
    · cases i with
      | zero => simp only [e2]; exact (g6 es rfl hrd).mo h2
      | succ i =>
        have := h6 i (by simpa [e2] using k1) (by simpa using k2)
        simpa only [e2, List.getElem_cons_succ] using this
theorem objGain_ok (hg : Gm C E σ a w) (o : Id) (G' b : Nat) (hgg : (G' = gg σ o ∧ E.loc o = b) ∨ (gg σ o < G' ∧ C.pins o = none)) (ty : TypeId) (cs : List CA) (vs : List Value) (hl : vs.length = cs.length)
    (hblk : w.heap[b]? = some (.cells vs.toArray ty (0, 0))) (hm0 : ∀ i, E.m b i = none) (hD : C.D b ∨ C.w0.heap.size ≤ b) (hnl : ¬ LiveB E σ b)
    (hc : ∀ (i : Nat) (c : CA) (v : Value), cs[i]? = some c → vs[i]? = some v → CAok E.m w c v)
    (hb : ∀ (i : Nat) (c : CA) (v : Value) (b' : Nat), cs[i]? = some c → vs[i]? = some v → ownB c v = some b' → (C.D b' ∨ C.w0.heap.size ≤ b') ∧ ¬ LiveB E σ b' ∧ b' ≠ b)
    (hd : ∀ (i i' : Nat) (c c' : CA) (v v' : Value) (b : Nat), cs[i]? = some c → vs[i]? = some v → ownB c v = some b → cs[i']? = some c' → vs[i']? = some v' → ownB c' v' = some b → i = i') :
    ∃ E', Gm C E' (puts σ (objGain σ o G' cs)) a w ∧ Mo E σ E' (puts σ (objGain σ o G' cs)) ∧ E'.m = E.m ∧ (∀ o', o' ≠ o → E'.loc o' = E.loc o') ∧
      (∀ b', LiveB E' (puts σ (objGain σ o G' cs)) b' → LiveB E σ b' ∨ b' = b ∨ ∃ (i : Nat) (c : CA) (v : Value), cs[i]? = some c ∧ vs[i]? = some v ∧ ownB c v = some b') ∧ ∀ off, RdA E' (puts σ (objGain σ o G' cs)) (.ptr o G' off) (.pointer (some ⟨b, off, none⟩)) := by
  obtain ⟨E1, g1, g2, g3, g4, g5, g6⟩ := gains_ok o cs vs 0 E σ hg hl hc (fun i c v b' h1 h2 h3 => ⟨(hb i c v b' h1 h2 h3).1, (hb i c v b' h1 h2 h3).2.1⟩) hd
  have hlen := gains_length o cs σ 0
  have e0 : puts σ (objGain σ o G' cs) = puts (puts σ (gains σ o 0 cs).1) (objW o G' (gains σ o 0 cs).2.length (gains σ o 0 cs).2) := by
    unfold objGain; rw [puts_append, hlen]
  have hgo : gg (puts σ (gains σ o 0 cs).1) o = gg σ o := gg_of (puts_out _ _ _ fun h => by rcases gains_locs o cs σ 0 _ h with ⟨k, h⟩ | ⟨k, h⟩ <;> cases h)
  obtain ⟨E', h1, h2, h3, h4, h5, h6⟩ := g1.gainObj o G' b (by rw [hgo, g4]; exact hgg) ty vs (gains σ o 0 cs).2 (by rw [hlen, hl]) hblk (fun i => by rw [g3]; exact hm0 i) hD
    (fun hL => by
      rcases g5 b hL with h | ⟨i, c, v, h1, h2, h3⟩
      · exact hnl h
      · exact (hb i c v b h1 h2 h3).2.2 rfl) (fun i hi => g6 i hi (by rw [hl, ← hlen]; exact hi))
  rw [e0]
  refine ⟨E', h1, g2.trans h2, h3.trans g3, fun o' ho => by rw [h4 o' ho, g4], fun b' hb' => ?_, h6⟩
  rcases h5 b' hb' with h | h
  · rcases g5 b' h with h | h
    · exact .inl h
    · exact .inr (.inr h)
  · exact .inr (.inl h)
theorem objGain_other {σ : St} {o : Id} {G' : Nat} {cs : List CA} {o' : Id} (h : o' ≠ o) : puts σ (objGain σ o G' cs) (.g o') = σ (.g o') ∧ puts σ (objGain σ o G' cs) (.o o') = σ (.o o') := by
  unfold objGain
  rw [puts_append]
  have hgl : ∀ l, (∀ k, l ≠ .q k) → (∀ k, l ≠ .k k) → puts σ (gains σ o 0 cs).1 l = σ l := fun l h1 h2 => puts_out _ _ _ fun hh => by
    rcases gains_locs o cs σ 0 l hh with ⟨k, h⟩ | ⟨k, h⟩
    · exact h1 k h
    · exact h2 k h
  have hcw : ∀ (s : St) (l : Pl), (∀ j, l ≠ .c o j) → l ≠ .g o → l ≠ .o o → puts s (objW o G' cs.length (gains σ o 0 cs).2) l = s l := by
    intro s l h1 h2 h3
    show puts (put (put s (.g o) (.num G')) (.o o) (.num cs.length)) (cellsW o 0 _) l = _
    rw [cellsW_other _ _ _ _ _ h1, put_ne _ _ h3, put_ne _ _ h2]
  exact ⟨by rw [hcw _ _ (by simp) (by simpa using h) (by simp), hgl _ (by simp) (by simp)], by rw [hcw _ _ (by simp) (by simp) (by simpa using h), hgl _ (by simp) (by simp)]⟩

/-- The blocks of an object and of its rows. -/
def ObB (objs : List (List CA)) (bs : List Nat) (cvs : List (List Value)) (i b : Nat) : Prop :=
  bs[i]? = some b ∨ ∃ (j : Nat) (cs : List CA) (vs : List Value) (c : CA) (v : Value), objs[i]? = some cs ∧ cvs[i]? = some vs ∧ cs[j]? = some c ∧ vs[j]? = some v ∧ ownB c v = some b
theorem objsW_ok : ∀ (ids : List Id) (objs : List (List CA)) (bs : List Nat) (cvs : List (List Value)) (E : Env) (σ : St), Gm C E σ a w → ids.length = objs.length → bs.length = ids.length → cvs.length = ids.length → ids.Nodup →
    (∀ (i : Nat) (o : Id) (b : Nat) (cs : List CA) (vs : List Value), ids[i]? = some o → bs[i]? = some b → objs[i]? = some cs → cvs[i]? = some vs → E.loc o = b ∧ vs.length = cs.length ∧ (∃ ty, w.heap[b]? = some (.cells vs.toArray ty (0, 0))) ∧ (∀ k, E.m b k = none) ∧
      (∀ (j : Nat) (c : CA) (v : Value), cs[j]? = some c → vs[j]? = some v → CAok E.m w c v) ∧
      (∀ (j : Nat) (c : CA) (v : Value) (b' : Nat), cs[j]? = some c → vs[j]? = some v → ownB c v = some b' → b' ≠ b) ∧
      (∀ (j j' : Nat) (c c' : CA) (v v' : Value) (b : Nat), cs[j]? = some c → vs[j]? = some v → ownB c v = some b → cs[j']? = some c' → vs[j']? = some v' → ownB c' v' = some b → j = j')) →
    (∀ i b, ObB objs bs cvs i b → (C.D b ∨ C.w0.heap.size ≤ b) ∧ ¬ LiveB E σ b) → (∀ i i' b, ObB objs bs cvs i b → ObB objs bs cvs i' b → i = i') →
    ∃ E', Gm C E' (puts σ (objsW σ ids objs)) a w ∧ Mo E σ E' (puts σ (objsW σ ids objs)) ∧ E'.m = E.m ∧ (∀ o', E'.loc o' = E.loc o') ∧ (∀ o', gg (puts σ (objsW σ ids objs)) o' = gg σ o') ∧
      (∀ b', LiveB E' (puts σ (objsW σ ids objs)) b' → LiveB E σ b' ∨ ∃ i, ObB objs bs cvs i b') ∧ ∀ (i : Nat) (o : Id) (b : Nat), ids[i]? = some o → bs[i]? = some b → ∀ off, RdA E' (puts σ (objsW σ ids objs)) (.ptr o (gg σ o) off) (.pointer (some ⟨b, off, none⟩))
  | [], objs, bs, cvs, E, σ, hg, _, _, _, _, _, _, _ => ⟨E, by simpa [objsW, puts] using hg, Mo.same (fun _ => rfl) (fun _ => rfl) (fun _ => rfl), rfl, fun _ => rfl, fun _ => rfl, fun b h => .inl h, fun i o b h => by simp at h⟩
  | o :: ids, cs :: objs, b :: bs, vs :: cvs, E, σ, hg, h1, h2, h3, hn, ho, hB, hdi => by
    obtain ⟨k1, k2, ⟨ty, k3⟩, k4, k5, k6, k7⟩ := ho 0 o b cs vs rfl rfl rfl rfl
    have hB0 : ∀ (j : Nat) (c : CA) (v : Value) (b' : Nat), cs[j]? = some c → vs[j]? = some v → ownB c v = some b' → ObB (cs :: objs) (b :: bs) (vs :: cvs) 0 b' := fun j c v b' q1 q2 q3 => .inr ⟨j, cs, vs, c, v, rfl, rfl, q1, q2, q3⟩
    have hBs : ∀ i b', ObB objs bs cvs i b' → ObB (cs :: objs) (b :: bs) (vs :: cvs) (i + 1) b' := fun i b' q => by
      rcases q with q | ⟨j, cs', vs', c, v, q1, q2, q3⟩
      · exact .inl (by simpa using q)
      · exact .inr ⟨j, cs', vs', c, v, by simpa using q1, by simpa using q2, q3⟩
    have hb0 := hB 0 b (.inl rfl)
    obtain ⟨E1, g1, g2, g3, g4, g5, g6⟩ := objGain_ok hg o (gg σ o) b (.inl ⟨rfl, k1⟩) ty cs vs k2 k3 k4 hb0.1 hb0.2 k5
      (fun j c v b' q1 q2 q3 => ⟨(hB 0 b' (hB0 j c v b' q1 q2 q3)).1, (hB 0 b' (hB0 j c v b' q1 q2 q3)).2, k6 j c v b' q1 q2 q3⟩) k7
    obtain ⟨σ1, hσ1⟩ : ∃ s, s = puts σ (objGain σ o (gg σ o) cs) := ⟨_, rfl⟩
    have hno : ∀ o' ∈ ids, o' ≠ o := fun o' hm he => by subst he; exact (List.nodup_cons.1 hn).1 hm
    have hgo : gg σ1 o = gg σ o := by
      have h5 : gg σ1 o = gg σ o := by
        rw [hσ1]
        have : puts σ (objGain σ o (gg σ o) cs) (.g o) = .num (gg σ o) := by
          unfold objGain
          rw [puts_append]
          show puts (put (put _ (.g o) _) (.o o) _) (cellsW o 0 _) (.g o) = _
          rw [cellsW_other _ _ _ _ _ (by simp), put_ne _ _ (by simp), put_same]
        exact gg_num this
      exact h5
    have hg1 : ∀ o', gg σ1 o' = gg σ o' := fun o' => by
      by_cases he : o' = o
      · subst he; exact hgo
      · rw [hσ1]; exact gg_of (objGain_other he).1
    have hloc1 : ∀ o', E1.loc o' = E.loc o' := fun o' => by
      by_cases he : o' = o
      · subst he
        have hr := g6 0
        have := (g2.g o').2 (by rw [← hσ1, hgo])
        exact this
      · exact g4 o' he
    have e0 : puts σ (objsW σ (o :: ids) (cs :: objs)) = puts σ1 (objsW σ1 ids objs) := by rw [hσ1]; show puts σ (_ ++ _) = _; rw [puts_append]
    rw [← hσ1] at g1 g2 g5 g6
    rw [e0]
    obtain ⟨E', f1, f2, f3, f4, f5, f6, f7⟩ := objsW_ok ids objs bs cvs E1 σ1 g1 (by simpa using h1) (by simpa using h2) (by simpa using h3) (List.nodup_cons.1 hn).2 (fun i o' b' cs' vs' q1 q2 q3 q4 => by
        obtain ⟨p1, p2, p3, p4, p5, p6, p7⟩ := ho (i + 1) o' b' cs' vs' (by simpa using q1) (by simpa using q2) (by simpa using q3) (by simpa using q4)
        exact ⟨by rw [hloc1]; exact p1, p2, p3, fun k => by rw [g3]; exact p4 k, fun j c v q5 q6 => by rw [g3]; exact p5 j c v q5 q6, p6, p7⟩)
      (fun i b' q => by
        obtain ⟨p1, p2⟩ := hB (i + 1) b' (hBs i b' q)
        refine ⟨p1, fun hL => ?_⟩
        rcases g5 b' hL with r | r | ⟨j, c, v, r1, r2, r3⟩
        · exact p2 r
        · subst r; have := hdi 0 (i + 1) b' (.inl rfl) (hBs i b' q); omega
        · have := hdi 0 (i + 1) b' (hB0 j c v b' r1 r2 r3) (hBs i b' q); omega)
      (fun i i' b' q q' => by have := hdi (i + 1) (i' + 1) b' (hBs i b' q) (hBs i' b' q'); omega)
    refine ⟨E', f1, g2.trans f2, f3.trans g3, fun o' => by rw [f4, hloc1], fun o' => by rw [f5, hg1], fun b' hL => ?_, fun i o' b' q1 q2 off => ?_⟩
    · rcases f6 b' hL with r | ⟨i, r⟩
      · rcases g5 b' r with r | r | ⟨j, c, v, r1, r2, r3⟩
        · exact .inl r
        · subst r; exact .inr ⟨0, .inl rfl⟩
        · exact .inr ⟨0, hB0 j c v b' r1 r2 r3⟩
      · exact .inr ⟨i + 1, hBs i b' r⟩
    · cases i with
      | zero =>
        simp at q1 q2
        subst q1
        subst q2
        exact (g6 off).mo f2
      | succ i =>
        have := f7 i o' b' (by simpa using q1) (by simpa using q2) off
        rwa [hg1] at this
  | o :: ids, [], _, _, _, _, _, h1, _, _, _, _, _, _ => by simp at h1
  | o :: ids, cs :: objs, [], _, _, _, _, _, h2, _, _, _, _, _ => by simp at h2
  | o :: ids, cs :: objs, b :: bs, [], _, _, _, _, _, h3, _, _, _, _ => by simp at h3

/-! ### What is handed to a call -/
def HasRow (E : Env) (σ : St) (ts : List Id) (b : Nat) : Prop := ∃ k ∈ ts, ∃ e sz T, σ (.k k) = .row e sz T ∧ (E.rv k).ownBlock = some b
theorem own_ca (hg : Gm C E σ a w) {k : Id} {g : Nat} {e : TypeId} {sz : Nat} {es : List (List V)} {v : Value} (h : RdA E σ (.own k g e sz es) v) (hq : gq σ k = g) (hk : σ (.k k) = .row e sz es.length) : CAok E.m w (.own e sz es) v ∧ v = E.rv k := by
  obtain ⟨h1, h2⟩ := h
  obtain ⟨_, _, h3⟩ := (h2.2 hq.symm e sz es.length hk).2 rfl
  obtain ⟨h4, h5⟩ := hg.ro k e sz es.length hk
  subst h3
  exact ⟨⟨h1, E.rx k, h4, fun b hb => (h5 b hb).1⟩, rfl⟩
theorem nown_ca (e : TypeId) (sz : Nat) {m : Mem} {v : Value} (h : Rd m (.sc (.slice none 0 0)) v) : CAok m w (.own e sz []) v ∧ v.ownBlock = none := by
  have := Rd.sc_eq h
  subst this
  exact ⟨⟨Rd.nil0 sz, [], World.ownsRow_nil _ _ _ _, fun b hb => by cases hb⟩, rfl⟩
theorem margs_ok (hg : Gm C E σ a w) {ids : List Id} {xs : List AV} {args : List Arg} {ts : List Id} (h : MArgs σ ids xs args ts) : ∀ (vs : List Value), vs.length = xs.length → (∀ (j : Nat) (x : AV) (v : Value), xs[j]? = some x → vs[j]? = some v → RdA E σ x v) → ts.Nodup →
    args.length = xs.length ∧ (∀ (j : Nat) (c : CA) (v : Value), args[j]? = some (.ca c) → vs[j]? = some v → CAok E.m w c v) ∧
    (∀ (j i off : Nat) (v : Value), args[j]? = some (.ptr i off) → vs[j]? = some v → ∃ o, ids[i]? = some o ∧ v = .pointer (some ⟨E.loc o, off, none⟩)) ∧
    (∀ (j : Nat) (c : CA) (v : Value) (b : Nat), args[j]? = some (.ca c) → vs[j]? = some v → ownB c v = some b → HasRow E σ ts b) ∧
    (∀ (j j' : Nat) (c c' : CA) (v v' : Value) (b : Nat), args[j]? = some (.ca c) → vs[j]? = some v → ownB c v = some b → args[j']? = some (.ca c') → vs[j']? = some v' → ownB c' v' = some b → j = j') := by
  induction h with
  | nil => intro vs _ _ _; exact ⟨rfl, fun j c v h => by simp at h, fun j i off v h => by simp at h, fun j c v b h => by simp at h, fun j j' c c' v v' b h => by simp at h⟩
  | @val x y xs ys ts hs _ ih =>
    intro vs hl hr hn
    match vs, hl with
    | v :: vs, hl =>
      obtain ⟨i1, i2, i3, i4, i5⟩ := ih vs (by simpa using hl) (fun j x u q1 q2 => hr (j + 1) x u (by simpa using q1) (by simpa using q2)) hn
      refine ⟨by simp [i1], fun j c u q1 q2 => ?_, fun j i off u q1 q2 => ?_, fun j c u b q1 q2 q3 => ?_, fun j j' c c' u u' b q1 q2 q3 q4 q5 q6 => ?_⟩
      · cases j with
        | zero => simp at q1 q2; subst q1; subst q2; exact hs _ _ (plain_ok (hr 0 x v rfl rfl))
        | succ j => exact i2 j c u (by simpa using q1) (by simpa using q2)
      · cases j with
        | zero => simp at q1
        | succ j => exact i3 j i off u (by simpa using q1) (by simpa using q2)
      · cases j with
        | zero => simp at q1; subst q1; cases q3
        | succ j => exact i4 j c u b (by simpa using q1) (by simpa using q2) q3
      · cases j with
        | zero => simp at q1; subst q1; cases q3
        | succ j =>
          cases j' with
          | zero => simp at q4; subst q4; cases q6
          | succ j' => have := i5 j j' c c' u u' b (by simpa using q1) (by simpa using q2) q3 (by simpa using q4) (by simpa using q5) q6; omega
  | @own k g e sz es xs ys ts hq hk _ ih =>
    intro vs hl hr hn
    match vs, hl with
    | v :: vs, hl =>
      obtain ⟨hk0, hn'⟩ := List.nodup_cons.1 hn
      obtain ⟨i1, i2, i3, i4, i5⟩ := ih vs (by simpa using hl) (fun j x u q1 q2 => hr (j + 1) x u (by simpa using q1) (by simpa using q2)) hn'
      obtain ⟨o1, o2⟩ := own_ca hg (hr 0 _ v rfl rfl) hq hk
      have hno : ∀ (j : Nat) (c : CA) (u : Value) (b : Nat), ys[j]? = some (.ca c) → vs[j]? = some u → ownB c u = some b → v.ownBlock ≠ some b := fun j c u b q1 q2 q3 he => by
        obtain ⟨k', hk1, e', sz', T', hk2, hk3⟩ := i4 j c u b q1 q2 q3
        rw [o2] at he
        have := hg.rr k k' e sz es.length e' sz' T' b hk hk2 he hk3
        subst this
        exact hk0 hk1
      refine ⟨by simp [i1], fun j c u q1 q2 => ?_, fun j i off u q1 q2 => ?_, fun j c u b q1 q2 q3 => ?_, fun j j' c c' u u' b q1 q2 q3 q4 q5 q6 => ?_⟩
      · cases j with
        | zero => simp at q1 q2; subst q1; subst q2; exact o1
        | succ j => exact i2 j c u (by simpa using q1) (by simpa using q2)
      · cases j with
        | zero => simp at q1
        | succ j => exact i3 j i off u (by simpa using q1) (by simpa using q2)
      · cases j with
        | zero => simp at q1 q2; subst q1; subst q2; exact ⟨k, by simp, e, sz, _, hk, by rw [← o2]; exact q3⟩
        | succ j =>
          obtain ⟨k', hk1, hk2⟩ := i4 j c u b (by simpa using q1) (by simpa using q2) q3
          exact ⟨k', List.mem_cons_of_mem _ hk1, hk2⟩
      · cases j with
        | zero =>
          simp at q1 q2; subst q1; subst q2
          cases j' with
          | zero => rfl
          | succ j' => exact absurd q3 (hno j' c' u' b (by simpa using q4) (by simpa using q5) q6)
        | succ j =>
          cases j' with
          | zero => simp at q4 q5; subst q4; subst q5; exact absurd q6 (hno j c u b (by simpa using q1) (by simpa using q2) q3)
          | succ j' => have := i5 j j' c c' u u' b (by simpa using q1) (by simpa using q2) q3 (by simpa using q4) (by simpa using q5) q6; omega
  | @nown e sz xs ys ts _ ih =>
    intro vs hl hr hn
    match vs, hl with
    | v :: vs, hl =>
      obtain ⟨i1, i2, i3, i4, i5⟩ := ih vs (by simpa using hl) (fun j x u q1 q2 => hr (j + 1) x u (by simpa using q1) (by simpa using q2)) hn
      obtain ⟨o1, o2⟩ := nown_ca (w := w) e sz (hr 0 _ v rfl rfl)
      refine ⟨by simp [i1], fun j c u q1 q2 => ?_, fun j i off u q1 q2 => ?_, fun j c u b q1 q2 q3 => ?_, fun j j' c c' u u' b q1 q2 q3 q4 q5 q6 => ?_⟩
      · cases j with
        | zero => simp at q1 q2; subst q1; subst q2; exact o1
        | succ j => exact i2 j c u (by simpa using q1) (by simpa using q2)
      · cases j with
        | zero => simp at q1
        | succ j => exact i3 j i off u (by simpa using q1) (by simpa using q2)
      · cases j with
        | zero => simp at q1 q2; subst q1; subst q2; rw [ownB, o2] at q3; cases q3
        | succ j => exact i4 j c u b (by simpa using q1) (by simpa using q2) q3
      · cases j with
        | zero => simp at q1 q2; subst q1; subst q2; rw [ownB, o2] at q3; cases q3
        | succ j =>
          cases j' with
          | zero => simp at q4 q5; subst q4; subst q5; rw [ownB, o2] at q6; cases q6
          | succ j' => have := i5 j j' c c' u u' b (by simpa using q1) (by simpa using q2) q3 (by simpa using q4) (by simpa using q5) q6; omega
  | @ptr o g off i xs ys ts hi hgo _ ih =>
    intro vs hl hr hn
    match vs, hl with
    | v :: vs, hl =>
      obtain ⟨i1, i2, i3, i4, i5⟩ := ih vs (by simpa using hl) (fun j x u q1 q2 => hr (j + 1) x u (by simpa using q1) (by simpa using q2)) hn
      refine ⟨by simp [i1], fun j c u q1 q2 => ?_, fun j i off u q1 q2 => ?_, fun j c u b q1 q2 q3 => ?_, fun j j' c c' u u' b q1 q2 q3 q4 q5 q6 => ?_⟩
      · cases j with
        | zero => simp at q1
        | succ j => exact i2 j c u (by simpa using q1) (by simpa using q2)
      · cases j with
        | zero =>
          simp at q1 q2
          obtain ⟨rfl, rfl⟩ := q1
          subst q2
          have := hr 0 _ v rfl rfl
          exact ⟨o, hi, this.2 hgo.symm⟩
        | succ j => exact i3 j i off u (by simpa using q1) (by simpa using q2)
      · cases j with
        | zero => simp at q1
        | succ j => exact i4 j c u b (by simpa using q1) (by simpa using q2) q3
      · cases j with
        | zero => simp at q1
        | succ j =>
          cases j' with
          | zero => simp at q4
          | succ j' => have := i5 j j' c c' u u' b (by simpa using q1) (by simpa using q2) q3 (by simpa using q4) (by simpa using q5) q6; omega
/-- Cells are matched as arguments are. -/
theorem mcells_args {xs : List AV} {cs : List CA} {ts : List Id} (h : MCells σ xs cs ts) : MArgs σ [] xs (cs.map .ca) ts := by
  induction h with
  | nil => exact .nil
  | val h _ ih => exact .val h ih
  | own hq hk _ ih => exact .own hq hk ih
  | nown _ ih => exact .nown ih
end
end Go.Proofs.YtkdnaemkhgjbpaaDoor
