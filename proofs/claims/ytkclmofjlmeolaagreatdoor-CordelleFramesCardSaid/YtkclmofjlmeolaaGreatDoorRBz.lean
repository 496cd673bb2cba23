/- Boxes in rows and maps: a bag of boxes beside a flat row of pointers. -/
import Derived.Test.YtkclmofjlmeolaaGreatDoorRWz
namespace Go.Proofs.YtkclmofjlmeolaaGreatDoor
open Go.RowKit
set_option linter.unusedVariables false
set_option linter.unusedSimpArgs false

section
variable {m : Mem} {w : World}
/-- The first one and the rest. -/
theorem Hg.uncons {x : T} {xs : List T} {v : Value} {vs : List Value} {F : List Nat} (h : Hg m w (x :: xs) (v :: vs) F) :
    ∃ F1 F2 : List Nat, Hg m w [x] [v] F1 ∧ Hg m w xs vs F2 ∧ (∀ b, b ∈ F ↔ b ∈ F1 ∨ b ∈ F2) ∧ ∀ b ∈ F1, b ∉ F2 := by
  cases h with
  | @av _ _ _ _ F h hs => exact ⟨[], F, .av h .nil, hs, fun b => by simp, fun b h => by cases h⟩
  | @box _ _ b us ty F1 _ F2 hb hm h hs h1 h2 h3 => exact ⟨b :: (F1 ++ []), F2, .box hb hm h .nil h1 (by simp) (by simp), hs, fun c => by simp [or_assoc], fun c hc => by
      simp at hc
      rcases hc with rfl | hc
      · exact h2
      · exact h3 c hc⟩
  | @row e sz es _ _ us F1 _ F2 ho hz hm h hs h3 => exact ⟨v.ownBlock.toList ++ (F1 ++ []), F2, .row ho hz (fun b hb => ⟨(hm b hb).1, (hm b hb).2.1, by simp⟩) h .nil (by simp), hs, fun c => by simp [or_assoc], fun c hc => by
      simp at hc
      rcases hc with hc | hc
      · exact (hm c hc).2.2
      · exact h3 c hc⟩
  | @rw e sz es _ _ us _ F2 ho hz hr hm hs => exact ⟨v.ownBlock.toList ++ [], F2, .rw ho hz hr (fun b hb => ⟨(hm b hb).1, by simp⟩) .nil, hs, fun c => by simp, fun c hc => by
      simp at hc
      exact (hm c hc).2⟩
  | @mp kvs _ b ents clock F1 _ F2 hb hm hk hk2 hn hc h hs h1 h2 h3 => exact ⟨b :: (F1 ++ []), F2, .mp hb hm hk hk2 hn hc h .nil h1 (by simp) (by simp), hs, fun c => by simp [or_assoc], fun c hc => by
      simp at hc
      rcases hc with rfl | hc
      · exact h2
      · exact h3 c hc⟩
  | @pm kvs kvs' _ _ _ F1 F2 hp h hs h3 => exact ⟨F1 ++ [], F2, .pm hp h .nil (by simp), hs, fun c => by simp, fun c hc => h3 c (by simpa using hc)⟩
  | @bag ps _ _ F1 F2 h hs h3 => exact ⟨F1 ++ [], F2, .bag h .nil (by simp), hs, fun c => by simp, fun c hc => h3 c (by simpa using hc)⟩
theorem Hg.consed {x : T} {xs : List T} {v : Value} {vs : List Value} {F1 F2 : List Nat} (h : Hg m w [x] [v] F1) (hs : Hg m w xs vs F2) (hd : ∀ b ∈ F1, b ∉ F2) :
    ∃ F : List Nat, Hg m w (x :: xs) (v :: vs) F ∧ ∀ b, b ∈ F ↔ b ∈ F1 ∨ b ∈ F2 := by
  cases h with
  | av h h0 => cases h0; exact ⟨_, .av h hs, fun b => by simp⟩
  | box hb hm h h0 h1 h2 h3 => cases h0; exact ⟨_, .box hb hm h hs h1 (hd _ (by simp)) (fun i hi => hd i (by simp [hi])), fun b => by simp [or_assoc]⟩
  | row ho hz hm h h0 h3 => cases h0; exact ⟨_, .row ho hz (fun b hb => ⟨(hm b hb).1, (hm b hb).2.1, hd b (by simp [hb])⟩) h hs (fun i hi => hd i (by simp [hi])), fun b => by simp [or_assoc]⟩
  | rw ho hz hr hm h0 => cases h0; exact ⟨_, .rw ho hz hr (fun b hb => ⟨(hm b hb).1, hd b (by simp [hb])⟩) hs, fun b => by simp⟩
  | mp hb hm hk hk2 hn hc h h0 h1 h2 h3 => cases h0; exact ⟨_, .mp hb hm hk hk2 hn hc h hs h1 (hd _ (by simp)) (fun i hi => hd i (by simp [hi])), fun b => by simp [or_assoc]⟩
  | pm hp h h0 h3 => cases h0; exact ⟨_, .pm hp h hs (fun i hi => hd i (by simp [hi])), fun b => by simp⟩
  | bag h h0 h3 => cases h0; exact ⟨_, .bag h hs (fun i hi => hd i (by simp [hi])), fun b => by simp⟩
/-- One is taken out of the midst; in its place stands its value. -/
theorem Hg.take_any : ∀ {xs : List T} {vs : List Value} {F : List Nat} {j : Nat} {x : T}, Hg m w xs vs F → xs[j]? = some x →
    ∃ (v : Value) (F1 F2 : List Nat), vs[j]? = some v ∧ Hg m w [x] [v] F1 ∧ (∀ y, (∀ u, Rd m y u) ∨ y = .sc v → ∃ F' : List Nat, Hg m w (xs.set j (.av y)) vs F' ∧ ∀ b, b ∈ F' ↔ b ∈ F2) ∧ (∀ b, b ∈ F ↔ b ∈ F1 ∨ b ∈ F2) ∧ ∀ b ∈ F1, b ∉ F2
  | [], _, _, j, x, _, hj => by simp at hj
  | x0 :: xs, [], _, j, x, h, hj => by have := h.len; simp at this
  | x0 :: xs, v0 :: vs, F, 0, x, h, hj => by
    simp at hj
    subst hj
    obtain ⟨F1, F2, h1, h2, h3, h4⟩ := h.uncons
    exact ⟨v0, F1, F2, rfl, h1, fun y hy => ⟨F2, .av (by rcases hy with hy | rfl; exact hy _; exact .sc _) h2, fun _ => Iff.rfl⟩, h3, h4⟩
  | x0 :: xs, v0 :: vs, F, j + 1, x, h, hj => by
    obtain ⟨G1, G2, h1, h2, h3, h4⟩ := h.uncons
    obtain ⟨v, F1, F2, k1, k2, k3, k4, k5⟩ := Hg.take_any (j := j) (x := x) h2 (by simpa using hj)
    refine ⟨v, F1, G1 ++ F2, by simpa using k1, k2, fun y hy => ?_, fun b => ?_, fun b hb => ?_⟩
    · obtain ⟨F0, q0, q00⟩ := k3 y hy
      obtain ⟨F', q1, q2⟩ := Hg.consed h1 q0 (fun b hb h => h4 b hb ((k4 b).2 (.inr ((q00 b).1 h))))
      exact ⟨F', q1, fun b => by rw [q2, q00, List.mem_append]⟩
    · rw [h3, k4, List.mem_append]
      constructor
      · rintro (h | h | h)
        · exact .inr (.inl h)
        · exact .inl h
        · exact .inr (.inr h)
      · rintro (h | h | h)
        · exact .inr (.inl h)
        · exact .inl h
        · exact .inr (.inr h)
    · rw [List.mem_append, not_or]
      exact ⟨fun h => h4 b h ((k4 b).2 (.inl hb)), k5 b hb⟩
/-- One is put into the midst, at the value that stands there. -/
theorem Hg.give_any : ∀ {xs : List T} {vs : List Value} {F : List Nat} {j : Nat} {x : T} {y : V} {v : Value} {G : List Nat}, Hg m w xs vs F → xs[j]? = some (.av y) → vs[j]? = some v → Hg m w [x] [v] G → (∀ b ∈ G, b ∉ F) →
    ∃ F' : List Nat, Hg m w (xs.set j x) vs F' ∧ ∀ b, b ∈ F' ↔ b ∈ G ∨ b ∈ F
  | [], _, _, j, x, y, v, G, _, hj, _, _, _ => by simp at hj
  | x0 :: xs, [], _, j, x, y, v, G, h, hj, _, _, _ => by have := h.len; simp at this
  | x0 :: xs, v0 :: vs, F, 0, x, y, v, G, h, hj, hv, hx, hd => by
    simp at hj hv
    subst hj hv
    cases h with
    | av h hs => exact Hg.consed hx hs hd
  | x0 :: xs, v0 :: vs, F, j + 1, x, y, v, G, h, hj, hv, hx, hd => by
    obtain ⟨G1, G2, h1, h2, h3, h4⟩ := h.uncons
    obtain ⟨F0, q0, q00⟩ := Hg.give_any (j := j) (x := x) h2 (by simpa using hj) (by simpa using hv) hx (fun b hb h => hd b hb ((h3 b).2 (.inr h)))
    obtain ⟨F', q1, q2⟩ := Hg.consed h1 q0 (fun b hb h => by
      rcases (q00 b).1 h with h | h
      · exact hd b h ((h3 b).2 (.inl hb))
      · exact h4 b hb h)
    refine ⟨F', q1, fun b => ?_⟩
    rw [q2, q00, h3]
    constructor
    · rintro (h | h | h)
      · exact .inr (.inl h)
      · exact .inl h
      · exact .inr (.inr h)
    · rintro (h | h | h)
      · exact .inr (.inl h)
      · exact .inl h
      · exact .inr (.inr h)
/-- One is left out. -/
theorem Hg.leave : ∀ {xs : List T} {vs : List Value} {F : List Nat} (j : Nat), Hg m w xs vs F → ∃ F' : List Nat, Hg m w (xs.eraseIdx j) (vs.eraseIdx j) F' ∧ ∀ b ∈ F', b ∈ F
  | [], vs, F, j, h => by have := h.len; simp at this; subst this; exact ⟨F, by simpa using h, fun b h => h⟩
  | x0 :: xs, [], _, j, h => by have := h.len; simp at this
  | x0 :: xs, v0 :: vs, F, 0, h => by
    obtain ⟨F1, F2, h1, h2, h3, h4⟩ := h.uncons
    exact ⟨F2, h2, fun b hb => (h3 b).2 (.inr hb)⟩
  | x0 :: xs, v0 :: vs, F, j + 1, h => by
    obtain ⟨F1, F2, h1, h2, h3, h4⟩ := h.uncons
    obtain ⟨F0, q0, q00⟩ := Hg.leave j h2
    obtain ⟨F', q1, q2⟩ := Hg.consed h1 q0 (fun b hb h => h4 b hb (q00 b h))
    exact ⟨F', by simpa using q1, fun b hb => by
      rw [h3]
      rcases (q2 b).1 hb with h | h
      · exact .inl h
      · exact .inr (q00 b h)⟩
/-- One more is put in. -/
theorem Hg.insert : ∀ {xs : List T} {vs : List Value} {F : List Nat} {x : T} {v : Value} {G : List Nat} (j : Nat), Hg m w xs vs F → j ≤ xs.length → Hg m w [x] [v] G → (∀ b ∈ G, b ∉ F) → ∃ F' : List Nat, Hg m w (xs.insertIdx j x) (vs.insertIdx j v) F' ∧ ∀ b, b ∈ F' ↔ b ∈ G ∨ b ∈ F
  | xs, vs, F, x, v, G, 0, h, _, hx, hd => by simpa using Hg.consed hx h hd
  | [], vs, F, x, v, G, j + 1, h, hj, _, _ => by simp at hj
  | x0 :: xs, [], _, x, v, G, j + 1, h, _, _, _ => by have := h.len; simp at this
  | x0 :: xs, v0 :: vs, F, x, v, G, j + 1, h, hj, hx, hd => by
    obtain ⟨F1, F2, h1, h2, h3, h4⟩ := h.uncons
    obtain ⟨F0, q0, q00⟩ := Hg.insert j h2 (by simpa using hj) hx (fun b hb h => hd b hb ((h3 b).2 (.inr h)))
    obtain ⟨F', q1, q2⟩ := Hg.consed h1 q0 (fun b hb h => by
      rcases (q00 b).1 h with h | h
      · exact hd b h ((h3 b).2 (.inl hb))
      · exact h4 b hb h)
    refine ⟨F', by simpa using q1, fun b => ?_⟩
    rw [q2, q00, h3]
    constructor
    · rintro (h | h | h)
      · exact .inr (.inl h)
      · exact .inl h
      · exact .inr (.inr h)
    · rintro (h | h | h)
      · exact .inr (.inl h)
      · exact .inl h
      · exact .inr (.inr h)
/-- The pointer to a block. -/
abbrev pw (b : Nat) : Value := .pointer (some ⟨b, 0, none⟩)
/-- What an object's cell holds, told as at a call. -/
def toCA : T → CA
  | .av x => .val x
  | .box xs => .hd (.box xs)
  | .row e sz es => .hd (.row e sz es)
  | .rw e sz es => .hd (.rw e sz es)
  | .mp kvs => .hd (.mp kvs)
  | .pm kvs => .hd (.pm kvs)
  | .bag ps => .hd (.bag ps)
theorem toCA_hd {x : T} (hx : ∀ y, x ≠ .av y) : toCA x = .hd x := by
  cases x with
  | av y => exact absurd rfl (hx y)
  | _ => rfl
theorem ca_of_hg {bs : List Nat} {x : T} {v : Value} {F : List Nat} (h : Hg m w [x] [v] F) : CAok m w bs (toCA x) v F := by
  by_cases hx : ∀ y, x ≠ .av y
  · rw [toCA_hd hx]; exact ⟨h, hx⟩
  · have ⟨y, hy⟩ := Classical.not_forall.1 hx
    have hy : x = .av y := Classical.not_not.1 hy
    subst hy
    cases h with
    | av h h0 => cases h0; exact ⟨h, rfl⟩
theorem hg_of_ca {bs : List Nat} {x : T} {v : Value} {F : List Nat} (h : CAok m w bs (toCA x) v F) : Hg m w [x] [v] F := by
  by_cases hx : ∀ y, x ≠ .av y
  · rw [toCA_hd hx] at h; exact h.1
  · have ⟨y, hy⟩ := Classical.not_forall.1 hx
    have hy : x = .av y := Classical.not_not.1 hy
    subst hy
    obtain ⟨h1, rfl⟩ := h
    exact .av h1 .nil
theorem args_of_hg {bs : List Nat} : ∀ {xs : List T} {vs : List Value} {F : List Nat}, Hg m w xs vs F → ∃ F' : List Nat, ArgsOk m w bs ((xs.map toCA).map .ca) vs F' ∧ ∀ b, b ∈ F' ↔ b ∈ F
  | [], vs, F, h => by cases h; exact ⟨[], .nil, fun _ => Iff.rfl⟩
  | x :: xs, [], F, h => by have := h.len; simp at this
  | x :: xs, v :: vs, F, h => by
    obtain ⟨F1, F2, h1, h2, h3, h4⟩ := h.uncons
    obtain ⟨F', q1, q2⟩ := args_of_hg (bs := bs) h2
    exact ⟨F1 ++ F', .cons (ca_of_hg h1) q1 (fun b hb h => h4 b hb ((q2 b).1 h)), fun b => by rw [List.mem_append, q2, h3]⟩
theorem hg_of_args {bs : List Nat} : ∀ {xs : List T} {vs : List Value} {F : List Nat}, ArgsOk m w bs ((xs.map toCA).map .ca) vs F → ∃ F' : List Nat, Hg m w xs vs F' ∧ ∀ b, b ∈ F' ↔ b ∈ F
  | [], vs, F, h => by cases h; exact ⟨[], .nil, fun _ => Iff.rfl⟩
  | x :: xs, vs, F, h => by
    rw [List.map_cons, List.map_cons] at h
    cases h with
    | @cons _ v F1 _ vs' F2 h hs hd =>
      obtain ⟨F0, q1, q2⟩ := hg_of_args hs
      obtain ⟨F', r1, r2⟩ := Hg.consed (hg_of_ca (x := x) h) q1 (fun b hb h => hd b hb ((q2 b).1 h))
      exact ⟨F', r1, fun b => by rw [r2, q2, List.mem_append]⟩
theorem bag_inv {ps : List (Value × T)} {v : Value} {F : List Nat} (h : Hg m w [.bag ps] [v] F) : ∃ F1 : List Nat, v = .bool false ∧ Hg m w (ps.map (·.2)) (ps.map (·.1)) F1 ∧ ∀ b, b ∈ F ↔ b ∈ F1 := by
  cases h with
  | bag h h0 h3 => cases h0; exact ⟨_, rfl, h, fun b => by simp⟩
theorem bag_mk {ps : List (Value × T)} {F : List Nat} (h : Hg m w (ps.map (·.2)) (ps.map (·.1)) F) : Hg m w [.bag ps] [.bool false] F := by
  have := Hg.bag h .nil (fun i _ h => by cases h)
  simpa using this
theorem box_inv {ys : List T} {v : Value} {F : List Nat} (h : Hg m w [.box ys] [v] F) : ∃ (b : Nat) (us : List Value) (ty : TypeId) (F1 : List Nat), v = .pointer (some ⟨b, 0, none⟩) ∧ w.heap[b]? = some (.cells us.toArray ty (0, 0)) ∧ (∀ i, m b i = none) ∧ Hg m w ys us F1 ∧ b ∉ F1 ∧ ∀ c, c ∈ F ↔ c = b ∨ c ∈ F1 := by
  cases h with
  | box hb hm h h0 h1 h2 h3 => cases h0; exact ⟨_, _, _, _, rfl, hb, hm, h, h1, fun c => by simp⟩
theorem box_mk {ys : List T} {b : Nat} {us : List Value} {ty : TypeId} {F1 : List Nat} (hb : w.heap[b]? = some (.cells us.toArray ty (0, 0))) (hm : ∀ i, m b i = none) (h : Hg m w ys us F1) (h1 : b ∉ F1) : Hg m w [.box ys] [.pointer (some ⟨b, 0, none⟩)] (b :: F1) := by
  have := Hg.box hb hm h .nil h1 (by simp) (by simp)
  simpa using this
end
attribute [go_sem] toCA
section
variable {P : Program} {ops : Array Oper} {C : Ctx} {E : Env} {σ : St} {a : Act} {w : World}
/-- Slots of which more is known now. -/
def slotsW (ts : List Nat) (x : AV) : List (Pl × X) := ts.map fun t => (.s t, .av x)
theorem Gm.slots (x : AV) : ∀ (ts : List Nat) (σ : St), Gm C E σ a w → (∀ t ∈ ts, t < C.nt) → (∀ s : St, (∀ l, (∀ t, l ≠ .s t) → s l = σ l) → ∀ t ∈ ts, RdA E s x (a.tmps.getD t undef)) → Gm C E (puts σ (slotsW ts x)) a w
  | [], σ, hg, _, _ => hg
  | t :: ts, σ, hg, ht, hx => by
    have h1 := hg.ghost t x (ht t (List.mem_cons_self ..)) (hx σ (fun _ _ => rfl) t (List.mem_cons_self ..))
    exact Gm.slots x ts _ h1 (fun u hu => ht u (List.mem_cons_of_mem _ hu)) fun s hs u hu => hx s (fun l hl => by rw [hs l hl, put_ne _ _ (hl t)]) u (List.mem_cons_of_mem _ hu)
theorem slotsW_out (x : AV) : ∀ (ts : List Nat) (σ : St) {l : Pl}, (∀ t, l ≠ .s t) → puts σ (slotsW ts x) l = σ l
  | [], _, _, _ => rfl
  | t :: ts, σ, l, h => (slotsW_out x ts (put σ (.s t) (.av x)) h).trans (put_ne _ _ (h t))
/-- Slots that hold a value. -/
def slotsAre (σ : St) (x : AV) (n : Nat) : List Nat → Prop
  | [] => True
  | t :: ts => (σ (.s t) = .av x ∧ t < n) ∧ slotsAre σ x n ts
theorem slotsAre_get {x : AV} {n : Nat} : ∀ {ts : List Nat}, slotsAre σ x n ts → ∀ t ∈ ts, σ (.s t) = .av x ∧ t < n
  | [], _, _, h => by cases h
  | t :: ts, h, u, hu => by
    rcases List.mem_cons.1 hu with rfl | hu
    · exact h.1
    · exact slotsAre_get h.2 u hu
/-- A box is taken out of a bag: an object. -/
def opnW (σ : St) (k o : Id) (ps : List (Value × T)) (ys : List T) (u : Value) (qs ts : List Nat) : List (Pl × X) :=
  (.r k, .tree (.bag ps)) :: (objGain (put σ (.r k) (.tree (.bag ps))) [] o (gg σ o + 1) (ys.map toCA) ++ (slotsW qs (.pv u o (gg σ o + 1)) ++ slotsW ts (.ptr o (gg σ o + 1) 0)))
theorem Gm.open (hg : Gm C E σ a w) {k o : Id} {ps : List (Value × T)} {i : Nat} {u : Value} {ys : List T} {qs ts : List Nat} (hi : ps[i]? = some (u, .box ys)) (h1 : σ (.r k) = .tree (.bag ps)) (ho : o.2 = 0 ∧ C.pins o = none) (hqs : ∀ t ∈ qs, t < C.nt) (hdj : ∀ t ∈ qs, t ∉ ts) (hts : slotsAre σ (.val (.sc u)) C.nt ts) :
    ∃ E', Gm C E' (puts σ (opnW σ k o (ps.set i (u, .av .any)) ys u qs ts)) a w := by
  obtain ⟨hb, _⟩ := hg.tr.hg k _ h1
  obtain ⟨F1, b1, b2, b3⟩ := bag_inv hb
  obtain ⟨v, Fa, Fb, c1, c2, c3, c4, c5⟩ := b2.take_any (j := i) (x := .box ys) (by rw [List.getElem?_map, hi]; rfl)
  have hvu : v = u := by
    rw [List.getElem?_map, hi] at c1
    exact (Option.some.inj c1).symm
  subst hvu
  obtain ⟨F', q1, q2⟩ := c3 .any (.inl fun u => .any u)
  have hbag : Hg E.m w [.bag (ps.set i (v, .av .any))] [E.bv k] F' := by
    rw [b1]
    refine bag_mk ?_
    rw [List.map_set, List.map_set, set_self (l := ps.map (·.1)) c1]
    exact q1
  obtain ⟨E1, g1, m1, e1, e2, e3⟩ := hg.retree k _ (.bag (ps.set i (v, .av .any))) F' h1 (fun ys h => by cases h) (fun y h => by cases h) (fun ys h => by cases h) hbag (fun b hb => .inl ((b3 b).2 ((c4 b).2 (.inr ((q2 b).1 hb)))))
  obtain ⟨b, us, ty, Fy, rfl, y1, y2, y3, y4, y5⟩ := box_inv c2
  obtain ⟨Fz, z1, z2⟩ := args_of_hg (bs := []) y3
  have hgo : gg (put σ (.r k) (.tree (.bag (ps.set i (Value.pointer (some ⟨b, 0, none⟩), .av .any))))) o = gg σ o := gg_of (put_ne _ _ (by simp))
  obtain ⟨E2, g2, m2, f1, f2, f3, f4, f5, f6⟩ := objGain_ok g1 [] [] (fun ob o' b h => by simp at h) o (gg σ o + 1) b (.inr ⟨by rw [hgo]; omega, ho.2, ho.1⟩) ty (ys.map toCA) us Fz (fun k' hk' => ⟨by simp, fun e => by
      have : ∀ (cs : List CA) (j : Nat), ∀ k ∈ kidsOf o j cs, k.2 ≠ 0 := by
        intro cs
        induction cs with
        | nil => intro j k hk; cases hk
        | cons c cs ih =>
          intro j k hk
          simp only [kidsOf] at hk
          split at hk
          · rcases List.mem_cons.1 hk with rfl | hk
            · exact kid_ne o j
            · exact ih _ k hk
          · exact ih _ k hk
      exact this _ _ _ hk' (e ▸ ho.1)⟩) y1 (fun i => by rw [e1]; exact y2 i) (by rw [e1]; exact z1) (fun h => y4 ((z2 b).1 h)) (fun c hc => by
      have hca : c ∈ Fa := (y5 c).2 (by
        rcases List.mem_cons.1 hc with h | h
        · exact .inl h
        · exact .inr ((z2 c).1 h))
      have hin : c ∈ E.bf k := (b3 c).2 ((c4 c).2 (.inl hca))
      refine ⟨hg.tr.dd k _ c h1 hin, fun ⟨t, ht⟩ => ?_⟩
      rcases e3 t c ht with ⟨q3, q4⟩ | ⟨q3, q4⟩
      · exact q3 (hg.ho_inj q4 (t' := .r k) ⟨_, h1, hin⟩)
      · exact c5 c hca ((q2 c).1 q4))
  refine ⟨E2, ?_⟩
  unfold opnW
  show Gm C E2 (puts (put σ _ _) (objGain _ [] o (gg σ o + 1) (ys.map toCA) ++ _)) a w
  rw [puts_append]
  have hsl := slotsAre_get hts
  have hval : ∀ t ∈ ts, a.tmps.getD t undef = .pointer (some ⟨b, 0, none⟩) := fun t ht => Rd.sc_eq (hg.sl t _ (hsl t ht).1)
  have key : ∀ s : St, (∀ l, (∀ t, l ≠ .s t) → s l = puts (put σ (.r k) (.tree (.bag (ps.set i (Value.pointer (some ⟨b, 0, none⟩), .av .any))))) (objGain (put σ (.r k) (.tree (.bag (ps.set i (Value.pointer (some ⟨b, 0, none⟩), .av .any))))) [] o (gg σ o + 1) (ys.map toCA)) l) → gg s o = gg σ o + 1 := fun s hs => by
    rw [← f4]
    exact gg_of (hs (.g o) (by simp))
  rw [puts_append]
  have g3 := Gm.slots (.pv (.pointer (some ⟨b, 0, none⟩)) o (gg σ o + 1)) qs _ g2 hqs fun s hs t _ => ⟨Nat.le_of_eq (key s hs).symm, fun _ => by rw [f3]⟩
  refine Gm.slots (.ptr o (gg σ o + 1) 0) ts _ g3 (fun t ht => (hsl t ht).2) fun s hs t ht => ?_
  rw [hval t ht]
  exact ⟨Nat.le_of_eq (key s fun l hl => (hs l hl).trans (slotsW_out _ _ _ hl)).symm, fun _ => by rw [f3]⟩
/-- An object's box: what the object holds is told, and let go. -/
theorem Gm.boxed (hg : Gm C E σ a w) {o : Id} {ys : List T} (hm : mObjs σ [o] [o] [ys.map toCA]) (hn : (tokObjs σ [o] [ys.map toCA]).Nodup) :
    ∃ G, Hg E.m w [.box ys] [.pointer (some ⟨E.loc o, 0, none⟩)] G ∧ (∀ b ∈ G, ∃ t ∈ tokObjs σ [o] [ys.map toCA], HoB E σ t b) ∧ Gm C E (puts σ (dropW σ (tokObjs σ [o] [ys.map toCA]))) a w ∧
      (∀ t b, HoB E (puts σ (dropW σ (tokObjs σ [o] [ys.map toCA]))) t b → HoB E σ t b ∧ t ∉ tokObjs σ [o] [ys.map toCA]) := by
  obtain ⟨_, G, h1, h2⟩ := mobjs_ok hg (mObjs_ok hm) hn
  generalize tokObjs σ [o] [ys.map toCA] = ts at h2 hn ⊢
  obtain ⟨d1, d2, d3, d3', d3'', d4, d5, d5', d6⟩ := dropW_at (σ := σ) ts
  obtain ⟨g1, m1, l1⟩ := hg.drop _ d1 d2 d3 (fun o n h => (d4 o n h).1) (fun k e sz T h => (d5 k e sz T h).1) d6 (fun k x h => (d5' k x h).1) (fun k i y h => by rw [← d3'']; exact h) d3' (fun o k g s h => dropW_itr ts o k g s h)
  have hd : ∀ t b, HoB E (puts σ (dropW σ ts)) t b → HoB E σ t b ∧ t ∉ ts := fun t b ht => ⟨l1 t b ht, by
    cases t with
    | o i => obtain ⟨n, q1, q2⟩ := ht; exact (d4 i n q1).2
    | k i => obtain ⟨e, sz, T, q1, q2⟩ := ht; exact (d5 i e sz T q1).2
    | r i => obtain ⟨x, q1, q2⟩ := ht; exact (d5' i x q1).2⟩
  cases h1 with
  | @cons b cs vs ty F bs' objs F' hb hm0 hA hn hs hd' =>
    cases hs
    obtain ⟨F1, r1, r2⟩ := hg_of_args hA
    exact ⟨E.loc o :: F1, box_mk hb hm0 r1 (fun h => hn ((r2 _).1 h)), fun c hc => h2 c (by
      rcases List.mem_cons.1 hc with rfl | hc
      · simp
      · simp [(r2 c).1 hc]), g1, hd⟩
end
section
variable {P : Program} {ops : Array Oper} {C : Ctx} {E : Env} {σ : St} {a : Act} {w : World}
theorem dropW_r {k : Id} {ts : List Ho} (hk : Ho.r k ∉ ts) : puts σ (dropW σ ts) (.r k) = σ (.r k) :=
  puts_out _ _ _ fun hl => by
    obtain ⟨p, hp, he⟩ := List.mem_map.1 hl
    obtain ⟨t, q1, q2⟩ := dropW_mem hp
    cases t with
    | o i =>
      simp only [hoDrop, List.mem_cons, List.not_mem_nil, or_false] at q2
      cases he.symm.trans (congrArg Prod.fst q2)
    | k i =>
      simp only [hoDrop, List.mem_cons, List.not_mem_nil, or_false] at q2
      rcases q2 with q2 | q2 <;> cases he.symm.trans (congrArg Prod.fst q2)
    | r i =>
      simp only [hoDrop, List.mem_cons, List.not_mem_nil, or_false] at q2
      cases he.symm.trans (congrArg Prod.fst q2)
      exact hk q1
/-- An object goes back into its bag. -/
def clsW (σ : St) (k o : Id) (ps : List (Value × T)) (ys : List T) (u : Value) (ts : List Nat) : List (Pl × X) :=
  dropW σ (tokObjs σ [o] [ys.map toCA]) ++ ((.r k, .tree (.bag ps)) :: slotsW ts (.val (.sc u)))
theorem Gm.close (hg : Gm C E σ a w) {k o : Id} {ps : List (Value × T)} {i t0 : Nat} {u : Value} {y : V} {ys : List T} {ts : List Nat} (hi : ps[i]? = some (u, .av y)) (h1 : σ (.r k) = .tree (.bag ps)) (h0 : σ (.s t0) = .av (.pv u o (gg σ o))) (hm : mObjs σ [o] [o] [ys.map toCA]) (hn : (tokObjs σ [o] [ys.map toCA]).Nodup)
    (hk : Ho.r k ∉ tokObjs σ [o] [ys.map toCA]) (hts : slotsAre σ (.ptr o (gg σ o) 0) C.nt ts) : ∃ E', Gm C E' (puts σ (clsW σ k o (ps.set i (u, .box ys)) ys u ts)) a w := by
  have hu : u = .pointer (some ⟨E.loc o, 0, none⟩) := (hg.sl t0 _ h0).2 rfl
  obtain ⟨G, b1, b2, g1, b4⟩ := hg.boxed hm hn
  unfold clsW
  rw [puts_append]
  have hsl := slotsAre_get hts
  have hval : ∀ t ∈ ts, a.tmps.getD t undef = u := fun t ht => by rw [hu]; exact (hg.sl t _ (hsl t ht).1).2 rfl
  generalize tokObjs σ [o] [ys.map toCA] = toks at *
  have h1' : puts σ (dropW σ toks) (.r k) = .tree (.bag ps) := (dropW_r hk).trans h1
  obtain ⟨hb, _⟩ := g1.tr.hg k _ h1'
  obtain ⟨F1, c1, c2, c3⟩ := bag_inv hb
  have hi1 : (ps.map (·.1))[i]? = some u := by rw [List.getElem?_map, hi]; rfl
  obtain ⟨F', q1, q2⟩ := c2.give_any (j := i) (x := .box ys) (y := y) (v := u) (G := G) (by rw [List.getElem?_map, hi]; rfl) hi1 (by rw [hu]; exact b1) (fun b hG hF => by
    obtain ⟨t, r1, r2⟩ := b2 b hG
    obtain ⟨s1, s2⟩ := b4 (.r k) b ⟨_, h1', (c3 b).2 hF⟩
    exact hk (hg.ho_inj r2 s1 ▸ r1))
  have hbag : Hg E.m w [.bag (ps.set i (u, .box ys))] [E.bv k] F' := by
    rw [c1]
    refine bag_mk ?_
    rw [List.map_set, List.map_set, set_self (l := ps.map (·.1)) hi1]
    exact q1
  obtain ⟨E1, g2, m1, e1, e2, e3⟩ := g1.retree k _ (.bag (ps.set i (u, .box ys))) F' h1' (fun ys h => by cases h) (fun y h => by cases h) (fun ys h => by cases h) hbag (fun b hb' => by
    rcases (q2 b).1 hb' with h | h
    · obtain ⟨t, r1, r2⟩ := b2 b h
      exact .inr ⟨(hg.ho_dd r2).2, fun ⟨t', ht'⟩ => by
        obtain ⟨s1, s2⟩ := b4 t' b ht'
        exact s2 (hg.ho_inj r2 s1 ▸ r1)⟩
    · exact .inl ((c3 b).2 h))
  refine ⟨E1, ?_⟩
  show Gm C E1 (puts (put (puts σ (dropW σ toks)) (.r k) _) (slotsW ts _)) a w
  exact Gm.slots (.val (.sc u)) ts _ g2 (fun t ht => (hsl t ht).2) fun s _ t ht => by rw [hval t ht]; exact Rd.sc u
theorem map_insert {α β : Type} (f : α → β) : ∀ (l : List α) (j : Nat) (x : α), (l.insertIdx j x).map f = (l.map f).insertIdx j (f x)
  | l, 0, x => by simp
  | [], j + 1, x => by simp
  | y :: l, j + 1, x => by simp [map_insert f l j x]
/-- An object goes into a bag that did not hold it. -/
theorem Gm.bagIn (hg : Gm C E σ a w) {k o : Id} {ps : List (Value × T)} {i : Nat} {ys : List T} {ts : List Nat} (hi : i ≤ ps.length) (h1 : σ (.r k) = .tree (.bag ps)) (hm : mObjs σ [o] [o] [ys.map toCA]) (hn : (tokObjs σ [o] [ys.map toCA]).Nodup)
    (hk : Ho.r k ∉ tokObjs σ [o] [ys.map toCA]) (hts : slotsAre σ (.ptr o (gg σ o) 0) C.nt ts) : ∃ b E', Gm C E' (puts σ (clsW σ k o (ps.insertIdx i (pw b, .box ys)) ys (pw b) ts)) a w := by
  refine ⟨E.loc o, ?_⟩
  obtain ⟨u, hu⟩ : ∃ u, u = pw (E.loc o) := ⟨_, rfl⟩
  rw [← hu]
  obtain ⟨G, b1, b2, g1, b4⟩ := hg.boxed hm hn
  unfold clsW
  simp only [puts_append]
  have hsl := slotsAre_get hts
  have hval : ∀ t ∈ ts, a.tmps.getD t undef = u := fun t ht => by rw [hu]; exact (hg.sl t _ (hsl t ht).1).2 rfl
  generalize tokObjs σ [o] [ys.map toCA] = toks at *
  have h1' : puts σ (dropW σ toks) (.r k) = .tree (.bag ps) := (dropW_r hk).trans h1
  obtain ⟨hb, _⟩ := g1.tr.hg k _ h1'
  obtain ⟨F1, c1, c2, c3⟩ := bag_inv hb
  obtain ⟨F', q1, q2⟩ := c2.insert (x := .box ys) (v := u) (G := G) i (by simpa using hi) (by rw [hu]; exact b1) (fun b hG hF => by
    obtain ⟨t, r1, r2⟩ := b2 b hG
    obtain ⟨s1, s2⟩ := b4 (.r k) b ⟨_, h1', (c3 b).2 hF⟩
    exact hk (hg.ho_inj r2 s1 ▸ r1))
  have hbag : Hg E.m w [.bag (ps.insertIdx i (u, .box ys))] [E.bv k] F' := by
    rw [c1]
    refine bag_mk ?_
    rw [map_insert, map_insert]
    exact q1
  obtain ⟨E1, g2, m1, e1, e2, e3⟩ := g1.retree k _ (.bag (ps.insertIdx i (u, .box ys))) F' h1' (fun ys h => by cases h) (fun y h => by cases h) (fun ys h => by cases h) hbag (fun b hb' => by
    rcases (q2 b).1 hb' with h | h
    · obtain ⟨t, r1, r2⟩ := b2 b h
      exact .inr ⟨(hg.ho_dd r2).2, fun ⟨t', ht'⟩ => by
        obtain ⟨s1, s2⟩ := b4 t' b ht'
        exact s2 (hg.ho_inj r2 s1 ▸ r1)⟩
    · exact .inl ((c3 b).2 h))
  refine ⟨E1, ?_⟩
  show Gm C E1 (puts (put (puts σ (dropW σ toks)) (.r k) _) (slotsW ts _)) a w
  exact Gm.slots (.val (.sc u)) ts _ g2 (fun t ht => (hsl t ht).2) fun s _ t ht => by rw [hval t ht]; exact Rd.sc u
/-- A bag's place is forgotten, with what it holds. -/
theorem Gm.bagOut (hg : Gm C E σ a w) {k : Id} {ps : List (Value × T)} (i : Nat) (h1 : σ (.r k) = .tree (.bag ps)) : ∃ E', Gm C E' (puts σ [(.r k, .tree (.bag (ps.eraseIdx i)))]) a w := by
  obtain ⟨hb, _⟩ := hg.tr.hg k _ h1
  obtain ⟨F1, c1, c2, c3⟩ := bag_inv hb
  obtain ⟨F', q1, q2⟩ := c2.leave i
  obtain ⟨E1, g2, _⟩ := hg.retree k _ (.bag (ps.eraseIdx i)) F' h1 (fun ys h => by cases h) (fun y h => by cases h) (fun ys h => by cases h) (by
    rw [c1]
    refine bag_mk ?_
    rw [map_erase, map_erase]
    exact q1) (fun b hb' => .inl ((c3 b).2 (q2 b hb')))
  exact ⟨E1, g2⟩
theorem row_inv {m : Mem} {e : TypeId} {sz : Nat} {es : List (List T)} {v : Value} {F : List Nat} (h : Hg m w [.row e sz es] [v] F) :
    ∃ us F1, w.ownsRow 0 e sz v es.length us ∧ (∀ r ∈ es, r.length = sz) ∧ (∀ b, v.ownBlock = some b → (∀ i, m b i = none) ∧ b ∉ F1) ∧ Hg m w es.flatten us F1 ∧ ∀ b, b ∈ F ↔ v.ownBlock = some b ∨ b ∈ F1 := by
  cases h with
  | @row _ _ _ _ _ us F1 _ F2 ho hz hm h hs h3 => cases hs; exact ⟨us, F1, ho, hz, fun b hb => ⟨(hm b hb).1, (hm b hb).2.1⟩, h, fun b => by simp⟩
theorem row_mk {m : Mem} {e : TypeId} {sz : Nat} {es : List (List T)} {v : Value} {us : List Value} {F1 : List Nat} (ho : w.ownsRow 0 e sz v es.length us) (hz : ∀ r ∈ es, r.length = sz) (hm : ∀ b, v.ownBlock = some b → (∀ i, m b i = none) ∧ b ∉ F1) (h : Hg m w es.flatten us F1) :
    Hg m w [.row e sz es] [v] (v.ownBlock.toList ++ F1) := by
  have := Hg.row ho hz (fun b hb => ⟨(hm b hb).1, (hm b hb).2, by simp⟩) h .nil (fun i _ h => by cases h)
  simpa using this
theorem flat_ones {α β : Type} (g : α → β) (l : List α) : (l.map fun a => [g a]).flatten = l.map g := by
  induction l <;> simp_all
theorem flat_one {α : Type} (l : List α) : (l.map fun a => [a]).flatten = l := by
  induction l <;> simp_all
/-- A row of boxes is seen as a flat row beside a bag. -/
def splW (σ : St) (k kb : Id) (es : List (List V)) (e : TypeId) (ps : List (Value × T)) : List (Pl × X) := (.r k, .tree (.rw e 1 es)) :: treeW (put σ (.r k) (.tree (.rw e 1 es))) kb (.bag ps)
theorem box_ptrs {m : Mem} {α : Type} {g : α → List T} : ∀ {l : List α} {us : List Value} {F : List Nat}, Hg m w (l.map fun a => T.box (g a)) us F → ∃ bs : List Nat, us = bs.map pw
  | [], us, F, h => by cases h; exact ⟨[], rfl⟩
  | a :: l, [], F, h => by have := h.len; simp at this
  | a :: l, u :: us, F, h => by
    obtain ⟨F1, F2, h1, h2, _⟩ := Hg.uncons (x := .box (g a)) (xs := l.map fun a => T.box (g a)) h
    obtain ⟨bs, rfl⟩ := box_ptrs h2
    obtain ⟨b, _, _, _, rfl, _⟩ := box_inv h1
    exact ⟨b :: bs, rfl⟩
theorem Gm.split (hg : Gm C E σ a w) {k kb : Id} {α : Type} {l : List α} {g : α → List T} {e : TypeId} (h1 : σ (.r k) = .tree (.row e 1 (l.map fun a => [.box (g a)]))) (hk : k ≠ kb ∧ kb.2 ≠ 0) :
    ∃ zs : List (Nat × α), zs.map (·.2) = l ∧ (∀ i z, zs[i]? = some z → slotAt w (E.bv k) i = some (pw z.1)) ∧ ∃ E', Gm C E' (puts σ (splW σ k kb (zs.map fun z => [.sc (pw z.1)]) e (zs.map fun z => (pw z.1, .box (g z.2))))) a w ∧ Mo E σ E' (puts σ (splW σ k kb (zs.map fun z => [.sc (pw z.1)]) e (zs.map fun z => (pw z.1, .box (g z.2))))) := by
  obtain ⟨hr, _⟩ := hg.tr.hg k _ h1
  obtain ⟨us, F1, c1, c2, c3, c4, c5⟩ := row_inv hr
  rw [flat_ones] at c4
  obtain ⟨bs, rfl⟩ := box_ptrs c4
  have hl : bs.length = l.length := by have := c4.len; simpa using this
  have hz2 : (bs.zip l).map (·.2) = l := by rw [← List.unzip_snd, List.unzip_zip hl]
  have hz1 : (bs.zip l).map (·.1) = bs := by rw [← List.unzip_fst, List.unzip_zip hl]
  refine ⟨bs.zip l, hz2, fun i z hz => ?_, ?_⟩
  · have hu : (bs.map pw)[i]? = some (pw z.1) := by rw [← hz1, List.map_map, List.getElem?_map, hz]; rfl
    rcases c1.2 with ⟨q1, q2⟩ | ⟨b, cap, cur, q2, _⟩
    · have : l.length = 0 := by simpa using q2
      have := (List.getElem?_eq_some_iff.1 hu).1
      simp at this
      omega
    · have := c1.cells (g := b) (by rw [q2]; rfl) i (pw z.1) hu
      rw [q2]
      simpa [slotAt, addr_add] using this
  · have hlen : ((bs.zip l).map fun z => [V.sc (pw z.1)]).length = l.length := by simp [hl]
    have hflat : ((bs.zip l).map fun z => [V.sc (pw z.1)]).flatten = (bs.map pw).map V.sc := by
      rw [flat_ones]
      have : (fun z : Nat × α => V.sc (pw z.1)) = (V.sc ∘ pw) ∘ (·.1) := rfl
      rw [this, ← List.map_map, hz1, List.map_map]
    have hrw : Hg E.m w [.rw e 1 ((bs.zip l).map fun z => [.sc (pw z.1)])] [E.bv k] (E.bv k).ownBlock.toList := by
      have := Hg.rw (m := E.m) (w := w) (e := e) (sz := 1) (es := (bs.zip l).map fun z => [V.sc (pw z.1)]) (v := E.bv k) (us := bs.map pw) (by rw [hlen]; simpa using c1) (fun r hr => by
        obtain ⟨z, _, rfl⟩ := List.mem_map.1 hr
        rfl) (by
        rw [hflat]
        exact ⟨by simp, fun i h1 h2 => by simpa using Rd.sc _⟩) (fun b hb => ⟨(c3 b hb).1, by simp⟩) .nil
      simpa using this
    obtain ⟨E1, g1, m1, e1, e2, e3⟩ := hg.retree k _ (.rw e 1 ((bs.zip l).map fun z => [.sc (pw z.1)])) _ h1 (fun ys h => by cases h) (fun y h => by cases h) (fun ys h => by cases h) hrw (fun b hb => .inl ((c5 b).2 (.inl (by simpa using hb))))
    have hbag : Hg E1.m w [.bag ((bs.zip l).map fun z => (pw z.1, .box (g z.2)))] [.bool false] F1 := by
      rw [e1]
      refine bag_mk ?_
      rw [List.map_map, List.map_map]
      have q1 : ((fun p : Value × T => p.2) ∘ fun z : Nat × α => (pw z.1, .box (g z.2))) = (fun a => T.box (g a)) ∘ (·.2) := rfl
      have q2 : ((fun p : Value × T => p.1) ∘ fun z : Nat × α => (pw z.1, .box (g z.2))) = pw ∘ (·.1) := rfl
      rw [q1, q2, ← List.map_map, hz2, ← List.map_map, hz1]
      exact c4
    obtain ⟨E2, g2, m2, _, _, _, _⟩ := g1.gainTree kb _ _ F1 (fun y h => by cases h) hbag (fun b hb => by
      have hin : b ∈ E.bf k := (c5 b).2 (.inr hb)
      refine ⟨hg.tr.dd k _ b h1 hin, fun ⟨t, ht⟩ => ?_⟩
      rcases e3 t b ht with ⟨q3, q4⟩ | ⟨q3, q4⟩
      · exact q3 (hg.ho_inj q4 (t' := .r k) ⟨_, h1, hin⟩)
      · exact (c3 b (by simpa using q4)).2 hb) hk.2
    exact ⟨E2, g2, m1.trans m2⟩
/-- And back. -/
def joiW (k kb : Id) (e : TypeId) (es : List (List T)) : List (Pl × X) := outW kb ++ [(.r k, .tree (.row e 1 es))]
theorem Gm.join (hg : Gm C E σ a w) {k kb : Id} {ps : List (Value × T)} {es : List (List V)} {e : TypeId} (h1 : σ (.r k) = .tree (.rw e 1 es)) (h2 : σ (.r kb) = .tree (.bag ps)) (he : es = ps.map fun p => [.sc p.1]) (hk : k ≠ kb) :
    (∀ i p, ps[i]? = some p → slotAt w (E.bv k) i = some p.1) ∧ ∃ E', Gm C E' (puts σ (joiW k kb e (ps.map fun p => [p.2]))) a w ∧ Mo E σ E' (puts σ (joiW k kb e (ps.map fun p => [p.2]))) ∧ E'.bv = E.bv := by
  subst he
  obtain ⟨hr, _⟩ := hg.tr.hg k _ h1
  obtain ⟨hb, _⟩ := hg.tr.hg kb _ h2
  obtain ⟨F1, c1, c2, c3⟩ := bag_inv hb
  have ⟨us, ho, hr2, hz, hm, hF⟩ : ∃ us, w.ownsRow 0 e 1 (E.bv k) (ps.map fun p => [V.sc p.1]).length us ∧ RdL E.m (ps.map fun p => [V.sc p.1]).flatten us ∧ True ∧ (∀ b, (E.bv k).ownBlock = some b → ∀ i, E.m b i = none) ∧ ∀ b, b ∈ E.bf k ↔ (E.bv k).ownBlock = some b := by
    generalize E.bv k = v at hr
    generalize E.bf k = F at hr ⊢
    cases hr with
    | rw ho hz hr hm hs => cases hs; exact ⟨_, ho, hr, trivial, fun b hb => (hm b hb).1, fun b => by simp⟩
  have hus : us = ps.map (·.1) := by
    rw [flat_ones] at hr2
    refine List.ext_getElem (by rw [hr2.1]; simp) fun i q1 q2 => ?_
    have := hr2.2 i (by simpa using q2) q1
    simp only [List.getElem_map] at this ⊢
    exact Rd.sc_eq this
  subst hus
  have hd : ∀ b, (E.bv k).ownBlock = some b → b ∉ F1 := fun b q1 q2 => hk (hg.tr.tt k kb _ _ b h1 h2 ((hF b).2 q1) ((c3 b).2 q2))
  refine ⟨fun i p hp => ?_, ?_⟩
  · have hu : (ps.map (·.1))[i]? = some p.1 := by rw [List.getElem?_map, hp]; rfl
    rcases ho.2 with ⟨q1, q2⟩ | ⟨b, cap, cur, q2, _⟩
    · have : ps.length = 0 := by simpa using q2
      have := (List.getElem?_eq_some_iff.1 hp).1
      omega
    · have := ho.cells (g := b) (by rw [q2]; rfl) i p.1 hu
      rw [q2]
      simpa [slotAt, addr_add] using this
  · obtain ⟨g1, m1, l1⟩ := hg.let_go kb
    have h1' : puts σ (outW kb) (.r k) = .tree (.rw e 1 (ps.map fun p => [.sc p.1])) := by simp [outW, puts, put, hk, h1]
    have hrow : Hg E.m w [.row e 1 (ps.map fun p => [p.2])] [E.bv k] ((E.bv k).ownBlock.toList ++ F1) := row_mk (us := ps.map (·.1)) (by simpa using ho) (fun r hr => by
      obtain ⟨z, _, rfl⟩ := List.mem_map.1 hr
      rfl) (fun b hb => ⟨hm b hb, hd b hb⟩) (by rw [flat_ones]; exact c2)
    obtain ⟨E1, g2, m2, e1, e2, e3⟩ := g1.retree k _ _ _ h1' (fun ys h => by cases h) (fun y h => by cases h) (fun ys h => by cases h) hrow (fun b hb => by
      rcases List.mem_append.1 hb with h | h
      · exact .inl ((hF b).2 (by simpa using h))
      · refine .inr ⟨hg.tr.dd kb _ b h2 ((c3 b).2 h), fun ⟨t, ht⟩ => ?_⟩
        obtain ⟨q1, q2⟩ := l1 t b ht
        exact q2 (hg.ho_inj q1 (t' := .r kb) ⟨_, h2, (c3 b).2 h⟩))
    exact ⟨E1, by unfold joiW; rw [puts_append]; exact g2, by unfold joiW; rw [puts_append]; exact m1.trans m2, e2⟩
end
/-- Slots that hold a value, whose numbers are good. -/
def slotsHold (σ : St) (x : AV) : List Nat → Prop
  | [] => True
  | t :: ts => σ (.s t) = .av x ∧ slotsHold σ x ts
attribute [go_sem] slotsW opnW clsW splW joiW slotsAre slotsHold
section
variable {P : Program} {C : Ctx} {σ : St} {Q : Exit → St → Prop}
theorem all_lt {n : Nat} {ts : List Nat} (h : (ts.all fun t => decide (t < n)) = true) : ∀ t ∈ ts, t < n := fun t ht => by simpa using List.all_eq_true.1 h t ht
theorem slotsHold_are {x : AV} {n : Nat} : ∀ {ts : List Nat}, slotsHold σ x ts → (∀ t ∈ ts, t < n) → slotsAre σ x n ts
  | [], _, _ => trivial
  | t :: ts, h, hn => ⟨⟨h.1, hn t (List.mem_cons_self ..)⟩, slotsHold_are h.2 fun u hu => hn u (List.mem_cons_of_mem _ hu)⟩
/-- A box of a bag becomes an object; loads of its pointer are told in the slots qs; the slots ts hold it now. -/
theorem opn_s {c : Code} {n : Nat} (hC : C.nt = n) (k : Id) (d i : Nat) (qs ts : List Nat) (u : Value) (ps ps' : List (Value × T)) (ys : List T) (hi : ps[i]? = some (u, .box ys)) (hu : ps.set i (u, .av .any) = ps')
    (hn : ((d :: (qs ++ ts)).all fun t => decide (t < n)) = true ∧ (qs.all fun t => !ts.contains t) = true)
    (h : (σ (.r k) = .tree (.bag ps) ∧ slotsHold σ (.val (.sc u)) ts) ∧ AW P C c (puts σ (opnW σ k (d, 0) ps' ys u qs ts)) Q) : AW P C c σ Q := by
  subst hu hC
  obtain ⟨⟨h1, h5⟩, hk⟩ := h
  have hall := all_lt hn.1
  have hd : ∀ t ∈ qs, t ∉ ts := fun t ht h => by
    have := List.all_eq_true.1 hn.2 t ht
    simp [h] at this
  intro E a w hg
  obtain ⟨E', g⟩ := hg.open (o := (d, 0)) hi h1 ⟨rfl, C.np d (hall d (List.mem_cons_self ..))⟩ (fun t ht => hall t (by simp [ht])) hd (slotsHold_are h5 fun t ht => hall t (by simp [ht]))
  exact hk E' a w g
/-- An object goes back into its place in the bag. -/
theorem cls_s {c : Code} {n : Nat} (hC : C.nt = n) (k o : Id) (i t0 : Nat) (ts : List Nat) (u : Value) (ps ps' : List (Value × T)) (y : V) (ys : List T) (hi : ps[i]? = some (u, .av y)) (hu : ps.set i (u, .box ys) = ps') (hn : (ts.all fun t => decide (t < n)) = true)
    (h : (σ (.r k) = .tree (.bag ps) ∧ σ (.s t0) = .av (.pv u o (gg σ o)) ∧ mObjs σ [o] [o] [ys.map toCA] ∧ (tokObjs σ [o] [ys.map toCA]).Nodup ∧ Ho.r k ∉ tokObjs σ [o] [ys.map toCA] ∧ slotsHold σ (.ptr o (gg σ o) 0) ts) ∧ AW P C c (puts σ (clsW σ k o ps' ys u ts)) Q) : AW P C c σ Q := by
  subst hu hC
  obtain ⟨⟨h1, h2, h3, h4, h5, h6⟩, hk⟩ := h
  intro E a w hg
  obtain ⟨E', g⟩ := hg.close hi h1 h2 h3 h4 h5 (slotsHold_are h6 (all_lt hn))
  exact hk E' a w g
/-- An object goes into a bag as a new place. -/
theorem ins_s {c : Code} {n : Nat} (hC : C.nt = n) (k o : Id) (i : Nat) (ts : List Nat) (ps : List (Value × T)) (ys : List T) (hi : i ≤ ps.length) (hn : (ts.all fun t => decide (t < n)) = true)
    (h : σ (.r k) = .tree (.bag ps) ∧ mObjs σ [o] [o] [ys.map toCA] ∧ (tokObjs σ [o] [ys.map toCA]).Nodup ∧ Ho.r k ∉ tokObjs σ [o] [ys.map toCA] ∧ slotsHold σ (.ptr o (gg σ o) 0) ts)
    (hk : ∀ b, AW P C c (puts σ (clsW σ k o (ps.insertIdx i (pw b, .box ys)) ys (pw b) ts)) Q) : AW P C c σ Q := by
  subst hC
  obtain ⟨h1, h3, h4, h5, h6⟩ := h
  intro E a w hg
  obtain ⟨u, E', g⟩ := hg.bagIn hi h1 h3 h4 h5 (slotsHold_are h6 (all_lt hn))
  exact hk u E' a w g
/-- A bag's place is forgotten. -/
theorem ers_s {c : Code} (k : Id) (i : Nat) (ps ps' : List (Value × T)) (hu : ps.eraseIdx i = ps') (h : σ (.r k) = .tree (.bag ps) ∧ AW P C c (puts σ [(.r k, .tree (.bag ps'))]) Q) : AW P C c σ Q := by
  subst hu
  intro E a w hg
  obtain ⟨E', g⟩ := hg.bagOut i h.1
  exact h.2 E' a w g
/-- A row of boxes is a flat row and a bag. -/
theorem spl_s {c : Code} {α : Type} (k kb : Id) (l : List α) (g : α → List T) (e : TypeId) (h : σ (.r k) = .tree (.row e 1 (l.map fun a => [.box (g a)])) ∧ k ≠ kb ∧ kb.2 ≠ 0)
    (hk : ∀ zs : List (Nat × α), zs.map (·.2) = l → AW P C c (puts σ (splW σ k kb (zs.map fun z => [.sc (pw z.1)]) e (zs.map fun z => (pw z.1, .box (g z.2))))) Q) : AW P C c σ Q := by
  intro E a w hg
  obtain ⟨zs, h1, _, E', g', _⟩ := hg.split h.1 h.2
  exact hk zs h1 E' a w g'
/-- And back. -/
theorem joi_s {c : Code} (k kb : Id) (e : TypeId) (ps : List (Value × T)) (es : List (List V)) (es' : List (List T)) (he : es = ps.map fun p => [.sc p.1]) (he' : (ps.map fun p => [p.2]) = es')
    (h : (σ (.r k) = .tree (.rw e 1 es) ∧ σ (.r kb) = .tree (.bag ps) ∧ k ≠ kb) ∧ AW P C c (puts σ (joiW k kb e es')) Q) : AW P C c σ Q := by
  subst he'
  obtain ⟨⟨h1, h2, h3⟩, hk⟩ := h
  intro E a w hg
  obtain ⟨_, E', g', _⟩ := hg.join h1 h2 he h3
  exact hk E' a w g'
/-- Back, with one place lent to its object. -/
theorem joL_s {c : Code} (k kb o : Id) (i t0 : Nat) (u : Value) (x : T) (e : TypeId) (ps : List (Value × T)) (es : List (List V)) (es' : List (List T)) (hi : ps[i]? = some (u, x)) (he : es = ps.map fun p => [.sc p.1]) (he' : (ps.map fun p => [p.2]) = es')
    (h : (σ (.r k) = .tree (.rw e 1 es) ∧ σ (.r kb) = .tree (.bag ps) ∧ k ≠ kb ∧ σ (.s t0) = .av (.pv u o (gg σ o))) ∧ AW P C c (puts σ (joiW k kb e es' ++ [(.l k, .lent i (.ptr o (gg σ o) 0))])) Q) : AW P C c σ Q := by
  subst he'
  obtain ⟨⟨h1, h2, h3, h4⟩, hk⟩ := h
  intro E a w hg
  have hu : u = .pointer (some ⟨E.loc o, 0, none⟩) := (hg.sl t0 _ h4).2 rfl
  obtain ⟨q, E', g', m', e'⟩ := hg.join h1 h2 he h3
  have hkr : puts σ (joiW k kb e (ps.map fun p => [p.2])) (.r k) = .tree (.row e 1 (ps.map fun p => [p.2])) := by
    unfold joiW; rw [puts_append]; exact put_same _ _ _
  have hpt : RdA E σ (.ptr o (gg σ o) 0) u := ⟨Nat.le_refl _, fun _ => hu⟩
  obtain ⟨g2, _⟩ := g'.lend k _ hkr i (.ptr o (gg σ o) 0) ⟨u, by rw [e']; exact q i _ hi, hpt.mo m'⟩
  exact hk E' a w (by rw [puts_append]; exact g2)
/-- A row's place that was lent to an object gets it back. -/
theorem gvL_s {c : Code} (k o : Id) (i : Nat) (e : TypeId) (xs : List T) (es es' : List (List T)) (y : V) (ys : List T) (hi : xs[i]? = some (.av y)) (he : es = xs.map fun x => [x]) (hu : ((xs.set i (.box ys)).map fun x => [x]) = es')
    (h : (σ (.r k) = .tree (.row e 1 es) ∧ σ (.l k) = .lent i (.ptr o (gg σ o) 0) ∧ mObjs σ [o] [o] [ys.map toCA] ∧ (tokObjs σ [o] [ys.map toCA]).Nodup ∧ Ho.r k ∉ tokObjs σ [o] [ys.map toCA]) ∧
      AW P C c (puts σ (dropW σ (tokObjs σ [o] [ys.map toCA]) ++ (outW k ++ [(.r k, .tree (.row e 1 es'))]))) Q) : AW P C c σ Q := by
  subst he hu
  obtain ⟨⟨h1, h2, h3, h4, h5⟩, hk⟩ := h
  intro E a w hg
  obtain ⟨v, r1, r2⟩ := hg.tr.le k _ i _ h1 h2
  have hv : v = .pointer (some ⟨E.loc o, 0, none⟩) := r2.2 rfl
  obtain ⟨G, b1, b2, g1, b4⟩ := hg.boxed h3 h4
  generalize tokObjs σ [o] [ys.map toCA] = toks at *
  have h1' : puts σ (dropW σ toks) (.r k) = .tree (.row e 1 (xs.map fun x => [x])) := (dropW_r h5).trans h1
  obtain ⟨hr, _⟩ := g1.tr.hg k _ h1'
  obtain ⟨us, F1, c1, c2, c3, c4, c5⟩ := row_inv hr
  rw [flat_one] at c4
  have hl : us.length = xs.length := c4.len
  have hlt := (List.getElem?_eq_some_iff.1 hi).1
  have hui : us[i]? = some v := by
    have hx : us[i]? = some (us[i]'(by omega)) := List.getElem?_eq_getElem (by omega)
    rcases c1.2 with ⟨q1, q2⟩ | ⟨b, cap, cur, q2, _⟩
    · have : xs.length = 0 := by simpa using q2
      omega
    · have := c1.cells (g := b) (by rw [q2]; rfl) i _ hx
      rw [q2] at r1
      have r1 : w.cell? ⟨b, i, none⟩ = some v := by simpa [slotAt] using r1
      rw [addr_add, Nat.zero_add] at this
      rw [hx, ← this, r1]
  obtain ⟨F', q1, q2⟩ := c4.give_any (j := i) (x := .box ys) (y := y) (v := v) (G := G) hi hui (by rw [hv]; exact b1) (fun b hG hF => by
    obtain ⟨t, r1, r2⟩ := b2 b hG
    obtain ⟨s1, s2⟩ := b4 (.r k) b ⟨_, h1', (c5 b).2 (.inr hF)⟩
    exact h5 (hg.ho_inj r2 s1 ▸ r1))
  have hG : ∀ b ∈ G, ∀ t, ¬ HoB E (puts σ (dropW σ toks)) t b := fun b hG t ht => by
    obtain ⟨t', r1, r2⟩ := b2 b hG
    obtain ⟨s1, s2⟩ := b4 t b ht
    exact s2 (hg.ho_inj r2 s1 ▸ r1)
  have hrow : Hg E.m w [.row e 1 ((xs.set i (.box ys)).map fun x => [x])] [E.bv k] ((E.bv k).ownBlock.toList ++ F') := row_mk (us := us) (by simpa using c1) (fun r hr => by
      obtain ⟨z, _, rfl⟩ := List.mem_map.1 hr
      rfl) (fun b hb => ⟨(c3 b hb).1, fun hF => by
        rcases (q2 b).1 hF with h | h
        · exact hG b h (.r k) ⟨_, h1', (c5 b).2 (.inl hb)⟩
        · exact (c3 b hb).2 h⟩) (by rw [flat_one]; exact q1)
  obtain ⟨E1, g2, _⟩ := g1.retree k _ _ _ h1' (fun ys h => by cases h) (fun y h => by cases h) (fun ys h => by cases h) hrow (fun b hb => by
    rcases List.mem_append.1 hb with h | h
    · exact .inl ((c5 b).2 (.inl (by simpa using h)))
    · rcases (q2 b).1 h with h | h
      · obtain ⟨t, r1, r2⟩ := b2 b h
        exact .inr ⟨(hg.ho_dd r2).2, fun ⟨t', ht'⟩ => hG b h t' ht'⟩
      · exact .inl ((c5 b).2 (.inr h)))
  have q : ∀ (σ0 : St) (l : Pl), puts σ0 (outW k ++ [(.r k, .tree (.row e 1 ((xs.set i (.box ys)).map fun x => [x])))]) l = if l = .r k then .tree (.row e 1 ((xs.set i (.box ys)).map fun x => [x])) else if l = .l k then .non else σ0 l := fun σ0 l => by
    show put (put (put σ0 (.l k) _) (.r k) _) (.r k) _ l = _
    unfold put
    by_cases e1 : l = .r k
    · simp [e1]
    · simp [e1]
  refine hk E1 a w ?_
  rw [puts_append]
  refine (g2.drop _ (fun t => ?_) (fun o i => ?_) (fun o => ?_) (fun o n h => ?_) (fun k e sz T h => ?_) (fun k => .inl ?_) (fun k' x h => ?_) (fun k' i y h => ?_) (fun k => ?_) (fun o k g s h => ?_)).1
  all_goals first | (rw [q, put_ne _ _ (by simp)]; simp; done) | skip
  · rw [q] at h; rw [put_ne _ _ (by simp)]; simpa using h
  · rw [q] at h; rw [put_ne _ _ (by simp)]; simpa using h
  · rw [q] at h
    by_cases e1 : k' = k
    · subst e1; rw [put_same]; simpa using h
    · rw [put_ne _ _ (by simpa using e1)]; simpa [e1] using h
  · rw [q] at h
    rw [put_ne _ _ (by simp)]
    by_cases e1 : k' = k
    · subst e1; simp at h
    · simpa [e1] using h
  · rw [q] at h; rw [put_ne _ _ (by simp)]; simpa using h
end
end Go.Proofs.YtkclmofjlmeolaaGreatDoor

