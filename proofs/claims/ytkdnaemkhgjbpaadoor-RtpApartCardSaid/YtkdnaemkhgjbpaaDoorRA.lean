
/- The step of a call. -/
import Derived.Test.YtkdnaemkhgjbpaaDoorR9
namespace Go.Proofs.YtkdnaemkhgjbpaaDoor
open Go.RowKit
set_option linter.unusedVariables false
set_option linter.unusedSimpArgs false

section
variable {P : Program} {ops : Array Oper} {C : Ctx} {E : Env} {σ : St} {a : Act} {w : World}
theorem cellAVs_length (σ : St) (o : Id) : ∀ (n i : Nat), (cellAVs σ o i n).length = n
  | 0, _ => rfl
  | n + 1, i => by simp [cellAVs, cellAVs_length σ o n (i + 1)]
theorem cellAVs_get (σ : St) (o : Id) : ∀ (n i j : Nat), j < n → (cellAVs σ o i n)[j]? = some (cellAV σ o (i + j))
  | n + 1, i, 0, h => rfl
  | n + 1, i, j + 1, h => by
    show (cellAVs σ o (i + 1) n)[j]? = _
    rw [cellAVs_get σ o n (i + 1) j (by omega), show i + (j + 1) = i + 1 + j by omega]
theorem mobjs_ok (hg : Gm C E σ a w) {ids : List Id} {objs : List (List CA)} {ts : List Id} (h : MObjs σ ids objs ts) : ts.Nodup → ∃ cvs : List (List Value), objs.length = ids.length ∧ cvs.length = ids.length ∧
    (∀ (i : Nat) (o : Id) (cs : List CA) (vs : List Value), ids[i]? = some o → objs[i]? = some cs → cvs[i]? = some vs → σ (.o o) = .num cs.length ∧ vs.length = cs.length ∧ (∃ ty, w.heap[E.loc o]? = some (.cells vs.toArray ty (0, 0))) ∧
      ∀ (j : Nat) (c : CA) (v : Value), cs[j]? = some c → vs[j]? = some v → CAok E.m w c v) ∧
    (∀ (i : Nat) (cs : List CA) (vs : List Value) (j : Nat) (c : CA) (v : Value) (b : Nat), objs[i]? = some cs → cvs[i]? = some vs → cs[j]? = some c → vs[j]? = some v → ownB c v = some b → HasRow E σ ts b) ∧
    (∀ (i i' : Nat) (cs cs' : List CA) (vs vs' : List Value) (j j' : Nat) (c c' : CA) (v v' : Value) (b : Nat), objs[i]? = some cs → cvs[i]? = some vs → cs[j]? = some c → vs[j]? = some v → ownB c v = some b →
      objs[i']? = some cs' → cvs[i']? = some vs' → cs'[j']? = some c' → vs'[j']? = some v' → ownB c' v' = some b → i = i' ∧ j = j') := by
  induction h with
  | nil => intro _; exact ⟨[], rfl, rfl, fun i o cs vs h => by simp at h, fun i cs vs j c v b h => by simp at h, fun i i' cs cs' vs vs' j j' c c' v v' b h => by simp at h⟩
  | @cons o ids cs objs ts ts' ho hc _ ih =>
    intro hn
    obtain ⟨hn1, hn2, hn3⟩ := List.nodup_append.1 hn
    obtain ⟨cvs, i1, i2, i3, i4, i5⟩ := ih hn2
    obtain ⟨⟨ca, ty, hb, hsz⟩, _⟩ := hg.ob o _ ho
    have hvl : ca.toList.length = (cellAVs σ o 0 cs.length).length := by rw [cellAVs_length]; simpa using hsz
    obtain ⟨m1, m2, _, m4, m5⟩ := margs_ok hg (mcells_args hc) ca.toList hvl (fun j x v q1 q2 => by
      have hj : j < cs.length := by have := (List.getElem?_eq_some_iff.1 q1).1; rwa [cellAVs_length] at this
      rw [cellAVs_get _ _ _ _ _ hj, Nat.zero_add] at q1
      cases q1
      obtain ⟨u, hu, hr⟩ := cellAV_ok hg ho hj
      rw [cell_of_row _ _ _ _ _ _ hb] at hu
      have : v = u := by
        have e : ca.toList[j]? = ca[j]? := by rw [Array.getElem?_toList]
        rw [e, hu] at q2; exact (Option.some.inj q2).symm
      subst this
      exact hr) hn1
    have hmap : ∀ (j : Nat) (c : CA), cs[j]? = some c → (cs.map Arg.ca)[j]? = some (.ca c) := fun j c q => by simp [q]
    have hno : ∀ (i : Nat) (cs1 : List CA) (vs1 : List Value) (j : Nat) (c : CA) (v : Value) (b : Nat), objs[i]? = some cs1 → cvs[i]? = some vs1 → cs1[j]? = some c → vs1[j]? = some v → ownB c v = some b →
        ∀ (j0 : Nat) (c0 : CA) (v0 : Value), cs[j0]? = some c0 → ca.toList[j0]? = some v0 → ownB c0 v0 = some b → False := fun i cs1 vs1 j c v b q1 q2 q3 q4 q5 j0 c0 v0 r1 r2 r3 => by
      obtain ⟨k, hk1, e1, s1, T1, hk2, hk3⟩ := i4 i cs1 vs1 j c v b q1 q2 q3 q4 q5
      obtain ⟨k', hk1', e1', s1', T1', hk2', hk3'⟩ := m4 j0 c0 v0 b (hmap _ _ r1) r2 r3
      have := hg.rr k k' _ _ _ _ _ _ b hk2 hk2' hk3 hk3'
      subst this
      exact hn3 _ hk1' _ hk1 rfl
    refine ⟨ca.toList :: cvs, by simp [i1], by simp [i2], fun i o' cs' vs q1 q2 q3 => ?_, fun i cs' vs j c v b q1 q2 q3 q4 q5 => ?_, fun i i' cs1 cs' vs1 vs' j j' c c' v v' b q1 q2 q3 q4 q5 r1 r2 r3 r4 r5 => ?_⟩
    · cases i with
      | zero =>
        simp at q1 q2 q3
        subst q1; subst q2; subst q3
        exact ⟨ho, by simpa using hsz, ⟨ty, by simpa using hb⟩, fun j c v p1 p2 => m2 j c v (hmap _ _ p1) p2⟩
      | succ i => exact i3 i o' cs' vs (by simpa using q1) (by simpa using q2) (by simpa using q3)
    · cases i with
      | zero =>
        simp at q1 q2
        subst q1; subst q2
        obtain ⟨k, hk1, hk2⟩ := m4 j c v b (hmap _ _ q3) q4 q5
        exact ⟨k, List.mem_append_left _ hk1, hk2⟩
      | succ i =>
        obtain ⟨k, hk1, hk2⟩ := i4 i cs' vs j c v b (by simpa using q1) (by simpa using q2) q3 q4 q5
        exact ⟨k, List.mem_append_right _ hk1, hk2⟩
    · cases i with
      | zero =>
        simp at q1 q2
        subst q1; subst q2
        cases i' with
        | zero =>
          simp at r1 r2
          subst r1; subst r2
          exact ⟨rfl, m5 j j' c c' v v' b (hmap _ _ q3) q4 q5 (hmap _ _ r3) r4 r5⟩
        | succ i' => exact (hno i' cs' vs' j' c' v' b (by simpa using r1) (by simpa using r2) r3 r4 r5 j c v q3 q4 q5).elim
      | succ i =>
        cases i' with
        | zero =>
          simp at r1 r2
          subst r1; subst r2
          exact (hno i cs1 vs1 j c v b (by simpa using q1) (by simpa using q2) q3 q4 q5 j' c' v' r3 r4 r5).elim
        | succ i' =>
          obtain ⟨h1, h2⟩ := i5 i i' cs1 cs' vs1 vs' j j' c c' v v' b (by simpa using q1) (by simpa using q2) q3 q4 q5 (by simpa using r1) (by simpa using r2) r3 r4 r5
          exact ⟨by omega, h2⟩

/-! ### The same, in a state that is alike -/
theorem MArgs.congr {σ' : St} {ids : List Id} {xs : List AV} {args : List Arg} {ts : List Id} (h : MArgs σ ids xs args ts) : (∀ k ∈ ts, σ' (.q k) = σ (.q k) ∧ σ' (.k k) = σ (.k k)) → (∀ o ∈ ids, σ' (.g o) = σ (.g o)) → MArgs σ' ids xs args ts := by
  induction h with
  | nil => intro _ _; exact .nil
  | val h _ ih => intro h1 h2; exact .val h (ih h1 h2)
  | own hq hk _ ih => intro h1 h2; exact .own (by rw [gq_of (h1 _ (by simp)).1]; exact hq) (by rw [(h1 _ (by simp)).2]; exact hk) (ih (fun k hk => h1 k (List.mem_cons_of_mem _ hk)) h2)
  | nown _ ih => intro h1 h2; exact .nown (ih h1 h2)
  | ptr hi hg _ ih => intro h1 h2; exact .ptr hi (by rw [gg_of (h2 _ (List.mem_of_getElem? hi))]; exact hg) (ih h1 h2)
theorem MCells.congr {σ' : St} {xs : List AV} {cs : List CA} {ts : List Id} (h : MCells σ xs cs ts) : (∀ k ∈ ts, σ' (.q k) = σ (.q k) ∧ σ' (.k k) = σ (.k k)) → MCells σ' xs cs ts := by
  induction h with
  | nil => intro _; exact .nil
  | val h _ ih => intro h1; exact .val h (ih h1)
  | own hq hk _ ih => intro h1; exact .own (by rw [gq_of (h1 _ (by simp)).1]; exact hq) (by rw [(h1 _ (by simp)).2]; exact hk) (ih (fun k hk => h1 k (List.mem_cons_of_mem _ hk)))
  | nown _ ih => intro h1; exact .nown (ih h1)
theorem cellAVs_congr {σ' : St} {o : Id} : ∀ {n i : Nat}, (∀ l ∈ cellsL o i n, σ' l = σ l) → cellAVs σ' o i n = cellAVs σ o i n
  | 0, _, _ => rfl
  | n + 1, i, h => by
    simp only [cellAVs]
    rw [cellAV_congr (h _ (by simp [cellsL])), cellAVs_congr fun l hl => h l (by simp [cellsL, hl])]
def objsL : List Id → List (List CA) → List Pl
  | o :: ids, cs :: objs => .g o :: .o o :: (cellsL o 0 cs.length ++ objsL ids objs)
  | _, _ => []
theorem MObjs.congr {σ' : St} {ids : List Id} {objs : List (List CA)} {ts : List Id} (h : MObjs σ ids objs ts) : (∀ k ∈ ts, σ' (.q k) = σ (.q k) ∧ σ' (.k k) = σ (.k k)) → (∀ l ∈ objsL ids objs, σ' l = σ l) → MObjs σ' ids objs ts := by
  induction h with
  | nil => intro _ _; exact .nil
  | cons ho hc _ ih =>
    intro h1 h2
    refine .cons (by rw [h2 _ (by simp [objsL])]; exact ho) ?_ (ih (fun k hk => h1 k (List.mem_append_right _ hk)) (fun l hl => h2 l (by simp [objsL, hl])))
    rw [cellAVs_congr fun l hl => h2 l (by simp [objsL, hl])]
    exact hc.congr fun k hk => h1 k (List.mem_append_left _ hk)
theorem agree_puts {σ σ' : St} {W : List (Pl × X)} {l : Pl} (h : σ' l = σ l) : puts σ' W l = puts σ W l := puts_at _ _ _ _ (.inr h)
theorem gains_congr (o : Id) : ∀ (cs : List CA) (σ σ' : St) (j : Nat), (∀ i, i < cs.length → σ' (.q (o.1, j + i + 1)) = σ (.q (o.1, j + i + 1))) → gains σ' o j cs = gains σ o j cs
  | [], _, _, _, _ => rfl
  | .val x :: cs, σ, σ', j, h => by
    simp only [gains]
    rw [gains_congr o cs σ σ' (j + 1) fun i hi => by have := h (i + 1) (by simpa using hi); rwa [show j + (i + 1) + 1 = j + 1 + i + 1 by omega] at this]
  | .own e sz es :: cs, σ, σ', j, h => by
    have h0 : gq σ' (o.1, j + 1) = gq σ (o.1, j + 1) := gq_of (by simpa using h 0 (by simp))
    simp only [gains, h0]
    rw [gains_congr o cs (puts σ [(Pl.q (o.1, j + 1), X.num (gq σ (o.1, j + 1) + 1)), (Pl.k (o.1, j + 1), X.row e sz es.length)]) (puts σ' [(Pl.q (o.1, j + 1), X.num (gq σ (o.1, j + 1) + 1)), (Pl.k (o.1, j + 1), X.row e sz es.length)]) (j + 1)
      fun i hi => agree_puts (by have := h (i + 1) (by simpa using hi); rwa [show j + (i + 1) + 1 = j + 1 + i + 1 by omega] at this)]
def keysL (o : Id) : Nat → List Pl
  | 0 => []
  | n + 1 => .q (o.1, n + 1) :: keysL o n
theorem keysL_mem (o : Id) : ∀ (n i : Nat), i < n → Pl.q (o.1, i + 1) ∈ keysL o n
  | n + 1, i, h => by
    by_cases e : i = n
    · subst e; simp [keysL]
    · simp [keysL, keysL_mem o n i (by omega)]
theorem objGain_congr {σ' : St} {o : Id} {G : Nat} {cs : List CA} (h : ∀ l ∈ keysL o cs.length, σ' l = σ l) : objGain σ' o G cs = objGain σ o G cs := by
  unfold objGain
  rw [gains_congr o cs σ σ' 0 fun i hi => by rw [Nat.zero_add]; exact h _ (keysL_mem o _ i hi)]
def objsK : List Id → List (List CA) → List Pl
  | o :: ids, cs :: objs => .g o :: (keysL o cs.length ++ objsK ids objs)
  | _, _ => []
theorem objsW_congr : ∀ (ids : List Id) (objs : List (List CA)) (σ σ' : St), (∀ l ∈ objsK ids objs, σ' l = σ l) → objsW σ' ids objs = objsW σ ids objs
  | o :: ids, cs :: objs, σ, σ', h => by
    have h1 : objGain σ' o (gg σ' o) cs = objGain σ o (gg σ o) cs := by
      rw [gg_of (h (.g o) (by simp [objsK]))]
      exact objGain_congr fun l hl => h l (by simp [objsK, hl])
    simp only [objsW, h1]
    rw [objsW_congr ids objs (puts σ (objGain σ o (gg σ o) cs)) (puts σ' (objGain σ o (gg σ o) cs)) fun l hl => agree_puts (h l (by simp [objsK, hl]))]
  | [], [], _, _, _ => rfl
  | [], _ :: _, _, _, _ => rfl
  | _ :: _, [], _, _, _ => rfl
theorem dropW_congr {σ' : St} {ts ids : List Id} (h : ∀ k ∈ ts, σ' (.q k) = σ (.q k)) : dropW σ' ts ids = dropW σ ts ids := by
  unfold dropW
  congr 1
  induction ts with
  | nil => rfl
  | cons k ts ih =>
    rw [List.flatMap_cons, List.flatMap_cons, gq_of (h k (by simp)), ih fun k hk => h k (List.mem_cons_of_mem _ hk)]

/-! ### What a call writes -/
def freshW (σ : St) (d : Tmp) : List (List CA) → List (Pl × X)
  | [] => []
  | cs :: _ => objGain σ (d, 0) (gg σ (d, 0) + 1) cs
def resRow (σ : St) (d : Tmp) : Arg → List (Pl × X)
  | .ca (.own e sz es) => [(.q (d, 0), .num (gq σ (d, 0) + 1)), (.k (d, 0), .row e sz es.length)]
  | _ => []
def resAV (σ : St) (σ3 : St) (d : Tmp) (ids : List Id) : Arg → AV
  | .ca (.val y) => .val y
  | .ca (.own e sz es) => .own (d, 0) (gq σ3 (d, 0) + 1) e sz es
  | .ptr i off => match ids[i]? with | some o => .ptr o (gg σ o) off | none => .ptr (d, 0) (gg σ (d, 0) + 1) off
def callW (σ : St) (d : Tmp) (ids ts : List Id) (objs' : List (List CA)) (res : Arg) : List (Pl × X) :=
  (dropW σ ts ids ++ (objsW (puts σ (dropW σ ts ids)) ids objs' ++ (freshW (puts (puts σ (dropW σ ts ids)) (objsW (puts σ (dropW σ ts ids)) ids objs')) d (objs'.drop ids.length) ++
    resRow (puts (puts (puts σ (dropW σ ts ids)) (objsW (puts σ (dropW σ ts ids)) ids objs')) (freshW (puts (puts σ (dropW σ ts ids)) (objsW (puts σ (dropW σ ts ids)) ids objs')) d (objs'.drop ids.length))) d res))) ++
  [(.s d, .av (resAV (puts (puts σ (dropW σ ts ids)) (objsW (puts σ (dropW σ ts ids)) ids objs')) (puts (puts (puts σ (dropW σ ts ids)) (objsW (puts σ (dropW σ ts ids)) ids objs')) (freshW (puts (puts σ (dropW σ ts ids)) (objsW (puts σ (dropW σ ts ids)) ids objs')) d (objs'.drop ids.length))) d ids res))]
def opndsL : List Operand → List Pl
  | [] => []
  | x :: xs => rdl x ++ opndsL xs
def toksL : List Id → List Pl
  | [] => []
  | k :: ts => .q k :: .k k :: toksL ts
def freshK (d : Tmp) : List (List CA) → List Pl
  | [] => []
  | cs :: _ => keysL (d, 0) cs.length
def callL (d : Tmp) (xs : List Operand) (ids ts : List Id) (objs objs' : List (List CA)) : List Pl :=
  opndsL xs ++ (toksL ts ++ (objsL ids objs ++ (objsK ids objs' ++ (freshK d (objs'.drop ids.length) ++ [.g (d, 0), .q (d, 0)]))))
theorem toksL_mem : ∀ {ts : List Id} {k : Id}, k ∈ ts → Pl.q k ∈ toksL ts ∧ Pl.k k ∈ toksL ts
  | k' :: ts, k, h => by
    rcases List.mem_cons.1 h with rfl | h
    · simp [toksL]
    · have := toksL_mem h; simp [toksL, this]
theorem objsL_mem : ∀ {ids : List Id} {objs : List (List CA)} {o : Id}, ids.length ≤ objs.length → o ∈ ids → Pl.g o ∈ objsL ids objs
  | o' :: ids, cs :: objs, o, hl, h => by
    rcases List.mem_cons.1 h with rfl | h
    · simp [objsL]
    · have := objsL_mem (ids := ids) (objs := objs) (by simpa using hl) h; simp [objsL, this]
  | [], _, o, _, h => by cases h
  | o' :: ids, [], o, hl, _ => by simp at hl
theorem objsK_mem : ∀ {ids : List Id} {objs : List (List CA)} {o : Id}, ids.length ≤ objs.length → o ∈ ids → Pl.g o ∈ objsK ids objs
  | o' :: ids, cs :: objs, o, hl, h => by
    rcases List.mem_cons.1 h with rfl | h
    · simp [objsK]
    · have := objsK_mem (ids := ids) (objs := objs) (by simpa using hl) h; simp [objsK, this]
  | [], _, o, _, h => by cases h
  | o' :: ids, [], o, hl, _ => by simp at hl
theorem freshW_congr {σ' : St} {d : Tmp} {l : List (List CA)} (h : ∀ x ∈ freshK d l, σ' x = σ x) (hg : σ' (.g (d, 0)) = σ (.g (d, 0))) : freshW σ' d l = freshW σ d l := by
  cases l with
  | nil => rfl
  | cons cs l => simp only [freshW, gg_of hg]; exact objGain_congr h
theorem callW_congr {σ' : St} {d : Tmp} {xs : List Operand} {ids ts : List Id} {objs objs' : List (List CA)} {res : Arg} (hl : ids.length ≤ objs'.length) (h : ∀ l ∈ callL d xs ids ts objs objs', σ' l = σ l) : callW σ' d ids ts objs' res = callW σ d ids ts objs' res := by
  obtain ⟨_, h⟩ := mem_l h
  obtain ⟨h1, h⟩ := mem_l h
  obtain ⟨h2, h⟩ := mem_l h
  obtain ⟨h3, h⟩ := mem_l h
  obtain ⟨h4, h5⟩ := mem_l h
  have e1 : dropW σ' ts ids = dropW σ ts ids := dropW_congr fun k hk => h1 _ (toksL_mem hk).1
  have e2 : objsW (puts σ' (dropW σ ts ids)) ids objs' = objsW (puts σ (dropW σ ts ids)) ids objs' := objsW_congr _ _ _ _ fun l hl => agree_puts (h3 l hl)
  have hagree : ∀ (W1 W2 : List (Pl × X)) (l : Pl), σ' l = σ l → puts (puts σ' W1) W2 l = puts (puts σ W1) W2 l := fun W1 W2 l h => agree_puts (agree_puts h)
  have e3 : freshW (puts (puts σ' (dropW σ ts ids)) (objsW (puts σ (dropW σ ts ids)) ids objs')) d (objs'.drop ids.length) = freshW (puts (puts σ (dropW σ ts ids)) (objsW (puts σ (dropW σ ts ids)) ids objs')) d (objs'.drop ids.length) :=
    freshW_congr (fun x hx => hagree _ _ _ (h4 x hx)) (hagree _ _ _ (h5 _ (by simp)))
  have e4 : ∀ (W1 W2 W3 : List (Pl × X)), resRow (puts (puts (puts σ' W1) W2) W3) d res = resRow (puts (puts (puts σ W1) W2) W3) d res := fun W1 W2 W3 => by
    have : gq (puts (puts (puts σ' W1) W2) W3) (d, 0) = gq (puts (puts (puts σ W1) W2) W3) (d, 0) := gq_of (agree_puts (hagree _ _ _ (h5 _ (by simp))))
    unfold resRow
    rw [this]
  have e5 : ∀ (W1 W2 W3 : List (Pl × X)), resAV (puts (puts σ' W1) W2) (puts (puts (puts σ' W1) W2) W3) d ids res = resAV (puts (puts σ W1) W2) (puts (puts (puts σ W1) W2) W3) d ids res := fun W1 W2 W3 => by
    have q1 : gq (puts (puts (puts σ' W1) W2) W3) (d, 0) = gq (puts (puts (puts σ W1) W2) W3) (d, 0) := gq_of (agree_puts (hagree _ _ _ (h5 _ (by simp))))
    have q2 : gg (puts (puts σ' W1) W2) (d, 0) = gg (puts (puts σ W1) W2) (d, 0) := gg_of (hagree _ _ _ (h5 _ (by simp)))
    unfold resAV
    rw [q1, q2]
    split
    · rfl
    · rfl
    · split
      · rename_i o ho
        rw [gg_of (hagree W1 W2 (.g o) (h3 _ (objsK_mem hl (List.mem_of_getElem? ho))))]
      · rfl
  unfold callW
  rw [e1, e2, e3, e4, e5]
end
end Go.Proofs.YtkdnaemkhgjbpaaDoor
