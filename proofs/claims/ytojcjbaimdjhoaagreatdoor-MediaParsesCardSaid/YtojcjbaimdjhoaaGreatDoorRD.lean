
/- The beginning and the end of a function. -/
import Derived.Test.YtojcjbaimdjhoaaGreatDoorRC
namespace Go.Proofs.YtojcjbaimdjhoaaGreatDoor
open Go.RowKit
set_option linter.unusedVariables false
set_option linter.unusedSimpArgs false

def pids : Nat → Nat → List Id
  | _, 0 => []
  | i, n + 1 => (1000 + i, 0) :: pids (i + 1) n
theorem pids_at : ∀ (n i j : Nat), (pids i n)[j]? = if j < n then some (1000 + (i + j), 0) else none
  | 0, i, j => by simp [pids]
  | n + 1, i, 0 => by simp [pids]
  | n + 1, i, j + 1 => by
    show (pids (i + 1) n)[j]? = _
    rw [pids_at n (i + 1) j, show i + 1 + j = i + (j + 1) by omega]
    by_cases h : j < n
    · rw [if_pos h, if_pos (by omega)]
    · rw [if_neg h, if_neg (by omega)]
theorem pids_length : ∀ (n i : Nat), (pids i n).length = n
  | 0, _ => rfl
  | n + 1, i => by simp [pids, pids_length n]
theorem pids_nodup (n : Nat) : (pids 0 n).Nodup := by
  rw [List.nodup_iff_pairwise_ne, List.pairwise_iff_getElem]
  intro i j hi hj hij he
  have h1 : (pids 0 n)[i]? = some (pids 0 n)[i] := by simp [hi]
  have h2 : (pids 0 n)[j]? = some (pids 0 n)[j] := by simp [hj]
  rw [pids_length] at hi hj
  rw [pids_at, if_pos hi] at h1
  rw [pids_at, if_pos hj] at h2
  rw [← he, ← h1] at h2
  simp at h2
  omega
theorem pids_mem {n : Nat} {o : Id} (h : o ∈ pids 0 n) : ∃ i, i < n ∧ o = (1000 + i, 0) := by
  obtain ⟨i, hi⟩ := List.getElem?_of_mem h
  rw [pids_at] at hi
  split at hi
  · rename_i hl; cases hi; exact ⟨i, hl, by rw [Nat.zero_add]⟩
  · cases hi

/-! ### What a function knows at its beginning: object i that came in is object (1000 + i, 0). -/
def argFC (σ : St) : FC → AV
  | .val x => .val x
  | .ptr i off => .ptr (1000 + i, 0) (gg σ (1000 + i, 0)) off
def argW (σ : St) (t : Nat) : Arg → List (Pl × X)
  | .ca (.own e sz es) => [(.q (t, 0), .num (gq σ (t, 0) + 1)), (.k (t, 0), .row e sz es.length)]
  | .ca (.hd x) => treeW σ (t, 1) x
  | _ => []
def argAV (σ : St) (t : Nat) : Arg → AV
  | .ca (.val x) => .val x
  | .ca (.own e sz es) => .own (t, 0) (gq σ (t, 0) + 1) e sz es
  | .ca (.hd x) => treeAV σ (t, 1) x
  | .ca (.hdl _ _ _) => .val .any
  | .ptr i off => .ptr (1000 + i, 0) (gg σ (1000 + i, 0)) off
  | .fn K cs => .fn K (cs.map (argFC σ))
def argOne (σ : St) (t : Nat) (x : Arg) : List (Pl × X) := argW σ t x ++ [(.s t, .av (argAV σ t x))]
def argsW : St → Nat → List Arg → List (Pl × X)
  | _, _, [] => []
  | σ, t, x :: xs => argOne σ t x ++ argsW (puts σ (argOne σ t x)) (t + 1) xs
def initW (args : List Arg) (objs : List (List CA)) : List (Pl × X) :=
  objsW (pids 0 objs.length) base (pids 0 objs.length) objs ++ argsW (puts base (objsW (pids 0 objs.length) base (pids 0 objs.length) objs)) 0 args
def init (args : List Arg) (objs : List (List CA)) : St := puts base (initW args objs)
section
variable {P : Program} {C : Ctx} {σ : St} {E : Env} {a : Act} {w : World}
theorem Gm.knows (h : Gm C E σ a w) (t : Nat) (x : AV) (v : Value) (ht : t < C.nt) (hv : a.tmps.getD t undef = v) (hx : RdA E σ x v) : Gm C E (put σ (.s t) (.av x)) a w := by
  have h1 := h.slot t x v ht hx
  have : a.put (some t) v = a := by
    have hlt : t < a.tmps.size := by rw [h.sz]; exact ht
    have hs : a.tmps.setIfInBounds t v = a.tmps := by
      apply Array.ext
      · simp
      · intro i h1 h2
        rw [Array.getElem_setIfInBounds (by simpa using h2)]
        split
        · rename_i he; subst he; rw [← hv]; simp [Array.getD_eq_getD_getElem?, hlt]
        · rfl
    cases a
    simp only [Act.put] at hs ⊢
    rw [hs]
  rwa [this] at h1
theorem args_ok (bs : List Nat) : ∀ (args : List Arg) (vs : List Value) (F : List Nat) (t : Nat) (E : Env) (σ : St), Gm C E σ a w → ArgsOk E.m w bs args vs F → (∀ (j : Nat) (v : Value), vs[j]? = some v → t + j < C.nt ∧ a.tmps.getD (t + j) undef = v) → t + args.length ≤ 1000 →
    (∀ (i b : Nat), bs[i]? = some b → E.loc (1000 + i, 0) = b) → (∀ b ∈ F, (C.D b ∨ C.w0.heap.size ≤ b) ∧ ¬ LiveB E σ b) → ∃ E', Gm C E' (puts σ (argsW σ t args)) a w
  | [], vs, F, t, E, σ, hg, hA, _, _, _, _ => by cases hA; exact ⟨E, hg⟩
  | x :: args, vs, F, t, E, σ, hg, hA, hv, ht, hloc, hb => by
    cases hA with
    | @cons _ v F1 _ vs F2 h hs hd =>
      obtain ⟨hv1, hv2⟩ := hv 0 v rfl
      have hone : ∃ E1, Gm C E1 (puts σ (argW σ t x)) a w ∧ E1.m = E.m ∧ (∀ i : Nat, E1.loc (1000 + i, 0) = E.loc (1000 + i, 0)) ∧ (∀ b, LiveB E1 (puts σ (argW σ t x)) b → LiveB E σ b ∨ b ∈ F1) ∧ RdA E1 (puts σ (argW σ t x)) (argAV σ t x) v := by
        have hp : ∀ i off b, bs[i]? = some b → RdP E σ (.ptr (1000 + i, 0) (gg σ (1000 + i, 0)) off) (.pointer (some ⟨b, off, none⟩)) := fun i off b hi => ⟨Nat.le_refl _, fun _ => by rw [hloc i b hi]⟩
        cases x with
        | ca c =>
          cases c with
          | val y => obtain ⟨h1, rfl⟩ := h; exact ⟨E, hg, rfl, fun _ => rfl, fun b h => .inl h, h1⟩
          | own e sz es =>
            obtain ⟨⟨p1, ys, p2, p3⟩, rfl⟩ := h
            obtain ⟨E1, f1, f2, f3, f4, f5, f6⟩ := hg.gainRow (t, 0) (gq σ (t, 0) + 1) (by omega) e sz es.length v ys p2 (fun b hb' => ⟨p3 b hb', hb b (List.mem_append_left _ (by simpa using hb'))⟩)
            exact ⟨E1, f1, f3, fun i => by rw [f4], fun b hL => (f5 b hL).imp id fun h => by simpa using h, f6 es rfl p1⟩
          | hd y =>
            obtain ⟨p1, p2⟩ := h
            obtain ⟨E1, f1, f2, f3, f4, f5, f6⟩ := hg.gainTree (t, 1) y v F1 p2 p1 (fun b hb' => hb b (List.mem_append_left _ hb')) (by simp)
            exact ⟨E1, f1, f3, fun i => f4 _ (by simp), f5, f6.toA⟩
          | hdl y i ob => exact ⟨E, hg, rfl, fun _ => rfl, fun b h => .inl h, Rd.any _⟩
        | ptr i off =>
          obtain ⟨⟨b, h1, rfl⟩, rfl⟩ := h
          exact ⟨E, hg, rfl, fun _ => rfl, fun b h => .inl h, (hp i off b h1).toA⟩
        | fn K cs =>
          obtain ⟨⟨ys, rfl, q4, q5⟩, rfl⟩ := h
          refine ⟨E, hg, rfl, fun _ => rfl, fun b h => .inl h, ⟨ys, rfl, by simpa using q4, fun i h1 h2 => ?_⟩⟩
          have hic : i < cs.length := by simpa using h1
          have := q5 i cs[i] ys[i] (by simp [hic]) (by simp [h2])
          rw [List.getElem_map]
          generalize cs[i] = c at this ⊢
          generalize ys[i] = y at this ⊢
          cases c with
          | val x => exact this
          | ptr i off =>
            obtain ⟨b, q6, rfl⟩ := this
            exact hp i off b q6
      obtain ⟨E1, g1, g2, g3, g4, g5⟩ := hone
      have g6 := g1.knows t _ v hv1 hv2 g5
      have e0 : puts σ (argOne σ t x) = put (puts σ (argW σ t x)) (.s t) (.av (argAV σ t x)) := by unfold argOne; rw [puts_append]; rfl
      rw [← e0] at g6
      have hL : ∀ b, LiveB E1 (puts σ (argOne σ t x)) b → LiveB E1 (puts σ (argW σ t x)) b := fun b ⟨u, hu⟩ => ⟨u, by
        rw [e0] at hu
        cases u with
        | o i => obtain ⟨n, h1, h2⟩ := hu; rw [put_ne _ _ (by simp)] at h1; exact ⟨n, h1, h2⟩
        | k i => obtain ⟨e, s, T, h1, h2⟩ := hu; rw [put_ne _ _ (by simp)] at h1; exact ⟨e, s, T, h1, h2⟩
        | r i => obtain ⟨y, h1, h2⟩ := hu; rw [put_ne _ _ (by simp)] at h1; exact ⟨y, h1, h2⟩⟩
      obtain ⟨E', hE'⟩ := args_ok bs args vs F2 (t + 1) E1 _ g6 (by rw [g2]; exact hs) (fun j u hj => by have := hv (j + 1) u (by simpa using hj); rwa [show t + (j + 1) = t + 1 + j by omega] at this) (by simp at ht; omega) (fun i b hi => by rw [g3]; exact hloc i b hi)
        (fun b hF => ⟨(hb b (List.mem_append_right _ hF)).1, fun hl => by
          rcases g4 b (hL b hl) with h1 | h1
          · exact (hb b (List.mem_append_right _ hF)).2 h1
          · exact hd b h1 hF⟩)
      refine ⟨E', ?_⟩
      show Gm C E' (puts σ (argOne σ t x ++ argsW (puts σ (argOne σ t x)) (t + 1) args)) a w
      rw [puts_append]
      exact hE'
end

/-! ### Results -/
inductive ResOne (P : Program) (σ : St) : ResultVar → AV → Prop where
  | tmp (t : Nat) : ResOne P σ (.tmp t) (ev σ (.tmp t))
  | agg (t : Nat) (ty : TypeId) (o : Id) (g n : Nat) (T : TI) (h1 : ev σ (.tmp t) = .ptr o g 0) (h2 : gg σ o = g) (h3 : σ (.o o) = .num n) (h4 : tiOf P ty = some T) (h5 : T.agg = true) (h6 : T.size ≤ n) : ResOne P σ (.cell t ty) (.val (.agg (cellsV σ o 0 T.size)))
  | one (t : Nat) (ty : TypeId) (o : Id) (g n : Nat) (T : TI) (h1 : ev σ (.tmp t) = .ptr o g 0) (h2 : gg σ o = g) (h3 : σ (.o o) = .num n) (h4 : tiOf P ty = some T) (h5 : T.agg = false) (h6 : 0 < n) : ResOne P σ (.cell t ty) (cellAV σ o 0)
inductive ResMany (P : Program) (σ : St) : List ResultVar → List AV → Prop where
  | nil : ResMany P σ [] []
  | cons {r rs x xs} (h : ResOne P σ r x) (hs : ResMany P σ rs xs) : ResMany P σ (r :: rs) (x :: xs)
inductive ResL (P : Program) (σ : St) : List ResultVar → AV → Prop where
  | one {r x} (h : ResOne P σ r x) : ResL P σ [r] x
  | many {rs xs} (h : ResMany P σ rs xs) (hn : rs.length ≠ 1) : ResL P σ rs (.val (.tup (xs.map plain)))
section
variable {P : Program} {C : Ctx} {σ : St} {E : Env} {a : Act} {w : World}
theorem resOne_run (hg : Gm C E σ a w) {r : ResultVar} {x : AV} (h : ResOne P σ r x) : ∃ v, (resOne a.tmps r).run P w = .ok v w ∧ RdA E σ x v := by
  cases h with
  | tmp t => exact ⟨_, res_tmp t, ev_ok hg (.tmp t)⟩
  | agg t ty o g n T h1 h2 h3 h4 h5 h6 =>
    have hp := ev_ok hg (.tmp t)
    rw [h1] at hp
    have hp : a.tmps.getD t undef = _ := hp.2 h2.symm
    have hcell : ∀ j, j < T.size → ∃ v, w.cell? ⟨E.loc o, 0 + j, none⟩ = some v ∧ Rd E.m (plain (cellAV σ o (0 + j))) v := fun j hj => by
      obtain ⟨v, hv, hrd⟩ := cellAV_ok hg (o := o) (n := n) (i := 0 + j) h3 (by omega)
      exact ⟨v, hv, plain_ok hrd⟩
    obtain ⟨f, hf⟩ : ∃ f : Nat → Value, ∀ j, j < T.size → w.cell? ⟨E.loc o, 0 + j, none⟩ = some (f j) ∧ Rd E.m (plain (cellAV σ o (0 + j))) (f j) :=
      ⟨fun j => if h : j < T.size then (hcell j h).choose else undef, fun j h => by simp only [dif_pos h]; exact (hcell j h).choose_spec⟩
    have hl := run_loadCells (P := P) w ⟨E.loc o, 0, none⟩ T.size f (fun j hj => by rw [addr_add]; exact (hf j hj).1)
    have hp' : a.tmps[t]?.getD undef = .pointer (some ⟨E.loc o, 0, none⟩) := by simpa using hp
    refine ⟨.agg ((List.range T.size).map f).toArray, by simp [resOne, hp', asAddr, loadVar, isAgg_run h4, h5, sizeOf_run h4, hl], ?_⟩
    refine Rd.agg _ _ (by simp [cellsV_length]) (fun j hj => ?_)
    rw [cellsV_get]
    rw [cellsV_length] at hj
    simpa using (hf j hj).2
  | one t ty o g n T h1 h2 h3 h4 h5 h6 =>
    have hp := ev_ok hg (.tmp t)
    rw [h1] at hp
    have hp : a.tmps.getD t undef = _ := hp.2 h2.symm
    have hp' : a.tmps[t]?.getD undef = .pointer (some ⟨E.loc o, 0, none⟩) := by simpa using hp
    obtain ⟨v, hv, hrd⟩ := cellAV_ok hg (o := o) (n := n) (i := 0) h3 h6
    exact ⟨v, by simp [resOne, hp', asAddr, loadVar, isAgg_run h4, h5, hv], hrd⟩
theorem resMany_run (hg : Gm C E σ a w) {rs : List ResultVar} {xs : List AV} (h : ResMany P σ rs xs) : ∃ vs : List Value, (rs.mapM (resOne a.tmps)).run P w = .ok vs w ∧ vs.length = xs.length ∧ rs.length = xs.length ∧ ∀ (i : Nat) (h1 : i < xs.length) (h2 : i < vs.length), RdA E σ xs[i] vs[i] := by
  induction h with
  | nil => exact ⟨[], by simp, rfl, rfl, fun i h => by simp at h⟩
  | cons h _ ih =>
    obtain ⟨v, h1, h2⟩ := resOne_run hg h
    obtain ⟨vs, h3, h4, h5, h6⟩ := ih
    refine ⟨v :: vs, ?_, by simp [h4], by simp [h5], fun i k1 k2 => ?_⟩
    · rw [List.mapM_cons]
      simp only [Sem.run_bind, h1, h3, Result.andThen_ok, Sem.run_pure]
    · cases i with
      | zero => exact h2
      | succ i => exact h6 i (by simpa using k1) (by simpa using k2)
theorem resL_run {fn : Func} (hg : Gm C E σ a w) {x : AV} (h : ResL P σ fn.results.toList x) : ∃ v, (results fn a.tmps).run P w = .ok v w ∧ RdA E σ x v := by
  have e : results fn a.tmps = (do let vs ← fn.results.mapM (resOne a.tmps); pure (if h : vs.size = 1 then vs[0] else .tuple vs)) := by
    unfold results; rfl
  generalize hrs : fn.results.toList = rs at h
  have hm : fn.results.mapM (resOne a.tmps) = (do pure (← rs.mapM (resOne a.tmps)).toArray) := by
    rw [Array.mapM_eq_mapM_toList, hrs]
    simp
  cases h with
  | one h =>
    obtain ⟨v, h1, h2⟩ := resOne_run hg h
    exact ⟨v, by rw [e, hm]; simp [h1], h2⟩
  | many h hn =>
    rename_i xs
    obtain ⟨vs, h1, h2, h3, h4⟩ := resMany_run hg h
    refine ⟨.tuple vs.toArray, ?_, Rd.tup _ _ (by simp [h2]) fun i hi => ?_⟩
    · rw [e, hm]
      simp only [Sem.run_bind, h1, Result.andThen_ok, Sem.run_pure]
      rw [dif_neg (by simp; omega)]
    · have hi' : i < xs.length := by simpa using hi
      have := plain_ok (h4 i hi' (by omega))
      simpa using this
/-- What is known at the end is what was promised. -/
def RetOk (P : Program) (σ : St) (rs : List ResultVar) (n : Nat) (res : Arg) (objs' : List (List CA)) : Prop :=
  ∃ (x : AV) (fresh : List Id) (ts1 ts2 : List Ho), ResL P σ rs x ∧ MArgs σ (pids 0 n ++ fresh) [x] [res] ts1 ∧ MObjs σ (pids 0 n ++ fresh) (pids 0 n ++ fresh) objs' ts2 ∧ (ts1 ++ ts2).Nodup
def retQ (P : Program) (rs : List ResultVar) (n : Nat) (res : Arg) (objs' : List (List CA)) : Exit → St → Prop
  | .ret, σ => RetOk P σ rs n res objs'
  | .normal, σ => RetOk P σ rs n res objs'
  | _, _ => False

theorem spec_intro {K : FuncId} {fn : Func} {c : Code} (hf : P.funcs[K]? = some fn) (hb : fn.body = some c) {args : List Arg} {objs : List (List CA)} {res : Arg} {objs' : List (List CA)} (hn : fn.ntmps ≤ 1000 ∧ args.length ≤ fn.ntmps)
    (h : ∀ C : Ctx, C.nt = fn.ntmps → AW P C c (init args objs) (retQ P fn.results.toList objs.length res objs')) : Spec P K args objs res objs' := by
  intro m w vals bs F G hH
  have hvl := hH.ar.len
  have hbl := hH.ob.len
  obtain ⟨C, hC⟩ : ∃ C : Ctx, C = { nt := fn.ntmps, w0 := w, D := fun b => b ∈ F ++ G, pins := fun o => if 1000 ≤ o.1 ∧ o.2 = 0 then bs[o.1 - 1000]? else none, m0 := m, np := fun d hd => by rw [if_neg]; simp; omega, nq := fun k hk => by rw [if_neg]; intro h; exact hk h.2 } := ⟨_, rfl⟩
  have c1 : C.nt = fn.ntmps := by rw [hC]
  have c2 : C.w0 = w := by rw [hC]
  have c3 : ∀ b, C.D b ↔ b ∈ F ++ G := fun b => by rw [hC]
  have c4 : ∀ o, C.pins o = if 1000 ≤ o.1 ∧ o.2 = 0 then bs[o.1 - 1000]? else none := fun o => by rw [hC]
  have c5 : C.m0 = m := by rw [hC]
  clear hC
  obtain ⟨E, hE⟩ : ∃ E : Env, E = { m := m, loc := fun o => if 1000 ≤ o.1 ∧ o.2 = 0 then bs.getD (o.1 - 1000) 0 else 0, rv := fun _ => undef, rx := fun _ => [], bv := fun _ => undef, bf := fun _ => [] } := ⟨_, rfl⟩
  have e1 : E.m = m := by rw [hE]
  have e2 : ∀ (i b : Nat), bs[i]? = some b → E.loc (1000 + i, 0) = b := fun i b hb => by rw [hE]; simp [hb]
  have e3 : ∀ o, E.loc o = if 1000 ≤ o.1 ∧ o.2 = 0 then bs.getD (o.1 - 1000) 0 else 0 := fun o => by rw [hE]
  clear hE
  have nob : ∀ (b : Nat), ¬ LiveB E base b := fun b ⟨t, ht⟩ => by
    cases t with
    | o i => obtain ⟨n, h1, _⟩ := ht; cases h1
    | k i => obtain ⟨e, s, T, h1, _⟩ := ht; cases h1
    | r i => obtain ⟨y, h1, _⟩ := ht; cases h1
  have hG0 : Gm C E base { tmps := vals.toArray ++ Array.replicate (fn.ntmps - vals.toArray.size) undef, defers := [] } w := by
    refine ⟨by simp [c1]; omega, rfl, by rw [e1]; exact hH.ms, by rw [c2]; exact Chg.refl _ _, fun t x hx => (by cases hx), fun o i x n h1 _ _ => (by cases h1), fun o n h1 => (by cases h1), fun k e s T h1 => (by cases h1), fun o o' n n' h1 _ _ => (by cases h1), fun k k' e s T e' s' T' b h1 _ _ _ => (by cases h1), fun o n k e s T h1 _ _ => (by cases h1), fun o b h1 => ?_, by rw [c5, e1]; exact Mem.le_refl _, fun b i _ _ => by rw [c5, e1],
      ⟨fun k x h1 => (by cases h1), fun k x b h1 _ => (by cases h1), fun k xs h1 => (by cases h1), fun k k' x x' b h1 _ _ _ => (by cases h1), fun o n k x h1 _ _ => (by cases h1), fun k' e s T k x b h1 _ _ _ => (by cases h1), fun k x i y h1 _ => (by cases h1), fun o k g s h1 => (by cases h1), fun o o' k g s k' g' s' h1 _ _ => (by cases h1)⟩⟩
    rw [c4] at h1
    rw [e3]
    split at h1
    · rename_i hpq; rw [if_pos hpq]; simp [h1]
    · cases h1
  have hD : ∀ b ∈ F ++ G, C.D b ∨ C.w0.heap.size ≤ b := fun b hb => .inl ((c3 b).2 hb)
  have hpl : ∀ (i : Nat) (o : Id) (b : Nat), (pids 0 objs.length)[i]? = some o → bs[i]? = some b → E.loc o = b := fun i o b h1 h2 => by
    rw [pids_at] at h1
    split at h1
    · cases h1; rw [Nat.zero_add]; exact e2 i b h2
    · cases h1
  obtain ⟨E1, g1, _, g3, g4, g5⟩ := objsW_ok (C := C) (pids 0 objs.length) bs (pids 0 objs.length) objs bs G E base hG0 (by rw [e1]; exact hH.ob) (pids_length _ _) (pids_nodup _) (fun o h => h) hpl hpl
    (fun k hk hk' => by
      have hne : ∀ (ids : List Id) (objs : List (List CA)), ∀ k ∈ kidsAll ids objs, k.2 ≠ 0 := by
        intro ids
        induction ids with
        | nil => intro objs k h; cases h
        | cons o ids ih =>
          intro objs k h
          cases objs with
          | nil => cases h
          | cons cs objs =>
            rcases List.mem_append.1 h with h | h
            · exact kidsOf_ne _ _ _ _ h
            · exact ih _ _ h
      obtain ⟨i, _, rfl⟩ := pids_mem hk'
      exact hne _ _ _ hk rfl)
    (fun b hb => ⟨hD b (List.mem_append_right _ hb), nob b⟩)
  obtain ⟨E2, g6⟩ := args_ok (C := C) (a := { tmps := vals.toArray ++ Array.replicate (fn.ntmps - vals.toArray.size) undef, defers := [] }) bs args vals F 0 E1 _ g1 (by rw [g3, e1]; exact hH.ar)
    (fun j v hj => by
      have hjl := (List.getElem?_eq_some_iff.1 hj).1
      refine ⟨by rw [c1]; omega, ?_⟩
      rw [Nat.zero_add]
      obtain ⟨_, rfl⟩ := List.getElem?_eq_some_iff.1 hj
      simp [Array.getD_eq_getD_getElem?, Array.getElem?_append, hjl]) (by omega)
    (fun i b hi => by
      have hil : i < objs.length := by have := (List.getElem?_eq_some_iff.1 hi).1; omega
      rw [(g4 (1000 + i, 0) (List.mem_of_getElem? (i := i) (by rw [pids_at, if_pos hil, Nat.zero_add]))).1]; exact e2 i b hi)
    (fun b hb => ⟨hD b (List.mem_append_left _ hb), fun hL => by
      rcases g5 b hL with h1 | h1
      · exact nob b h1
      · exact hH.di b hb h1⟩)
  have hG : Gm C E2 (init args objs) { tmps := vals.toArray ++ Array.replicate (fn.ntmps - vals.toArray.size) undef, defers := [] } w := by
    unfold init initW; rw [puts_append]; exact g6
  clear g6 g5 g4 g3 g1
  have hwp := h C c1 E2 _ w hG
  refine calls_of_wp hf hb (Code.wp_mono (fun e a' w' hq => ?_) hwp)
  obtain ⟨E', σ', hq, hG'⟩ := hq
  have main : RetOk P σ' fn.results.toList objs.length res objs' → a'.defers = [] ∧ ∃ v, (results fn a'.tmps).run P w' = .ok v w' ∧ ∃ (v' : Value) (m' : Mem) (bs' F' G' : List Nat), Ending.returned v = .returned v' ∧ Holds m' w' [v'] [res] objs' bs' F' G' ∧ m.le m' ∧
      Chg (fun b => b ∈ F ++ G) w w' ∧ (∀ (i b : Nat), bs[i]? = some b → bs'[i]? = some b) ∧ (∀ (b i : Nat), b < w.heap.size → b ∉ F ++ G → m' b i = m b i) ∧ ∀ b ∈ F' ++ G', b ∈ F ++ G ∨ w.heap.size ≤ b := by
    rintro ⟨x, fresh, ts1, ts2, hr, hma, hmo, hnd⟩
    obtain ⟨v, hv, hrv'⟩ := resL_run hG' hr
    obtain ⟨_, F', G', hH', hOw⟩ := holds_of hG' hma hmo [v] rfl (fun j y u q1 q2 => by
      cases j with
      | zero => simp at q1 q2; subst q1; subst q2; exact hrv'
      | succ j => simp at q1) hnd
    refine ⟨hG'.df, v, hv, v, E'.m, _, F', G', rfl, hH', by have := hG'.ml; rwa [c5] at this, ?_, fun i b hb => ?_, fun b i hb hn => ?_, fun b hb => ?_⟩
    · have := hG'.fr
      rw [c2] at this
      exact this.mono fun i _ hi => (c3 i).1 hi
    · have hil : i < objs.length := by have := (List.getElem?_eq_some_iff.1 hb).1; omega
      rw [List.getElem?_map, List.getElem?_append_left (by rw [pids_length]; exact hil), pids_at, if_pos hil]
      simp only [Option.map_some, Nat.zero_add, Option.some.injEq]
      exact hG'.pi (1000 + i, 0) b (by rw [c4]; simp [hb])
    · have := hG'.mx b i (by rw [c2]; exact hb) (by rw [c3]; exact hn)
      rw [this, c5]
    · obtain ⟨t, _, ht⟩ := hOw b hb
      have := (hG'.ho_dd ht).2
      rwa [c3, c2] at this
  cases e with
  | ret => exact main hq
  | normal => exact main hq
  | exit i => exact hq.elim
  | goto l => exact hq.elim
  | panic ch => exact hq.elim
  | outgrown => exact hq.elim
end
end Go.Proofs.YtojcjbaimdjhoaaGreatDoor
