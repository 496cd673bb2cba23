
/- The beginning and the end of a function. -/
import Derived.Test.YtkdnaemkhgjbpaaDoorRC
namespace Go.Proofs.YtkdnaemkhgjbpaaDoor
open Go.RowKit
set_option linter.unusedVariables false
set_option linter.unusedSimpArgs false

/-- What a function knows at its beginning: object i that came in is object (1000 + i, 0). -/
def init (args : List Arg) (objs : List (List CA)) : St
  | .s t => match args[t]? with
    | some (.ca (.val x)) => .av (.val x)
    | some (.ca (.own e sz es)) => .av (.own (t, 0) 0 e sz es)
    | some (.ptr i off) => .av (.ptr (1000 + i, 0) 0 off)
    | none => .non
  | .c (a, b) j => if 1000 ≤ a ∧ b = 0 then match (objs[a - 1000]?).bind (·[j]?) with
    | some (.val x) => .av (.val x)
    | some (.own e sz es) => .av (.own (a, j + 1) 0 e sz es)
    | none => .non
    else .non
  | .o (a, b) => if 1000 ≤ a ∧ b = 0 then match objs[a - 1000]? with
    | some cs => .num cs.length
    | none => .non
    else .non
  | .k (a, b) => if 1000 ≤ a then (match b with
      | j + 1 => match (objs[a - 1000]?).bind (·[j]?) with
        | some (.own e sz es) => .row e sz es.length
        | _ => .non
      | 0 => .non)
    else if b = 0 then match args[a]? with
      | some (.ca (.own e sz es)) => .row e sz es.length
      | _ => .non
    else .non
  | .g _ => .non
  | .q _ => .non
def pids : Nat → Nat → List Id
  | _, 0 => []
  | i, n + 1 => (1000 + i, 0) :: pids (i + 1) n
theorem pids_at : ∀ (n i j : Nat), (pids i n)[j]? = if j < n then some (1000 + (i + j), 0) else none
  | 0, i, j => by simp [pids]
  | n + 1, i, 0 => by simp [pids]
  | n + 1, i, j + 1 => by
    show (pids (i + 1) n)[j]? = _
    rw [pids_at n (i + 1) j, show i + 1 + j = i + (j + 1) by omega]
    by_cases h : j < n
    · rw [if_pos h, if_pos (by omega)]
    · rw [if_neg h, if_neg (by omega)]
theorem pids_length : ∀ (n i : Nat), (pids i n).length = n
  | 0, _ => rfl
  | n + 1, i => by simp [pids, pids_length n]

/-! ### Results -/
inductive ResOne (P : Program) (σ : St) : ResultVar → AV → Prop where
  | tmp (t : Nat) : ResOne P σ (.tmp t) (ev σ (.tmp t))
  | agg (t : Nat) (ty : TypeId) (o : Id) (g n : Nat) (T : TI) (h1 : ev σ (.tmp t) = .ptr o g 0) (h2 : gg σ o = g) (h3 : σ (.o o) = .num n) (h4 : tiOf P ty = some T) (h5 : T.agg = true) (h6 : T.size ≤ n) : ResOne P σ (.cell t ty) (.val (.agg (cellsV σ o 0 T.size)))
  | one (t : Nat) (ty : TypeId) (o : Id) (g n : Nat) (T : TI) (h1 : ev σ (.tmp t) = .ptr o g 0) (h2 : gg σ o = g) (h3 : σ (.o o) = .num n) (h4 : tiOf P ty = some T) (h5 : T.agg = false) (h6 : 0 < n) : ResOne P σ (.cell t ty) (cellAV σ o 0)
inductive ResMany (P : Program) (σ : St) : List ResultVar → List AV → Prop where
  | nil : ResMany P σ [] []
  | cons {r rs x xs} (h : ResOne P σ r x) (hs : ResMany P σ rs xs) : ResMany P σ (r :: rs) (x :: xs)
inductive ResL (P : Program) (σ : St) : List ResultVar → AV → Prop where
  | one {r x} (h : ResOne P σ r x) : ResL P σ [r] x
  | many {rs xs} (h : ResMany P σ rs xs) (hn : rs.length ≠ 1) : ResL P σ rs (.val (.tup (xs.map plain)))
section
variable {P : Program} {C : Ctx} {σ : St} {E : Env} {a : Act} {w : World}
theorem resOne_run (hg : Gm C E σ a w) {r : ResultVar} {x : AV} (h : ResOne P σ r x) : ∃ v, (resOne a.tmps r).run P w = .ok v w ∧ RdA E σ x v := by
  cases h with
  | tmp t => exact ⟨_, res_tmp t, ev_ok hg (.tmp t)⟩
  | agg t ty o g n T h1 h2 h3 h4 h5 h6 =>
    have hp := ev_ok hg (.tmp t)
    rw [h1] at hp
    have hp : a.tmps.getD t undef = _ := hp.2 h2.symm
    have hcell : ∀ j, j < T.size → ∃ v, w.cell? ⟨E.loc o, 0 + j, none⟩ = some v ∧ Rd E.m (plain (cellAV σ o (0 + j))) v := fun j hj => by
      obtain ⟨v, hv, hrd⟩ := cellAV_ok hg (o := o) (n := n) (i := 0 + j) h3 (by omega)
      exact ⟨v, hv, plain_ok hrd⟩
    obtain ⟨f, hf⟩ : ∃ f : Nat → Value, ∀ j, j < T.size → w.cell? ⟨E.loc o, 0 + j, none⟩ = some (f j) ∧ Rd E.m (plain (cellAV σ o (0 + j))) (f j) :=
      ⟨fun j => if h : j < T.size then (hcell j h).choose else undef, fun j h => by simp only [dif_pos h]; exact (hcell j h).choose_spec⟩
    have hl := run_loadCells (P := P) w ⟨E.loc o, 0, none⟩ T.size f (fun j hj => by rw [addr_add]; exact (hf j hj).1)
    have hp' : a.tmps[t]?.getD undef = .pointer (some ⟨E.loc o, 0, none⟩) := by simpa using hp
    refine ⟨.agg ((List.range T.size).map f).toArray, by simp [resOne, hp', asAddr, loadVar, isAgg_run h4, h5, sizeOf_run h4, hl], ?_⟩
    refine Rd.agg _ _ (by simp [cellsV_length]) (fun j hj => ?_)
    rw [cellsV_get]
    rw [cellsV_length] at hj
    simpa using (hf j hj).2
  | one t ty o g n T h1 h2 h3 h4 h5 h6 =>
    have hp := ev_ok hg (.tmp t)
    rw [h1] at hp
    have hp : a.tmps.getD t undef = _ := hp.2 h2.symm
    have hp' : a.tmps[t]?.getD undef = .pointer (some ⟨E.loc o, 0, none⟩) := by simpa using hp
    obtain ⟨v, hv, hrd⟩ := cellAV_ok hg (o := o) (n := n) (i := 0) h3 h6
    exact ⟨v, by simp [resOne, hp', asAddr, loadVar, isAgg_run h4, h5, hv], hrd⟩
theorem resMany_run (hg : Gm C E σ a w) {rs : List ResultVar} {xs : List AV} (h : ResMany P σ rs xs) : ∃ vs : List Value, (rs.mapM (resOne a.tmps)).run P w = .ok vs w ∧ vs.length = xs.length ∧ rs.length = xs.length ∧ ∀ (i : Nat) (h1 : i < xs.length) (h2 : i < vs.length), RdA E σ xs[i] vs[i] := by
  induction h with
  | nil => exact ⟨[], by simp, rfl, rfl, fun i h => by simp at h⟩
  | cons h _ ih =>
    obtain ⟨v, h1, h2⟩ := resOne_run hg h
    obtain ⟨vs, h3, h4, h5, h6⟩ := ih
    refine ⟨v :: vs, ?_, by simp [h4], by simp [h5], fun i k1 k2 => ?_⟩
    · rw [List.mapM_cons]
      simp only [Sem.run_bind, h1, h3, Result.andThen_ok, Sem.run_pure]
    · cases i with
      | zero => exact h2
      | succ i => exact h6 i (by simpa using k1) (by simpa using k2)
theorem resL_run {fn : Func} (hg : Gm C E σ a w) {x : AV} (h : ResL P σ fn.results.toList x) : ∃ v, (results fn a.tmps).run P w = .ok v w ∧ RdA E σ x v := by
  have e : results fn a.tmps = (do let vs ← fn.results.mapM (resOne a.tmps); pure (if h : vs.size = 1 then vs[0] else .tuple vs)) := by
    unfold results; rfl
  generalize hrs : fn.results.toList = rs at h
  have hm : fn.results.mapM (resOne a.tmps) = (do pure (← rs.mapM (resOne a.tmps)).toArray) := by
    rw [Array.mapM_eq_mapM_toList, hrs]
    simp
  cases h with
  | one h =>
    obtain ⟨v, h1, h2⟩ := resOne_run hg h
    exact ⟨v, by rw [e, hm]; simp [h1], h2⟩
  | many h hn =>
    rename_i xs
    obtain ⟨vs, h1, h2, h3, h4⟩ := resMany_run hg h
    refine ⟨.tuple vs.toArray, ?_, Rd.tup _ _ (by simp [h2]) fun i hi => ?_⟩
    · rw [e, hm]
      simp only [Sem.run_bind, h1, Result.andThen_ok, Sem.run_pure]
      rw [dif_neg (by simp; omega)]
    · have hi' : i < xs.length := by simpa using hi
      have := plain_ok (h4 i hi' (by omega))
      simpa using this
/-- What is known at the end is what was promised. -/
def RetOk (P : Program) (σ : St) (rs : List ResultVar) (n : Nat) (res : Arg) (objs' : List (List CA)) : Prop :=
  ∃ (x : AV) (fresh ts1 ts2 : List Id), ResL P σ rs x ∧ MArgs σ (pids 0 n ++ fresh) [x] [res] ts1 ∧ MObjs σ (pids 0 n ++ fresh) objs' ts2 ∧ (ts1 ++ ts2).Nodup ∧ (pids 0 n ++ fresh).Nodup
def retQ (P : Program) (rs : List ResultVar) (n : Nat) (res : Arg) (objs' : List (List CA)) : Exit → St → Prop
  | .ret, σ => RetOk P σ rs n res objs'
  | .normal, σ => RetOk P σ rs n res objs'
  | _, _ => False

theorem spec_intro {K : FuncId} {fn : Func} {c : Code} (hf : P.funcs[K]? = some fn) (hb : fn.body = some c) {args : List Arg} {objs : List (List CA)} {res : Arg} {objs' : List (List CA)} (hn : fn.ntmps ≤ 1000 ∧ args.length ≤ fn.ntmps)
    (h : ∀ C : Ctx, C.nt = fn.ntmps → AW P C c (init args objs) (retQ P fn.results.toList objs.length res objs')) : Spec P K args objs res objs' := by
  intro m w vals bs cvs hH
  have hvl := hH.hl
  obtain ⟨C, hC⟩ : ∃ C : Ctx, C = { nt := fn.ntmps, w0 := w, D := fun b => ∃ x, Ow vals args objs bs cvs x b, pins := fun o => if 1000 ≤ o.1 ∧ o.2 = 0 then bs[o.1 - 1000]? else none, m0 := m, np := fun d hd => by rw [if_neg]; simp; omega } := ⟨_, rfl⟩
  have c1 : C.nt = fn.ntmps := by rw [hC]
  have c2 : C.w0 = w := by rw [hC]
  have c3 : ∀ b, C.D b ↔ ∃ x, Ow vals args objs bs cvs x b := fun b => by rw [hC]
  have c4 : ∀ o, C.pins o = if 1000 ≤ o.1 ∧ o.2 = 0 then bs[o.1 - 1000]? else none := fun o => by rw [hC]
  have c5 : C.m0 = m := by rw [hC]
  clear hC
  -- the value of a row that came in
  obtain ⟨rv, hrv⟩ : ∃ rv : Id → Value, rv = fun k => if 1000 ≤ k.1 then (((cvs[k.1 - 1000]?).bind (·[k.2 - 1]?)).getD undef) else vals.getD k.1 undef := ⟨_, rfl⟩
  have hrow : ∀ k e sz T, init args objs (.k k) = .row e sz T → ∃ (es : List (List V)) (x : Rx), T = es.length ∧ CAok m w (.own e sz es) (rv k) ∧ (∀ b, (rv k).ownBlock = some b → Ow vals args objs bs cvs x b) ∧
      ((∃ i j, k = (1000 + i, j + 1) ∧ x = .ce i j) ∨ (∃ j, j < 1000 ∧ k = (j, 0) ∧ x = .ar j)) := by
    rintro ⟨p, q⟩ e sz T hk
    simp only [init] at hk
    by_cases hp : 1000 ≤ p
    · rw [if_pos hp] at hk
      cases q with
      | zero => simp at hk
      | succ j =>
        simp only at hk
        split at hk
        · rename_i e' sz' es ho
          cases hk
          obtain ⟨cs, q1, q2⟩ := Option.bind_eq_some_iff.1 ho
          have hil : p - 1000 < objs.length := (List.getElem?_eq_some_iff.1 q1).1
          obtain ⟨vs, q3⟩ : ∃ vs, cvs[p - 1000]? = some vs := ⟨cvs[p - 1000]'(by rw [hH.cl]; exact hil), by simp [hH.cl, hil]⟩
          obtain ⟨b, q4⟩ : ∃ b, bs[p - 1000]? = some b := ⟨bs[p - 1000]'(by rw [hH.ol]; exact hil), by simp [hH.ol, hil]⟩
          obtain ⟨p1, p2, p3, p4⟩ := hH.ob _ b cs vs q4 q1 q3
          have hjl : j < vs.length := by rw [p1]; exact (List.getElem?_eq_some_iff.1 q2).1
          have hrvk : rv (p, j + 1) = vs[j] := by rw [hrv]; simp [hp, q3, hjl]
          have q5 : vs[j]? = some vs[j] := by simp [hjl]
          rw [hrvk]
          exact ⟨es, .ce (p - 1000) j, rfl, p4 j _ _ q2 q5, fun b hb => ⟨cs, vs, _, _, q1, q3, q2, q5, hb⟩, .inl ⟨p - 1000, j, by rw [Nat.add_sub_of_le hp], rfl⟩⟩
        · cases hk
    · rw [if_neg hp] at hk
      split at hk
      · rename_i hq
        subst hq
        split at hk
        · rename_i e' sz' es ho
          cases hk
          have hil : p < vals.length := by rw [hvl]; exact (List.getElem?_eq_some_iff.1 ho).1
          have hrvk : rv (p, 0) = vals[p] := by rw [hrv]; simp [hp, hil]
          have q5 : vals[p]? = some vals[p] := by simp [hil]
          rw [hrvk]
          exact ⟨es, .ar p, rfl, hH.ca p _ _ ho q5, fun b hb => ⟨_, _, ho, q5, hb⟩, .inr ⟨p, by omega, rfl, rfl⟩⟩
        · cases hk
      · cases hk
  have hx : ∀ k, ∃ xs : List Value, ∀ e sz T, init args objs (.k k) = .row e sz T → w.ownsRow 0 e sz (rv k) T xs ∧ ∀ b, (rv k).ownBlock = some b → ∀ i, m b i = xs[i]? := fun k => by
    by_cases hex : ∃ e sz T, init args objs (.k k) = .row e sz T
    · obtain ⟨e, sz, T, hk⟩ := hex
      obtain ⟨es, x, q1, q2, _⟩ := hrow k e sz T hk
      obtain ⟨xs, q3⟩ := q2.2
      subst q1
      exact ⟨xs, fun e' sz' T' h' => by rw [hk] at h'; cases h'; exact q3⟩
    · exact ⟨[], fun e sz T h => absurd ⟨e, sz, T, h⟩ hex⟩
  obtain ⟨rx, hrx⟩ := Classical.axiomOfChoice hx
  obtain ⟨E, hE⟩ : ∃ E : Env, E = { m := m, loc := fun o => if 1000 ≤ o.1 ∧ o.2 = 0 then bs.getD (o.1 - 1000) 0 else 0, rv := rv, rx := rx } := ⟨_, rfl⟩
  have e1 : E.m = m := by rw [hE]
  have e2 : ∀ (i b : Nat), bs[i]? = some b → E.loc (1000 + i, 0) = b := fun i b hb => by rw [hE]; simp [hb]
  have e3 : E.rv = rv := by rw [hE]
  have e4 : ∀ k e sz T, init args objs (.k k) = .row e sz T → w.ownsRow 0 e sz (rv k) T (E.rx k) ∧ ∀ b, (rv k).ownBlock = some b → ∀ i, m b i = (E.rx k)[i]? := fun k => by rw [hE]; exact hrx k
  clear hE
  have hobj : ∀ o n, init args objs (.o o) = .num n → ∃ i cs b vs, o = (1000 + i, 0) ∧ objs[i]? = some cs ∧ bs[i]? = some b ∧ cvs[i]? = some vs ∧ n = cs.length ∧ E.loc o = b := by
    rintro ⟨p, q⟩ n ho
    simp only [init] at ho
    split at ho
    · rename_i hpq
      split at ho
      · rename_i cs hcs
        cases ho
        have hil : p - 1000 < objs.length := (List.getElem?_eq_some_iff.1 hcs).1
        obtain ⟨vs, q3⟩ : ∃ vs, cvs[p - 1000]? = some vs := ⟨cvs[p - 1000]'(by rw [hH.cl]; exact hil), by simp [hH.cl, hil]⟩
        obtain ⟨b, q4⟩ : ∃ b, bs[p - 1000]? = some b := ⟨bs[p - 1000]'(by rw [hH.ol]; exact hil), by simp [hH.ol, hil]⟩
        have hpe : (p, q) = (1000 + (p - 1000), 0) := by rw [hpq.2, Nat.add_sub_of_le hpq.1]
        exact ⟨p - 1000, cs, b, vs, hpe, hcs, q4, q3, rfl, by rw [hpe]; exact e2 _ _ q4⟩
      · cases ho
    · cases ho
  have hown : ∀ k e sz es v, init args objs (.k k) = .row e sz es.length → Rd m (.lst sz es) v → v = rv k → RdA E (init args objs) (.own k 0 e sz es) v := fun k e sz es v hk hr hv => by
    refine ⟨by rw [e1]; exact hr, Nat.zero_le _, fun _ e' sz' T hT => ?_⟩
    rw [hk] at hT
    cases hT
    exact ⟨Nat.le_refl _, fun _ => ⟨rfl, rfl, by rw [e3]; exact hv⟩⟩
  have hptr : ∀ i b off, bs[i]? = some b → RdA E (init args objs) (.ptr (1000 + i, 0) 0 off) (.pointer (some ⟨b, off, none⟩)) := fun i b off hb => ⟨Nat.zero_le _, fun _ => by rw [e2 i b hb]⟩
  have hG : Gm C E (init args objs) { tmps := vals.toArray ++ Array.replicate (fn.ntmps - vals.toArray.size) undef, defers := [] } w := by
    refine ⟨by simp [c1]; omega, rfl, by rw [e1]; exact hH.ms, by rw [c2]; exact Chg.refl _ _, fun t x hx => ?_, fun o i x n h1 h2 h3 => ?_, fun o n h1 => ?_, fun k e s T h1 => ?_, fun o o' n n' h1 h2 h3 => ?_, fun k k' e s T e' s' T' b h1 h2 h3 h4 => ?_, fun o n k e s T h1 h2 he => ?_, fun o b h1 => ?_, by rw [c5, e1]; exact Mem.le_refl _, fun b i _ _ => by rw [c5, e1]⟩
    · simp only [init] at hx
      cases ha : args[t]? with
      | none => rw [ha] at hx; cases hx
      | some arg =>
        rw [ha] at hx
        have hil : t < vals.length := by rw [hvl]; exact (List.getElem?_eq_some_iff.1 ha).1
        have hv : vals[t]? = some vals[t] := by simp [hil]
        have hget : (vals.toArray ++ Array.replicate (fn.ntmps - vals.toArray.size) undef).getD t undef = vals[t] := by
          simp [Array.getD_eq_getD_getElem?, Array.getElem?_append, hil]
        rw [hget]
        cases arg with
        | ca c =>
          have hc := hH.ca t c _ ha hv
          cases c with
          | val y => cases hx; show Rd E.m y _; rw [e1]; exact hc
          | own e sz es =>
            cases hx
            have ht : ¬ 1000 ≤ t := by omega
            refine hown (t, 0) e sz es _ (by simp [init, ht, ha]) hc.1 ?_
            rw [hrv]; simp [ht, hil]
        | ptr i off =>
          cases hx
          obtain ⟨b, q1, q2⟩ := hH.pt t i off _ ha hv
          rw [q2]
          exact hptr i b off q1
    · obtain ⟨i', cs, b, vs, rfl, q1, q2, q3, rfl, q5⟩ := hobj o n h2
      obtain ⟨p1, ⟨ty, p2⟩, p3, p4⟩ := hH.ob i' b cs vs q2 q1 q3
      have hvi : vs[i]? = some (vs[i]'(by omega)) := List.getElem?_eq_getElem _
      have hci : cs[i]? = some (cs[i]'h3) := by simp [h3]
      refine ⟨vs[i]'(by omega), by rw [q5, cell_of_row _ _ _ _ _ _ p2]; simp, ?_⟩
      have hc := p4 i _ _ hci hvi
      have hin : init args objs (.c (1000 + i', 0) i) = .av (match cs[i]'h3 with | .val x => .val x | .own e sz es => .own (1000 + i', i + 1) 0 e sz es) := by
        simp only [init, Nat.le_add_right, and_self, if_true, Nat.add_sub_cancel_left, q1, Option.bind_some, hci]
        cases cs[i]'h3 <;> rfl
      rw [hin] at h1
      cases h1
      generalize hcc : cs[i]'h3 = cc at hc ⊢
      cases cc with
      | val y => show Rd E.m y _; rw [e1]; exact hc
      | own e sz es =>
        refine hown (1000 + i', i + 1) e sz es _ ?_ hc.1 ?_
        · simp [init, q1, hci, hcc]
        · rw [hrv]; simp [q3, hvi]
    · obtain ⟨i', cs, b, vs, rfl, q1, q2, q3, rfl, q5⟩ := hobj o n h1
      obtain ⟨p1, ⟨ty, p2⟩, p3, p4⟩ := hH.ob i' b cs vs q2 q1 q3
      rw [q5]
      exact ⟨⟨_, ty, p2, by simpa using p1⟩, by rw [e1]; exact p3, .inl ((c3 b).2 ⟨.ob i', q2⟩)⟩
    · obtain ⟨es, x, _, _, q3, _⟩ := hrow k e s T h1
      obtain ⟨p1, p2⟩ := e4 k e s T h1
      rw [e3]
      exact ⟨p1, fun b hb => ⟨fun i => by rw [e1]; exact p2 b hb i, .inl ((c3 b).2 ⟨x, q3 b hb⟩)⟩⟩
    · obtain ⟨i1, cs, b, vs, rfl, q1, q2, q3, rfl, q5⟩ := hobj o n h1
      obtain ⟨i2, cs', b', vs', rfl, r1, r2, r3, rfl, r5⟩ := hobj o' n' h2
      have : b = b' := by rw [← q5, ← r5, h3]
      subst this
      have := hH.di (.ob i1) (.ob i2) b q2 r2
      cases this; rfl
    · rw [e3] at h3 h4
      obtain ⟨es, x, _, _, q3, q4⟩ := hrow k e s T h1
      obtain ⟨es', x', _, _, r3, r4⟩ := hrow k' e' s' T' h2
      have := hH.di x x' b (q3 b h3) (r3 b h4)
      subst this
      rcases q4 with ⟨i, j, rfl, q⟩ | ⟨j, hj, rfl, q⟩ <;> rcases r4 with ⟨i', j', rfl, r⟩ | ⟨j', hj', rfl, r⟩ <;> rw [q] at r <;> cases r <;> rfl
    · rw [e3] at he
      obtain ⟨i1, cs, b, vs, rfl, q1, q2, q3, rfl, q5⟩ := hobj o n h1
      obtain ⟨es, x, _, _, r3, r4⟩ := hrow k e s T h2
      rw [q5] at he
      have := hH.di x (.ob i1) b (r3 b he) q2
      subst this
      rcases r4 with ⟨i, j, _, r⟩ | ⟨j, _, _, r⟩ <;> cases r
    · rw [c4] at h1
      split at h1
      · rename_i hpq
        have ho : o = (1000 + (o.1 - 1000), 0) := by
          rcases o with ⟨p, q⟩
          simp only at hpq
          rw [hpq.2]; show (p, 0) = (1000 + (p - 1000), 0); rw [Nat.add_sub_of_le hpq.1]
        rw [ho]
        exact e2 _ _ h1
      · cases h1
  have hwp := h C c1 E _ w hG
  refine calls_of_wp hf hb (Code.wp_mono (fun e a' w' hq => ?_) hwp)
  obtain ⟨E', σ', hq, hG'⟩ := hq
  have main : RetOk P σ' fn.results.toList objs.length res objs' → a'.defers = [] ∧ ∃ v, (results fn a'.tmps).run P w' = .ok v w' ∧ ∃ (v' : Value) (m' : Mem) (bs' : List Nat) (cvs' : List (List Value)), Ending.returned v = .returned v' ∧ Holds m' w' [v'] [res] objs' bs' cvs' ∧ m.le m' ∧
      Chg (fun b => ∃ x, Ow vals args objs bs cvs x b) w w' ∧ (∀ (i b : Nat), bs[i]? = some b → bs'[i]? = some b) ∧ (∀ (b i : Nat), b < w.heap.size → (¬ ∃ x, Ow vals args objs bs cvs x b) → m' b i = m b i) ∧
      ∀ (x : Rx) (b : Nat), Ow [v'] [res] objs' bs' cvs' x b → (∃ x, Ow vals args objs bs cvs x b) ∨ w.heap.size ≤ b := by
    rintro ⟨x, fresh, ts1, ts2, hr, hma, hmo, hnd, hid⟩
    obtain ⟨v, hv, hrv'⟩ := resL_run hG' hr
    obtain ⟨cvs', hH', hOw⟩ := holds_of hG' hma hmo [v] rfl (fun j y u q1 q2 => by
      cases j with
      | zero => simp at q1 q2; subst q1; subst q2; exact hrv'
      | succ j => simp at q1) hnd hid
    refine ⟨hG'.df, v, hv, v, E'.m, _, cvs', rfl, hH', by have := hG'.ml; rwa [c5] at this, ?_, fun i b hb => ?_, fun b i hb hn => ?_, fun x b hx => ?_⟩
    · have := hG'.fr
      rw [c2] at this
      exact this.mono fun i _ hi => (c3 i).1 hi
    · have hil : i < objs.length := by have := (List.getElem?_eq_some_iff.1 hb).1; rw [hH.ol] at this; exact this
      rw [List.getElem?_map, List.getElem?_append_left (by rw [pids_length]; exact hil), pids_at, if_pos hil]
      simp only [Option.map_some, Nat.zero_add, Option.some.injEq]
      exact hG'.pi (1000 + i, 0) b (by rw [c4]; simp [hb])
    · have := hG'.mx b i (by rw [c2]; exact hb) (by rw [c3]; exact hn)
      rw [this, c5]
    · rcases hOw x b hx with ⟨o, n, _, q1, q2⟩ | ⟨k, _, e, sz, T, q1, q2⟩
      · have := (hG'.ob o n q1).2.2
        rw [q2, c3, c2] at this
        exact this
      · have := ((hG'.ro k e sz T q1).2 b q2).2
        rw [c3, c2] at this
        exact this
  cases e with
  | ret => exact main hq
  | normal => exact main hq
  | exit i => exact hq.elim
  | goto l => exact hq.elim
  | panic ch => exact hq.elim
  | outgrown => exact hq.elim
end
end Go.Proofs.YtkdnaemkhgjbpaaDoor
