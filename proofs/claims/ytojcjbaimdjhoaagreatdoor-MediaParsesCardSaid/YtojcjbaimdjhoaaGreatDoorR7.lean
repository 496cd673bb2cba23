
/- Indexes, slices, lengths, conversions. -/
import Derived.Test.YtojcjbaimdjhoaaGreatDoorR6
namespace Go.Proofs.YtojcjbaimdjhoaaGreatDoor
open Go.RowKit
set_option linter.unusedVariables false
set_option linter.unusedSimpArgs false

section
variable {P : Program} {ops : Array Oper} {C : Ctx} {E : Env} {σ : St} {a : Act} {w : World}
theorem ti_str {t : TypeId} (h : (tiOf P t).map (·.sh) = some .str) : P.underlying t = some .string := sh_str h
def byteAt (s : ByteArray) (n : Int) : Int := ((s.data.toList.getD n.toNat 0).toNat : Int)
def stIndex (P : Program) (σ : St) (d : Tmp) (t : TypeId) (x y : Operand) : Stp :=
  match scOf σ x, scOf σ y with
  | some (.string s), some (.int _ n) => some ((tiOf P t).map (·.sh) = some .str ∧ 0 ≤ n ∧ n < s.size, rdl x ++ rdl y, [(.s d, .av (.val (.sc (.int .u8 (byteAt s n)))))])
  | _, _ => none
theorem ok_index (d : Tmp) (t : TypeId) (x y : Operand) : StOk P C σ (some d) (.index t x y) (stIndex P σ d t x y) := by
  unfold stIndex
  split
  · rename_i s k n hx hy
    refine ok_pure fun hc ty pos af E σ' a w hr hg => ?_
    obtain ⟨h1, h2⟩ := mem_l hr
    obtain ⟨c1, c2, c3⟩ := hc
    refine ⟨_, ?_, Rd.sc _⟩
    have hlt : n.toNat < s.size := by omega
    have hb : s[n.toNat]? = some s[n.toNat] := by simp [hlt]
    have hv : ((s[n.toNat]).toNat : Int) = byteAt s n := by
      unfold byteAt
      have : s.data.toList.getD n.toNat 0 = s[n.toNat] := by
        have hl : n.toNat < s.data.toList.length := by rw [Array.length_toList]; exact hlt
        rw [List.getD_eq_getElem?_getD, List.getElem?_eq_getElem hl]; rfl
      rw [this]
    simp [execOp, scOf_ok hx h1 hg, scOf_ok hy h2 hg, Instr.index, asIntOf, run_underlying (ti_str c1), if_pos c2, hb, hv]
  · intro _ _ _ h; cases h

/-- A list's element size and elements. -/
def lstOf : AV → Option (Nat × List (List V))
  | .val (.lst sz es) | .own _ _ _ sz es => some (sz, es)
  | _ => none
theorem lstOf_ok {x : AV} {v : Value} {sz : Nat} {es : List (List V)} (h : RdA E σ x v) (hl : lstOf x = some (sz, es)) : Rd E.m (.lst sz es) v := by
  cases x with
  | ptr => simp [lstOf] at hl
  | ref => simp [lstOf] at hl
  | elp => simp [lstOf] at hl
  | ag => simp [lstOf] at hl
  | fn => simp [lstOf] at hl
  | own k g e s es' => simp [lstOf] at hl; obtain ⟨rfl, rfl⟩ := hl; exact h.1
  | val y => cases y <;> simp [lstOf] at hl; obtain ⟨rfl, rfl⟩ := hl; exact h
def stIndexA (P : Program) (σ : St) (d : Tmp) (t : TypeId) (x y : Operand) : Stp :=
  match tiOf P t, lstOf (ev σ x), scOf σ y with
  | some { sh := .slice, elem := e, .. }, some (sz, es), some (.int _ n) => some ((tiOf P e).map (·.size) = some sz ∧ 0 ≤ n ∧ n < es.length, rdl x ++ rdl y, [(.s d, .av (.val (.ep (es.getD n.toNat []))))])
  | _, _, _ => none
theorem ok_indexA (d : Tmp) (t : TypeId) (x y : Operand) : StOk P C σ (some d) (.indexAddr t x y) (stIndexA P σ d t x y) := by
  unfold stIndexA
  split
  · rename_i e _ _ _ sz es k n ht hx hy
    refine ok_pure fun hc ty pos af E σ' a w hr hg => ?_
    obtain ⟨h1, h2⟩ := mem_l hr
    obtain ⟨c1, c2, c3⟩ := hc
    obtain ⟨it, dt, _, hdt, _, _, _, hsl, _⟩ := tiOf_some ht
    have hsl : dt = .slice e := hsl rfl
    subst hsl
    have hse : (sizeOf e).run P w = .ok sz w := by
      cases hte : tiOf P e with
      | none => rw [hte] at c1; cases c1
      | some T => rw [hte] at c1; simp at c1; rw [sizeOf_run hte, c1]
    have hv := ev_ok hg x
    rw [ev_congr h1] at hv
    have hv := lstOf_ok hv hx
    generalize hav : a.eval x = v at hv
    cases hv with
    | nil => simp at c3; omega
    | lst _ _ b o cap f hcp hsz hm hrd =>
      have hlt : n.toNat < es.length := by omega
      refine ⟨.pointer (some ⟨b, o + n.toNat * sz, none⟩), ?_, ?_⟩
      · simp [execOp, hav, scOf_ok hy h2 hg, Instr.indexAt, asIntOf, run_underlying hdt, hse, addr_add, c2, c3]
      · have he : es.getD n.toNat [] = es[n.toNat] := by simp [List.getD_eq_getElem?_getD, hlt]
        rw [he]
        refine Rd.ep _ b _ (fun j => f n.toNat j) (fun j hj => ?_) (fun j hj => hrd _ _ hlt hj)
        rw [hsz _ hlt] at hj
        exact hm _ _ hlt hj
  · intro _ _ _ h; cases h

def boundOf (σ : St) : Option Operand → Option (Option Int)
  | none => some none
  | some x => match scOf σ x with | some (.int _ n) => some (some n) | _ => none
def bl : Option Operand → List Pl
  | none => []
  | some x => rdl x
theorem boundOf_ok {σ' : St} {o : Option Operand} {b : Option Int} (h : boundOf σ o = some b) (hr : ∀ l ∈ bl o, σ' l = σ l) (hg : Gm C E σ' a w) : ∃ k, o.map a.eval = b.map (Value.int k) := by
  cases o with
  | none => simp [boundOf] at h; subst h; exact ⟨.i64, rfl⟩
  | some x =>
    simp only [boundOf] at h
    split at h
    · rename_i k n hx
      cases h
      exact ⟨k, by simp [scOf_ok hx hr hg]⟩
    · cases h
theorem sliceBound_run {k : IntKind} {n : Int} {y : Nat} {c : BoundsCode} (h : 0 ≤ n ∧ n ≤ y) (w : World) : (Instr.sliceBound (.int k n) y c).run P w = .ok n.toNat w := by
  simp [Instr.sliceBound, asIntOf, h]
/-- Low and high bound of a slice expression. -/
def loOf (lo : Option Int) : Int := lo.getD 0
def hiOf (n : Nat) (hi : Option Int) : Int := hi.getD n
def mxOf (cap : Nat) : Option Int → Nat
  | some m => m.toNat
  | none => cap
theorem sliceBounds_run {b : Bool} {n cap : Nat} {k k' k'' : IntKind} {lo hi mx : Option Int} (hnc : n ≤ cap) (h0 : 0 ≤ loOf lo) (h1 : loOf lo ≤ hiOf n hi) (h2 : hiOf n hi ≤ n) (h3 : ∀ m, mx = some m → hi ≠ none ∧ hiOf n hi ≤ m ∧ m ≤ n) (w : World) :
    (Instr.sliceBounds b n cap (lo.map (.int k)) (hi.map (.int k')) (mx.map (.int k''))).run P w = .ok ((loOf lo).toNat, (hiOf n hi).toNat, mxOf cap mx) w := by
  unfold Instr.sliceBounds
  cases mx with
  | none =>
    cases hi with
    | none =>
      cases lo with
      | none => simp [mxOf, loOf, hiOf]
      | some l => simp only [loOf, hiOf, Option.getD_some, Option.getD_none] at h0 h1 h2; simp [mxOf, loOf, hiOf, sliceBound_run (P := P) (k := k) (n := l) (y := n) ⟨h0, h1⟩]
    | some h =>
      simp only [hiOf, Option.getD_some] at h1 h2
      have hh : ∀ c w, (Instr.sliceBound (.int k' h) cap c).run P w = .ok h.toNat w := fun c w => sliceBound_run ⟨by omega, by omega⟩ w
      cases lo with
      | none => simp [mxOf, loOf, hiOf, hh]
      | some l =>
        simp only [loOf, Option.getD_some] at h0 h1
        have hl : ∀ c w, (Instr.sliceBound (.int k l) h.toNat c).run P w = .ok l.toNat w := fun c w => sliceBound_run ⟨by omega, by omega⟩ w
        simp [mxOf, loOf, hiOf, hh, hl]
  | some m =>
    obtain ⟨h4, h5, h6⟩ := h3 m rfl
    cases hi with
    | none => exact absurd rfl h4
    | some h =>
      simp only [hiOf, Option.getD_some] at h1 h2 h5
      have hm : ∀ c w, (Instr.sliceBound (.int k'' m) cap c).run P w = .ok m.toNat w := fun c w => sliceBound_run ⟨by omega, by omega⟩ w
      have hh : ∀ c w, (Instr.sliceBound (.int k' h) m.toNat c).run P w = .ok h.toNat w := fun c w => sliceBound_run ⟨by omega, by omega⟩ w
      cases lo with
      | none => simp [mxOf, loOf, hiOf, hh, hm]
      | some l =>
        simp only [loOf, Option.getD_some] at h0 h1
        have hl : ∀ c w, (Instr.sliceBound (.int k l) h.toNat c).run P w = .ok l.toNat w := fun c w => sliceBound_run ⟨by omega, by omega⟩ w
        simp [mxOf, loOf, hiOf, hh, hl, hm]
def stSlice (P : Program) (σ : St) (d : Tmp) (t : TypeId) (x : Operand) (lo hi mx : Option Operand) : Stp :=
  match boundOf σ lo, boundOf σ hi, boundOf σ mx with
  | some l, some h, some m =>
    match tiOf P t, ev σ x with
    | some { sh := .str, .. }, .val (.sc (.string s)) => some (m = none ∧ 0 ≤ loOf l ∧ loOf l ≤ hiOf s.size h ∧ hiOf s.size h ≤ s.size, rdl x ++ (bl lo ++ (bl hi ++ bl mx)), [(.s d, .av (.val (.sc (.string (s.extract (loOf l).toNat (hiOf s.size h).toNat)))))])
    | some { sh := .slice, elem := e, .. }, y => match lstOf y with
      | some (sz, es) => some ((tiOf P e).map (·.size) = some sz ∧ 0 ≤ loOf l ∧ loOf l ≤ hiOf es.length h ∧ hiOf es.length h ≤ es.length ∧ (∀ q, m = some q → h ≠ none ∧ hiOf es.length h ≤ q ∧ q ≤ es.length), rdl x ++ (bl lo ++ (bl hi ++ bl mx)),
          [(.s d, .av (.val (.lst sz ((es.drop (loOf l).toNat).take ((hiOf es.length h).toNat - (loOf l).toNat)))))])
      | none => none
    | _, _ => none
  | _, _, _ => none
theorem ok_slice (d : Tmp) (t : TypeId) (x : Operand) (lo hi mx : Option Operand) : StOk P C σ (some d) (.slice t x lo hi mx) (stSlice P σ d t x lo hi mx) := by
  unfold stSlice
  split
  · rename_i l h m hl hh hm
    split
    · rename_i _ _ _ _ _ _ _ _ s ht hx
      refine ok_pure fun hc ty pos af E σ' a w hr hg => ?_
      obtain ⟨h1, h2⟩ := mem_l hr
      obtain ⟨h2, h3⟩ := mem_l h2
      obtain ⟨h3, h4⟩ := mem_l h3
      obtain ⟨rfl, c1, c2, c3⟩ := hc
      obtain ⟨k1, e1⟩ := boundOf_ok hl h2 hg
      obtain ⟨k2, e2⟩ := boundOf_ok hh h3 hg
      obtain ⟨k3, e3⟩ := boundOf_ok hm h4 hg
      obtain ⟨it, dt, _, hdt, _, _, _, _, _, hst, _⟩ := tiOf_some ht
      have hst : dt = .string := hst rfl
      subst hst
      have hs : a.eval x = .string s := scOf_ok (by unfold scOf; rw [hx]) h1 hg
      have hb := sliceBounds_run (P := P) (b := false) (n := s.size) (cap := s.size) (k := k1) (k' := k2) (k'' := k3) (lo := l) (hi := h) (mx := none) (Nat.le_refl _) c1 c2 c3 (fun m h => by cases h) w
      refine ⟨_, ?_, Rd.sc _⟩
      simp only [Option.map_none] at hb e3
      simp [execOp, hs, e1, e2, e3, Instr.sliceAt, Instr.slice, run_underlying hdt, hb]
    · rename_i _ _ _ _ e _ _ _ ht
      split
      · rename_i sz es hx
        refine ok_pure fun hc ty pos af E σ' a w hr hg => ?_
        obtain ⟨h1, h2⟩ := mem_l hr
        obtain ⟨h2, h3⟩ := mem_l h2
        obtain ⟨h3, h4⟩ := mem_l h3
        obtain ⟨c0, c1, c2, c3, c4⟩ := hc
        obtain ⟨k1, e1⟩ := boundOf_ok hl h2 hg
        obtain ⟨k2, e2⟩ := boundOf_ok hh h3 hg
        obtain ⟨k3, e3⟩ := boundOf_ok hm h4 hg
        obtain ⟨it, dt, _, hdt, _, _, _, hsl, _⟩ := tiOf_some ht
        have hsl : dt = .slice e := hsl rfl
        subst hsl
        have hse : (sizeOf e).run P w = .ok sz w := by
          cases hte : tiOf P e with
          | none => rw [hte] at c0; cases c0
          | some T => rw [hte] at c0; simp at c0; rw [sizeOf_run hte, c0]
        have hv := ev_ok hg x
        rw [ev_congr h1] at hv
        have hv := lstOf_ok hv hx
        obtain ⟨lz, hlz⟩ : ∃ z, z = (loOf l).toNat := ⟨_, rfl⟩
        obtain ⟨hz, hhz⟩ : ∃ z, z = (hiOf es.length h).toNat := ⟨_, rfl⟩
        rw [← hlz, ← hhz]
        have hle : lz ≤ hz := by omega
        have hhe : hz ≤ es.length := by omega
        generalize hav : a.eval x = v at hv
        cases hv with
        | nil _ A cap hA =>
          have hb := sliceBounds_run (P := P) (b := true) (n := 0) (cap := cap) (k := k1) (k' := k2) (k'' := k3) (lo := l) (hi := h) (mx := m) (Nat.zero_le _) c1 c2 c3 c4 w
          obtain ⟨mz, hmz⟩ : ∃ z, z = mxOf cap m := ⟨_, rfl⟩
          have hm0 : A = none → mz = 0 := fun h0 => by
            have := hA h0
            subst this
            cases m with
            | none => exact hmz
            | some q => have := c4 q rfl; simp at this; rw [hmz]; simp [mxOf]; omega
          simp only [List.length_nil] at hhz hhe
          have hz0 : hz = 0 := by omega
          have lz0 : lz = 0 := by omega
          rw [← hlz, ← hhz, ← hmz, hz0, lz0] at hb
          refine ⟨.slice (if mz = 0 then A else A.map (·.add 0)) 0 mz, ?_, by
            rw [hz0, lz0]
            refine Rd.nil sz _ _ fun h0 => hm0 ?_
            by_cases hq : mz = 0
            · rwa [if_pos hq] at h0
            · rw [if_neg hq] at h0; exact Option.map_eq_none_iff.1 h0⟩
          simp [execOp, hav, e1, e2, e3, Instr.sliceAt, Instr.slice, run_underlying hdt, hb, hse]
        | lst _ _ b o cap f hcp hsz hmm hrd =>
          have hb := sliceBounds_run (P := P) (b := true) (n := es.length) (cap := cap) (k := k1) (k' := k2) (k'' := k3) (lo := l) (hi := h) (mx := m) hcp c1 c2 c3 c4 w
          obtain ⟨mz, hmz⟩ : ∃ z, z = mxOf cap m := ⟨_, rfl⟩
          have hmge : hz ≤ mz := by
            cases m with
            | none => simp [mxOf] at hmz; omega
            | some q => have := (c4 q rfl).2; simp [mxOf] at hmz; omega
          rw [← hlz, ← hhz, ← hmz] at hb
          have hrun : ∀ A, (if mz = lz then (some (⟨b, o, none⟩ : Addr)) else (some (⟨b, o, none⟩ : Addr)).map (·.add (lz * sz))) = A → (execOp a.eval ⟨some d, .slice t x lo hi mx, ty, pos, af, none⟩).run P w = .ok (.value (.slice A (hz - lz) (mz - lz))) w := by
            intro A hA
            subst hA
            simp [execOp, hav, e1, e2, e3, Instr.sliceAt, Instr.slice, run_underlying hdt, hb, hse]
          have hlen : ((es.drop lz).take (hz - lz)).length = hz - lz := by simp; omega
          by_cases hml : mz = lz
          · have hzl : hz - lz = 0 := by omega
            have hnil : (es.drop lz).take (hz - lz) = [] := by rw [hzl]; rfl
            refine ⟨_, hrun _ (if_pos hml), ?_⟩
            have e0 : mz - lz = 0 := by omega
            rw [hnil, hzl, e0]
            exact Rd.lst sz [] b o 0 f (Nat.le_refl _) (fun i h => by simp at h) (fun i j h => by simp at h) (fun i j h => by simp at h)
          · refine ⟨_, hrun _ (if_neg hml), ?_⟩
            have hR := Rd.lst sz ((es.drop lz).take (hz - lz)) b (o + lz * sz) (mz - lz) (fun i j => f (lz + i) j) (m := E.m) (by rw [hlen]; omega) (fun i hi => by
                simp only [List.getElem_take, List.getElem_drop]; exact hsz _ _) (fun i j hi hj => by
                  rw [hlen] at hi
                  have := hmm (lz + i) j (by omega) hj
                  rwa [Nat.add_mul, ← Nat.add_assoc] at this) (fun i j hi hj => by
                  simp only [List.getElem_take, List.getElem_drop] at hj ⊢
                  exact hrd _ _ _ hj)
            rw [hlen] at hR
            show Rd E.m _ (.slice ((some (⟨b, o, none⟩ : Addr)).map (·.add (lz * sz))) (hz - lz) (mz - lz))
            simpa [addr_add] using hR
      · intro _ _ _ h; cases h
    · intro _ _ _ h; cases h
  · intro _ _ _ h; cases h

/-- A pointer that is none is not nil. -/
def stNil (σ : St) (d : Tmp) (x : Operand) : Stp :=
  match ev σ x with
  | .ptr o g i => some (gg σ o = g, rdl x ++ [.g o], [(.s d, .av (.ptr o g i))])
  | .val (.ep xs) => some (True, rdl x, [(.s d, .av (.val (.ep xs)))])
  | _ => none
theorem ok_nil (d : Tmp) (x : Operand) : StOk P C σ (some d) (.nilCheck x) (stNil σ d x) := by
  unfold stNil
  split
  · rename_i o g i hx
    refine ok_pure fun hc ty pos af E σ' a w hr hg => ?_
    obtain ⟨h1, h2⟩ := mem_l hr
    have h3 := ev_ok hg x
    rw [ev_congr h1, hx] at h3
    have h4 := h3.2 (by rw [gg_of (h2 (.g o) (by simp))]; exact hc.symm)
    exact ⟨_, by simp [execOp, h4], h3.1, fun _ => rfl⟩
  · rename_i xs hx
    refine ok_pure fun hc ty pos af E σ' a w hr hg => ?_
    have h3 := ev_ok hg x
    rw [ev_congr hr, hx] at h3
    have h3 : Rd E.m (.ep xs) (a.eval x) := h3
    generalize hv : a.eval x = v at h3
    cases h3 with
    | ep _ b i f hm hrd => exact ⟨.pointer (some ⟨b, i, none⟩), by simp [execOp, hv], Rd.ep _ b i f hm hrd⟩
  · intro _ _ _ h; cases h

/-! ### bytes as a text -/
theorem fold_bytes (l : List UInt8) (s : List UInt8) : (l.map fun b => (b.toNat : Int)).foldl (fun r n => r.push (UInt8.ofNat n.toNat)) (⟨s.toArray⟩ : ByteArray) = ⟨(s ++ l).toArray⟩ := by
  induction l generalizing s with
  | nil => simp
  | cons b l ih =>
    have e : (ByteArray.push ⟨s.toArray⟩ (UInt8.ofNat ((b.toNat : Int)).toNat)) = (⟨(s ++ [b]).toArray⟩ : ByteArray) := by
      simp [ByteArray.push]
    rw [List.map_cons, List.foldl_cons, e, ih]
    simp
theorem ok_convBS {d : Tmp} {s t : TypeId} {x : Operand} {l : List UInt8} (h : elsOf (ev σ x) = some (l.map byteEl)) (hl : isSliceA (ev σ x) = true) :
    StOk P C σ (some d) (.convert s t x) (some (((tiOf P s).map (·.sh) = some .slice ∧ ((tiOf P s).bind fun T => tiOf P T.elem).map (·.sh) = some (.int .u8) ∧ (tiOf P t).map (·.sh) = some .str), rdl x, [(.s d, .av (.val (.sc (str l))))])) := by
  refine ok_pure fun hc ty pos af E σ' a w hr hg => ⟨_, ?_, Rd.sc _⟩
  obtain ⟨c1, c2, c3⟩ := hc
  cases hs : tiOf P s with
  | none => rw [hs] at c1; cases c1
  | some T =>
    rw [hs] at c1 c2
    simp at c1 c2
    obtain ⟨it, dt, _, hdt, _, _, _, hsl, _⟩ := tiOf_some hs
    have hsl := hsl c1
    subst hsl
    have hel : P.underlying T.elem = some (.int .u8) := by
      obtain ⟨U, hU, hsh⟩ := c2
      obtain ⟨iu, du, _, hdu, _, _, _, _, _, _, hk, _⟩ := tiOf_some hU
      rw [hdu, hk _ hsh]
    have hv := ev_ok hg x
    rw [ev_congr hr] at hv
    have key : (∃ A n c, a.eval x = .slice A n c) ∧ (Conv.bytesToString (a.eval x)).run P w = .ok (str l) w := by
      have hlst : ∀ sz, Rd E.m (.lst sz (l.map byteEl)) (a.eval x) → (∃ A n c, a.eval x = .slice A n c) ∧ (Conv.bytesToString (a.eval x)).run P w = .ok (str l) w := by
        intro sz h1
        obtain ⟨A, cap, h2, h3, h4, h5, xs, h6, h7, h8⟩ := rd_cells h1
        rw [h2]
        refine ⟨⟨_, _, _, rfl⟩, ?_⟩
        cases A with
        | none =>
          have hn : l = [] := by
            have := h4 rfl
            simp at h3
            exact List.eq_nil_of_length_eq_zero (by omega)
          subst hn
          simp [Conv.bytesToString]; rfl
        | some A =>
          have hxs : xs = l.map fun b => Value.int .u8 b.toNat := by
            apply List.ext_getElem?
            intro i
            by_cases hi : i < l.length
            · have hsz : sz = 1 := by have := h5 i (by simpa using hi); simp [byteEl] at this; exact this.symm
              subst hsz
              obtain ⟨u, hu, hru⟩ := h7 i 0 (by simpa using hi) (by simp [byteEl])
              simp at hu
              have he : ((l.map byteEl)[i]'(by simpa using hi))[0]'(by simp [byteEl]) = V.sc (.int .u8 (l[i]).toNat) := by simp [byteEl]
              rw [he] at hru
              rw [hu, Rd.sc_eq hru]
              simp [hi]
            · have hl0 : xs.length ≤ i := by
                rw [h6]
                by_cases hz : l = []
                · subst hz; simp
                · have hsz : sz = 1 := by have := h5 0 (by simpa using List.length_pos_iff.2 hz); simp [byteEl] at this; exact this.symm
                  subst hsz; simp; omega
              rw [List.getElem?_eq_none hl0, List.getElem?_eq_none (by simpa using Nat.le_of_not_lt hi)]
          have hll : xs.length = l.length := by rw [hxs]; simp
          have hload := run_loadCells_list (P := P) w A xs (fun j v hj => by
            obtain ⟨b, o, q1, q2⟩ := h8 j v hj
            cases q1
            rw [addr_add]; exact hg.ms _ _ _ q2)
          rw [hll] at hload
          rw [List.length_map]
          rw [run_bytesToString w _ _ _ (l.map fun b => (b.toNat : Int)) (by rw [hload, hxs, List.map_map]; rfl)]
          have := fold_bytes l []
          rw [List.nil_append] at this
          exact congrArg (fun s => Result.ok (Value.string s) w) this
      cases hy : ev σ x with
      | ptr => rw [hy] at h; simp [elsOf] at h
      | ref => rw [hy] at h; simp [elsOf] at h
      | elp => rw [hy] at h; simp [elsOf] at h
      | ag => rw [hy] at h; simp [elsOf] at h
      | fn => rw [hy] at h; simp [elsOf] at h
      | own k g e sz es => rw [hy] at h hv; simp [elsOf] at h; subst h; exact hlst sz hv.1
      | val y =>
        rw [hy] at h hv hl
        have hv : Rd E.m y (a.eval x) := hv
        cases y with
        | lst sz es => simp [elsOf] at h; subst h; exact hlst sz hv
        | sc u =>
          cases u with
          | string q => simp [isSliceA] at hl
          | slice A n c =>
            cases A with
            | some A => simp [elsOf] at h
            | none =>
              cases n with
              | succ n => simp [elsOf] at h
              | zero =>
                cases c with
                | succ c => simp [elsOf] at h
                | zero =>
                  simp [elsOf] at h
                  have hu := Rd.sc_eq hv
                  rw [h, hu]
                  refine ⟨⟨_, _, _, rfl⟩, ?_⟩
                  simp [Conv.bytesToString]; rfl
          | _ => simp [elsOf] at h
        | _ => simp [elsOf] at h
    obtain ⟨⟨A, n, c, hA⟩, key⟩ := key
    rw [hA] at key
    simp [execOp, hA, convert, run_underlying hdt, run_underlying hel, run_underlying (sh_str c3), key]

/-! ### builtins -/
def lenV : AV → Option (Sh × Int)
  | .val (.lst _ es) | .own _ _ _ _ es => some (.slice, es.length)
  | .val (.sc (.slice none 0 0)) => some (.slice, 0)
  | .val (.sc (.string s)) => some (.str, s.size)
  | _ => none
def stLen (P : Program) (σ : St) (d : Tmp) (t : TypeId) (x : Operand) : Stp :=
  match lenV (ev σ x) with
  | some (s, n) => some ((tiOf P t).map (·.sh) = some s, rdl x, [(.s d, .av (.val (.sc (.int .i64 n))))])
  | none => none
theorem ok_len (d : Tmp) (t : TypeId) (x : Operand) : StOk P C σ (some d) (.call { callee := .builtin .len, args := #[x], argTypes := #[t] }) (stLen P σ d t x) := by
  unfold stLen
  split
  · rename_i s n hx
    refine ok_pure fun hc ty pos af E σ' a w hr hg => ⟨_, ?_, Rd.sc _⟩
    have hv := ev_ok hg x
    rw [ev_congr hr] at hv
    have hlst : ∀ sz es, Rd E.m (.lst sz es) (a.eval x) → s = .slice → n = es.length → (execOp a.eval ⟨some d, .call { callee := .builtin .len, args := #[x], argTypes := #[t] }, ty, pos, af, none⟩).run P w = .ok (.value (.int .i64 n)) w := by
      intro sz es h1 h2 h3
      subst h2
      subst h3
      obtain ⟨e, he⟩ := sh_slice hc
      obtain ⟨A, cap, h4, _⟩ := rd_cells h1
      simp [execOp, resolve, invoke, builtin, h4, Builtin.len_, run_underlying he, goInt]
    cases hy : ev σ x with
    | ptr => rw [hy] at hx; simp [lenV] at hx
    | ref => rw [hy] at hx; simp [lenV] at hx
    | elp => rw [hy] at hx; simp [lenV] at hx
    | ag => rw [hy] at hx; simp [lenV] at hx
    | fn => rw [hy] at hx; simp [lenV] at hx
    | own k g e sz es => rw [hy] at hx hv; simp [lenV] at hx; exact hlst _ _ hv.1 hx.1.symm hx.2.symm
    | val y =>
      rw [hy] at hx hv
      have hv : Rd E.m y (a.eval x) := hv
      cases y with
      | lst sz es => simp [lenV] at hx; exact hlst _ _ hv hx.1.symm hx.2.symm
      | sc u =>
        have hu := Rd.sc_eq hv
        cases u with
        | string q =>
          simp [lenV] at hx
          obtain ⟨rfl, rfl⟩ := hx
          simp [execOp, resolve, invoke, builtin, hu, Builtin.len_, run_underlying (sh_str hc), goInt]
        | slice A n' c =>
          cases A with
          | some A => simp [lenV] at hx
          | none =>
            cases n' with
            | succ n => simp [lenV] at hx
            | zero =>
              cases c with
              | succ c => simp [lenV] at hx
              | zero => simp [lenV] at hx; exact hlst 1 [] (by rw [hu]; exact Rd.nil0 1) hx.1.symm hx.2.symm
        | _ => simp [lenV] at hx
      | _ => simp [lenV] at hx
  · intro _ _ _ h; cases h
def stMM (σ : St) (d : Tmp) (mx : Bool) (x y : Operand) : Stp :=
  match scOf σ x, scOf σ y with
  | some (.int k m), some (.int _ n) => some (True, rdl x ++ rdl y, [(.s d, .av (.val (.sc (.int k (if mx then max m n else min m n)))))])
  | _, _ => none
theorem ok_max (d : Tmp) (t t' : TypeId) (x y : Operand) : StOk P C σ (some d) (.call { callee := .builtin .max, args := #[x, y], argTypes := #[t, t'] }) (stMM σ d true x y) := by
  unfold stMM
  split
  · rename_i k m k' n hx hy
    refine ok_pure fun hc ty pos af E σ' a w hr hg => ⟨_, ?_, Rd.sc _⟩
    obtain ⟨h1, h2⟩ := mem_l hr
    have he : (if n > m then n else m) = max m n := by rw [Int.max_def]; split <;> split <;> omega
    simp [execOp, resolve, invoke, builtin, scOf_ok hx h1 hg, scOf_ok hy h2 hg, Builtin.max_, Builtin.max2, he]
  · intro _ _ _ h; cases h
theorem ok_min (d : Tmp) (t t' : TypeId) (x y : Operand) : StOk P C σ (some d) (.call { callee := .builtin .min, args := #[x, y], argTypes := #[t, t'] }) (stMM σ d false x y) := by
  unfold stMM
  split
  · rename_i k m k' n hx hy
    refine ok_pure fun hc ty pos af E σ' a w hr hg => ⟨_, ?_, Rd.sc _⟩
    obtain ⟨h1, h2⟩ := mem_l hr
    have he : (if n < m then n else m) = min m n := by rw [Int.min_def]; split <;> split <;> omega
    simp [execOp, resolve, invoke, builtin, scOf_ok hx h1 hg, scOf_ok hy h2 hg, Builtin.min_, Builtin.min2, he]
  · intro _ _ _ h; cases h
end
end Go.Proofs.YtojcjbaimdjhoaaGreatDoor
