/- Calls of functions that only read: all that is known, also what changes, is lent as it stands. -/
import Derived.Test.YtkclmofjlmeolaaGreatDoorRLz
import Derived.Test.YtkclmofjlmeolaaGreatDoorTiz
namespace Go.Proofs.YtkclmofjlmeolaaGreatDoor
open Go.RowKit
set_option linter.unusedVariables false
set_option linter.unusedSimpArgs false

mutual
theorem subF_refl : ∀ x : V, SubF x x
  | .agg xs => by simpa [SubF] using subsF_refl xs
  | .tup xs => by simpa [SubF] using subsF_refl xs
  | .ifc t x => by simpa [SubF] using subF_refl x
  | .sc u => by cases u <;> simp [SubF]
  | .lst s es => by simp [SubF]
  | .ep xs => by simp [SubF]
  | .any => by simp [SubF]
theorem subsF_refl : ∀ xs : List V, SubsF xs xs
  | [] => trivial
  | x :: xs => ⟨subF_refl x, subsF_refl xs⟩
end
theorem subsF_self (xs : List V) : SubsF xs xs = True := eq_true (subsF_refl xs)
theorem subF_self (x : V) : SubF x x = True := eq_true (subF_refl x)
attribute [go_sem] subsF_self subF_self
/-- Without memory. -/
def flat0 : V → Prop
  | .sc _ | .any => True
  | _ => False
def flatL0 : List V → Prop
  | [] => True
  | x :: xs => flat0 x ∧ flatL0 xs
def flat1 : V → Prop
  | .agg xs | .tup xs => flatL0 xs
  | x => flat0 x
def flatL1 : List V → Prop
  | [] => True
  | x :: xs => flat1 x ∧ flatL1 xs
def flat2 : V → Prop
  | .agg xs | .tup xs => flatL1 xs
  | x => flat0 x
theorem flat0_ok {m m' : Mem} {x : V} {v : Value} (hf : flat0 x) (h : Rd m x v) : Rd m' x v := by
  cases h <;> first | exact Rd.sc _ | exact Rd.any _ | exact hf.elim
theorem flatL0_ok {m m' : Mem} : ∀ {xs : List V}, flatL0 xs → ∀ i (h : i < xs.length) v, Rd m xs[i] v → Rd m' xs[i] v
  | x :: xs, hf, 0, _, v, hr => flat0_ok hf.1 hr
  | x :: xs, hf, i + 1, h, v, hr => flatL0_ok (xs := xs) hf.2 i (by simpa using h) v hr
theorem flat1_ok {m m' : Mem} {x : V} {v : Value} (hf : flat1 x) (h : Rd m x v) : Rd m' x v := by
  cases h with
  | agg xs ys hl h => exact .agg xs ys hl fun i hi => flatL0_ok hf i hi _ (h i hi)
  | tup xs ys hl h => exact .tup xs ys hl fun i hi => flatL0_ok hf i hi _ (h i hi)
  | sc => exact Rd.sc _
  | any => exact Rd.any _
  | _ => exact hf.elim
theorem flatL1_ok {m m' : Mem} : ∀ {xs : List V}, flatL1 xs → ∀ i (h : i < xs.length) v, Rd m xs[i] v → Rd m' xs[i] v
  | x :: xs, hf, 0, _, v, hr => flat1_ok hf.1 hr
  | x :: xs, hf, i + 1, h, v, hr => flatL1_ok (xs := xs) hf.2 i (by simpa using h) v hr
theorem flat2_ok {m m' : Mem} {x : V} {v : Value} (hf : flat2 x) (h : Rd m x v) : Rd m' x v := by
  cases h with
  | agg xs ys hl h => exact .agg xs ys hl fun i hi => flatL1_ok hf i hi _ (h i hi)
  | tup xs ys hl h => exact .tup xs ys hl fun i hi => flatL1_ok hf i hi _ (h i hi)
  | sc => exact Rd.sc _
  | any => exact Rd.any _
  | _ => exact hf.elim

theorem flatT_get {α : Type} {sz : Nat} : ∀ {es : List (List α)}, (∀ r ∈ es, r.length = sz) → es.flatten.length = es.length * sz ∧ ∀ i j (hi : i < es.length), j < sz → es.flatten[i * sz + j]? = (es[i])[j]?
  | [], _ => ⟨by simp, fun i j hi => by simp at hi⟩
  | r :: es, h => by
    obtain ⟨h1, h2⟩ := flatT_get (es := es) fun r hr => h r (List.mem_cons_of_mem _ hr)
    have hr := h r (List.mem_cons_self ..)
    refine ⟨by rw [List.flatten_cons, List.length_append, h1, hr, List.length_cons, Nat.add_mul]; omega, fun i j hi hj => ?_⟩
    rw [List.flatten_cons]
    cases i with
    | zero => rw [List.getElem?_append_left (by omega)]; simp
    | succ i =>
      rw [List.getElem?_append_right (by rw [hr, Nat.add_mul]; omega), hr]
      have := h2 i j (by simpa using hi) hj
      rw [show (i + 1) * sz + j - sz = i * sz + j by rw [Nat.add_mul]; omega]
      simpa using this
/-- What is owned whole, as it stands, read. -/
def treeV : Nat → T → V
  | 0, _ => .any
  | _ + 1, .av x => x
  | n + 1, .box xs => .ep (xs.map (treeV n))
  | n + 1, .row _ sz es => .lst sz (es.map (·.map (treeV n)))
  | _ + 1, .rw _ sz es => .lst sz es
  | _ + 1, .mp _ => .any
  | _ + 1, .pm _ => .any
  | _ + 1, .bag _ => .any
theorem hg_rd {m m2 : Mem} {w : World} (hm : m.le m2) (hw : ∀ b i v, w.cell? ⟨b, i, none⟩ = some v → m2 b i = some v) {xs : List T} {vs : List Value} {F : List Nat} (h : Hg m w xs vs F) :
    ∀ (i : Nat) (x : T) (v : Value), xs[i]? = some x → vs[i]? = some v → ∀ n, Rd m2 (treeV n x) v := by
  induction h with
  | nil => intro i x v h; simp at h
  | av hr hs ih =>
    intro i x v h1 h2 n
    cases i with
    | succ i => exact ih i x v (by simpa using h1) (by simpa using h2) n
    | zero =>
      simp at h1 h2
      subst h1 h2
      cases n with
      | zero => exact Rd.any _
      | succ n => exact hr.mono hm
  | @box ys xs b us ty F vs F' hb hm0 hg hs h1 h2 h3 ih ih' =>
    intro i x v q1 q2 n
    cases i with
    | succ i => exact ih' i x v (by simpa using q1) (by simpa using q2) n
    | zero =>
      simp at q1 q2
      subst q1 q2
      cases n with
      | zero => exact Rd.any _
      | succ n =>
        have hl := hg.len
        refine Rd.ep _ b 0 (fun j => us.getD j undef) (fun j hj => ?_) (fun j hj => ?_)
        · have hj2 : j < us.length := by simpa [hl] using hj
          rw [Nat.zero_add]
          apply hw
          rw [cell_of_row _ _ _ _ _ _ hb]
          simp [List.getD_eq_getElem?_getD, hj2]
        · have hj1 : j < ys.length := by simpa using hj
          have hj2 : j < us.length := by omega
          rw [List.getElem_map]
          have := ih j ys[j] us[j] (by simp [hj1]) (by simp [hj2]) n
          simpa [List.getD_eq_getElem?_getD, hj2] using this
  | @row e sz es xs v0 us F vs F' ho hz hm0 hg hs h3 ih ih' =>
    intro i x v q1 q2 n
    cases i with
    | succ i => exact ih' i x v (by simpa using q1) (by simpa using q2) n
    | zero =>
      simp at q1 q2
      subst q1 q2
      cases n with
      | zero => exact Rd.any _
      | succ n =>
        have hl := hg.len
        refine rd_row ho (by simp) (fun i hi => by rw [List.getElem_map, List.length_map]; exact hz _ (List.getElem_mem _)) (fun b i u h1 h2 => ?_) (fun i j hi hj => ?_)
        · have := ho.cells (g := b) h1 i u h2
          rw [addr_add, Nat.zero_add] at this
          exact hw _ _ _ this
        · have hi1 : i < es.length := by simpa using hi
          have hj1 : j < es[i].length := by simpa using hj
          have hjs : j < sz := by rw [← hz _ (List.getElem_mem hi1)]; exact hj1
          obtain ⟨f1, f2⟩ := flatT_get hz
          have hlt : i * sz + j < es.flatten.length := by
            rw [f1]
            have : (i + 1) * sz ≤ es.length * sz := Nat.mul_le_mul_right _ hi1
            rw [Nat.add_mul] at this; omega
          have hlu : i * sz + j < us.length := by omega
          have hx := f2 i j hi1 hjs
          refine ⟨us[i * sz + j], by simp [hlu], ?_⟩
          have := ih (i * sz + j) (es[i][j]) us[i * sz + j] (by rw [hx]; simp [hj1]) (by simp [hlu]) n
          simpa using this
  | @rw e sz es xs v0 us vs F' ho hz hr hm0 hs ih =>
    intro i x v q1 q2 n
    cases i with
    | succ i => exact ih i x v (by simpa using q1) (by simpa using q2) n
    | zero =>
      simp at q1 q2
      subst q1 q2
      cases n with
      | zero => exact Rd.any _
      | succ n =>
        refine rd_row ho rfl (fun i hi => hz _ (List.getElem_mem _)) (fun b i u h1 h2 => ?_) (fun i j hi hj => ?_)
        · have := ho.cells (g := b) h1 i u h2
          rw [addr_add, Nat.zero_add] at this
          exact hw _ _ _ this
        · have hjs : j < sz := by rw [← hz _ (List.getElem_mem hi)]; exact hj
          obtain ⟨f1, f2⟩ := flat_get hz
          have hlt : i * sz + j < es.flatten.length := by
            rw [f1]
            have : (i + 1) * sz ≤ es.length * sz := Nat.mul_le_mul_right _ hi
            rw [Nat.add_mul] at this; omega
          have hlu : i * sz + j < us.length := by rw [hr.1]; exact hlt
          have hx := f2 i j hi hjs
          refine ⟨us[i * sz + j], by simp [hlu], ?_⟩
          have := hr.2 (i * sz + j) hlt hlu
          have he : es.flatten[i * sz + j] = es[i][j] := by
            have h5 : es.flatten[i * sz + j]? = some es.flatten[i * sz + j] := List.getElem?_eq_getElem hlt
            rw [hx] at h5
            simpa [hj] using h5.symm
          rw [he] at this
          exact this.mono hm
  | mp hb hm0 hk hk2 hn hc hg hs h1 h2 h3 ih ih' =>
    intro i x v q1 q2 n
    cases i with
    | succ i => exact ih' i x v (by simpa using q1) (by simpa using q2) n
    | zero =>
      simp at q1 q2
      subst q1 q2
      cases n with
      | zero => exact Rd.any _
      | succ n => exact Rd.any _
  | pm hp h hs h3 ih ih' =>
    intro i x v q1 q2 n
    cases i with
    | succ i => exact ih' i x v (by simpa using q1) (by simpa using q2) n
    | zero =>
      simp at q1 q2
      subst q1 q2
      cases n with
      | zero => exact Rd.any _
      | succ n => exact Rd.any _
  | bag h hs h3 ih ih' =>
    intro i x v q1 q2 n
    cases i with
    | succ i => exact ih' i x v (by simpa using q1) (by simpa using q2) n
    | zero =>
      simp at q1 q2
      subst q1 q2
      cases n with
      | zero => exact Rd.any _
      | succ n => exact Rd.any _

/-- What is known of a value, lent to a function that only reads. -/
def pV (σ : St) : AV → V
  | .ref k g => match σ (.r k) with | .tree x => treeV 4 x | _ => .any
  | x => plain x
def refL : AV → List Pl
  | .ref k _ => [.h k, .r k]
  | _ => []
def refC (σ : St) : AV → Prop
  | .ref k g => gh σ k = g
  | _ => True
def cellsPV (σ : St) (o : Id) : Nat → Nat → List V
  | _, 0 => []
  | i, n + 1 => pV σ (cellAV σ o i) :: cellsPV σ o (i + 1) n
def cellsRL (σ : St) (o : Id) : Nat → Nat → List Pl
  | _, 0 => []
  | i, n + 1 => .c o i :: (refL (cellAV σ o i) ++ cellsRL σ o (i + 1) n)
def cellsRC (σ : St) (o : Id) : Nat → Nat → Prop
  | _, 0 => True
  | i, n + 1 => refC σ (cellAV σ o i) ∧ cellsRC σ o (i + 1) n
def numOf : X → Option Nat
  | .num n => some n
  | _ => none
def pureV (σ : St) : AV → V
  | .ptr o g off => match numOf (σ (.o o)) with | some n => .ep (cellsPV σ o off (n - off)) | none => .any
  | x => pV σ x
def pureC (σ : St) : AV → Prop
  | .ptr o g off => gg σ o = g ∧ match numOf (σ (.o o)) with | some n => cellsRC σ o off (n - off) | none => True
  | x => refC σ x
def pureL (σ : St) : AV → List Pl
  | .ptr o g off => [.g o, .o o] ++ match numOf (σ (.o o)) with | some n => cellsRL σ o off (n - off) | none => []
  | x => refL x
def pFCs (σ : St) : List AV → List FC → Prop
  | [], [] => True
  | x :: xs, .val y :: cs => pureC σ x ∧ SubF (pureV σ x) y ∧ pFCs σ xs cs
  | _, _ => False
def pFL (σ : St) : List AV → List Pl
  | [] => []
  | x :: xs => pureL σ x ++ pFL σ xs
def pArg (σ : St) : AV → Arg → Prop
  | .fn K zs, .fn K' cs => K = K' ∧ pFCs σ zs cs
  | .val (.sc (.func (.func K) a b)), .fn K' [] => K = K' ∧ a = #[] ∧ b = #[]
  | x, .ca (.val y) => pureC σ x ∧ SubF (pureV σ x) y
  | _, _ => False
def pArgL (σ : St) : AV → List Pl
  | .fn K zs => pFL σ zs
  | x => pureL σ x
def pArgs (σ : St) : List AV → List Arg → Prop
  | [], [] => True
  | x :: xs, a :: as' => pArg σ x a ∧ pArgs σ xs as'
  | _, _ => False
def pArgsL (σ : St) : List AV → List Pl
  | [] => []
  | x :: xs => pArgL σ x ++ pArgsL σ xs
attribute [go_sem] flat0 flatL0 flat1 flatL1 flat2 pV refL refC cellsPV cellsRL cellsRC numOf pureV pureC pureL pFCs pFL pArg pArgL pArgs pArgsL treeV List.map_cons List.map_nil
section
variable {P : Program} {ops : Array Oper} {C : Ctx} {E : Env} {σ σ' : St} {a : Act} {w : World} {md : Bool} {K : St → List FP → Prop} {acc : List FP} {rest : List Oper} {Q : Exit → St → Prop}
theorem refC_congr {x : AV} (h : ∀ l ∈ refL x, σ' l = σ l) : (refC σ' x ↔ refC σ x) ∧ pV σ' x = pV σ x := by
  cases x with
  | ref k g =>
    have h1 := h (.h k) (by simp [refL])
    have h2 := h (.r k) (by simp [refL])
    exact ⟨by simp only [refC, gh_of h1], by simp only [pV, h2]⟩
  | _ => exact ⟨Iff.rfl, rfl⟩
theorem cellsR_congr (o : Id) : ∀ (n i : Nat), (∀ l ∈ cellsRL σ o i n, σ' l = σ l) → (cellsRC σ' o i n ↔ cellsRC σ o i n) ∧ cellsPV σ' o i n = cellsPV σ o i n
  | 0, _, _ => ⟨Iff.rfl, rfl⟩
  | n + 1, i, h => by
    have h0 : cellAV σ' o i = cellAV σ o i := cellAV_congr (h _ (by simp [cellsRL]))
    obtain ⟨h1, h2⟩ := refC_congr (σ := σ) (σ' := σ') (x := cellAV σ o i) fun l hl => h l (by simp [cellsRL, hl])
    obtain ⟨h3, h4⟩ := cellsR_congr o n (i + 1) fun l hl => h l (by simp [cellsRL, hl])
    exact ⟨by unfold cellsRC; rw [h0, h1, h3], by unfold cellsPV; rw [h0, h2, h4]⟩
theorem pure_congr {x : AV} (h : ∀ l ∈ pureL σ x, σ' l = σ l) : (pureC σ' x ↔ pureC σ x) ∧ pureV σ' x = pureV σ x := by
  cases x with
  | ptr o g off =>
    have h1 := h (.g o) (by simp [pureL])
    have h2 := h (.o o) (by simp [pureL])
    have hg := gg_of h1
    cases hn : numOf (σ (.o o)) with
    | none => exact ⟨by simp only [pureC, hg, h2, hn], by simp only [pureV, h2, hn]⟩
    | some n =>
      obtain ⟨h3, h4⟩ := cellsR_congr (σ := σ) (σ' := σ') o (n - off) off fun l hl => h l (by simp [pureL, hn, hl])
      exact ⟨by simp only [pureC, hg, h2, hn, h3], by simp only [pureV, h2, hn, h4]⟩
  | val x => exact refC_congr (x := .val x) h
  | own k g e sz es => exact refC_congr (x := .own k g e sz es) h
  | ref k g => exact refC_congr (x := .ref k g) h
  | elp k g sz i off => exact refC_congr (x := .elp k g sz i off) h
  | vw k g sz off len => exact refC_congr (x := .vw k g sz off len) h
  | cp k g c => exact refC_congr (x := .cp k g c) h
  | pv u o g => exact refC_congr (x := .pv u o g) h
  | nv u k g => exact refC_congr (x := .nv u k g) h
  | ag xs => exact refC_congr (x := .ag xs) h
  | fn K xs => exact refC_congr (x := .fn K xs) h
theorem pFCs_congr : ∀ {xs : List AV} {cs : List FC}, (∀ l ∈ pFL σ xs, σ' l = σ l) → pFCs σ xs cs → pFCs σ' xs cs
  | [], [], _, h => h
  | x :: xs, .val y :: cs, hl, h => by
    obtain ⟨h1, h2⟩ := pure_congr (σ := σ) (σ' := σ') (x := x) fun l q => hl l (List.mem_append_left _ q)
    exact ⟨h1.2 h.1, by rw [h2]; exact h.2.1, pFCs_congr (fun l q => hl l (List.mem_append_right _ q)) h.2.2⟩
  | [], _ :: _, _, h => h.elim
  | _ :: _, [], _, h => h.elim
  | _ :: _, .ptr _ _ :: _, _, h => h.elim
theorem cell_pV (hg : Gm C E σ a w) {x : AV} {v : Value} (h : RdA E σ x v) (hc : refC σ x) : Rd (cellsOf w) (pV σ x) v := by
  have hm : E.m.le (cellsOf w) := fun b i u hu => hg.ms b i u hu
  cases x with
  | ref k g =>
    show Rd (cellsOf w) (match σ (.r k) with | .tree x => treeV 4 x | _ => .any) v
    cases hx : σ (.r k) with
    | tree x =>
      obtain ⟨h1, _⟩ := hg.tr.hg k x hx
      have hv : v = E.bv k := h.2 hc.symm
      subst hv
      exact hg_rd (m2 := cellsOf w) hm (fun b i u hu => hu) h1 0 x _ rfl rfl 4
    | _ => exact Rd.any _
  | _ => exact (plain_ok h).mono hm
theorem cellsPV_length (σ : St) (o : Id) : ∀ (n i : Nat), (cellsPV σ o i n).length = n
  | 0, _ => rfl
  | n + 1, i => by simp [cellsPV, cellsPV_length σ o n]
theorem cellsPV_get (σ : St) (o : Id) : ∀ (n i j : Nat) (h : j < (cellsPV σ o i n).length), (cellsPV σ o i n)[j] = pV σ (cellAV σ o (i + j))
  | n + 1, i, 0, h => rfl
  | n + 1, i, j + 1, h => by
    show (cellsPV σ o (i + 1) n)[j]'_ = _
    rw [cellsPV_get σ o n (i + 1) j, show i + (j + 1) = i + 1 + j by omega]
theorem cellsRC_get : ∀ {o : Id} {n i : Nat}, cellsRC σ o i n → ∀ j, j < n → refC σ (cellAV σ o (i + j))
  | o, n + 1, i, h, 0, _ => h.1
  | o, n + 1, i, h, j + 1, hj => by
    have := cellsRC_get h.2 j (by omega)
    rwa [show i + (j + 1) = i + 1 + j by omega]
theorem pureV_ok (hg : Gm C E σ a w) {x : AV} {v : Value} (h : RdA E σ x v) (hc : pureC σ x) : Rd (cellsOf w) (pureV σ x) v := by
  cases x with
  | ptr o g off =>
    obtain ⟨c1, c2⟩ := hc
    show Rd (cellsOf w) (match numOf (σ (.o o)) with | some n => .ep (cellsPV σ o off (n - off)) | none => .any) v
    cases hn : numOf (σ (.o o)) with
    | none => exact Rd.any _
    | some n =>
      rw [hn] at c2
      dsimp only at c2
      show Rd (cellsOf w) (.ep (cellsPV σ o off (n - off))) v
      have ho : σ (.o o) = .num n := by
        cases hx : σ (.o o) <;> rw [hx] at hn <;> simp [numOf] at hn
        rw [hn]
      have hv : v = .pointer (some ⟨E.loc o, off, none⟩) := h.2 c1.symm
      subst hv
      have key : ∀ j, j < n - off → ∃ u, w.cell? ⟨E.loc o, off + j, none⟩ = some u ∧ RdA E σ (cellAV σ o (off + j)) u := fun j hj => cellAV_ok hg ho (by omega)
      refine Rd.ep _ _ _ (fun j => if hj : j < n - off then (key j hj).choose else undef) (fun j hj => ?_) (fun j hj => ?_)
      · rw [cellsPV_length] at hj
        simp only [dif_pos hj]
        exact (key j hj).choose_spec.1
      · have hj2 := hj
        rw [cellsPV_length] at hj2
        simp only [dif_pos hj2]
        rw [cellsPV_get]
        exact cell_pV hg (key j hj2).choose_spec.2 (cellsRC_get c2 j hj2)
  | _ => exact cell_pV hg h hc
theorem pFCs_ok (hg : Gm C E σ a w) : ∀ {zs : List AV} {cs : List FC} {ys : List Value}, pFCs σ zs cs → ys.length = zs.length → (∀ (i : Nat) (h1 : i < zs.length) (h2 : i < ys.length), RdP E σ zs[i] ys[i]) →
    ys.length = cs.length ∧ ∀ (i : Nat) (c : FC) (y : Value), cs[i]? = some c → ys[i]? = some y → FCok (cellsOf w) [] c y
  | [], [], ys, _, hl, _ => ⟨hl, fun i c y h => by simp at h⟩
  | z :: zs, .val x :: cs, [], _, hl, _ => by simp at hl
  | z :: zs, .val x :: cs, y :: ys, h, hl, hr => by
    obtain ⟨h1, h2, h3⟩ := h
    obtain ⟨h4, h5⟩ := pFCs_ok hg h3 (by simpa using hl) (fun i a b => by have := hr (i + 1) (by simpa using a) (by simpa using b); simpa using this)
    refine ⟨by simp [h4], fun i c' y' q1 q2 => ?_⟩
    cases i with
    | succ i => exact h5 i c' y' (by simpa using q1) (by simpa using q2)
    | zero =>
      simp at q1 q2
      subst q1 q2
      have h0 := hr 0 (by simp) (by simp)
      simp only [List.getElem_cons_zero] at h0
      exact subF_ok _ _ h2 _ _ (pureV_ok hg h0.toA h1)
  | [], _ :: _, _, h, _, _ => h.elim
  | _ :: _, [], _, h, _, _ => h.elim
  | _ :: _, .ptr _ _ :: _, _, h, _, _ => h.elim
theorem pArg_val {x : AV} {y : V} (h : pureC σ x ∧ SubF (pureV σ x) y) : pArg σ x (.ca (.val y)) := by
  cases x with
  | val v =>
    cases v with
    | sc u => cases u with
              | func f a b => cases f <;> exact h
              | _ => exact h
    | _ => exact h
  | _ => exact h
theorem pArg_cases {x : AV} {b : Arg} (h : pArg σ x b) : (∃ K zs cs, x = .fn K zs ∧ b = .fn K cs ∧ pFCs σ zs cs) ∨ (∃ K, x = .val (.sc (.func (.func K) #[] #[])) ∧ b = .fn K []) ∨ ∃ y, b = .ca (.val y) ∧ pureC σ x ∧ SubF (pureV σ x) y := by
  unfold pArg at h
  split at h
  · obtain ⟨rfl, h⟩ := h; exact .inl ⟨_, _, _, rfl, rfl, h⟩
  · obtain ⟨rfl, rfl, rfl⟩ := h; exact .inr (.inl ⟨_, rfl, rfl⟩)
  · exact .inr (.inr ⟨_, rfl, h⟩)
  · exact h.elim
theorem pArg_ok (hg : Gm C E σ a w) {x : AV} {b : Arg} {v : Value} (h : pArg σ x b) (hv : RdA E σ x v) : ArgOk (cellsOf w) w [] b v [] := by
  rcases pArg_cases h with ⟨K, zs, cs, rfl, rfl, h2⟩ | ⟨K, rfl, rfl⟩ | ⟨y, rfl, h1, h2⟩
  · obtain ⟨ys, rfl, hl, hr⟩ := hv
    obtain ⟨p1, p2⟩ := pFCs_ok hg h2 hl hr
    exact ⟨⟨ys, rfl, p1, p2⟩, rfl⟩
  · have hv3 := Rd.sc_eq hv
    subst hv3
    exact ⟨⟨[], rfl, rfl, fun i c y q => by simp at q⟩, rfl⟩
  · exact ⟨subF_ok _ _ h2 _ _ (pureV_ok hg hv h1), rfl⟩
theorem pArgs_ok (hg : Gm C E σ a w) : ∀ {xs : List AV} {args : List Arg} {vs : List Value}, pArgs σ xs args → AllA E σ xs vs → ArgsOk (cellsOf w) w [] args vs []
  | [], [], [], _, _ => .nil
  | [], [], _ :: _, _, h => h.elim
  | [], _ :: _, _, h, _ => h.elim
  | _ :: _, _, [], _, h => h.elim
  | _ :: _, [], _ :: _, h, _ => h.elim
  | x :: xs, arg :: as', v :: vs, h, hv => ArgsOk.cons (F := []) (F' := []) (pArg_ok hg h.1 hv.1) (pArgs_ok hg h.2 hv.2) (fun b hb => by cases hb)
theorem pArg_congr {x : AV} {b : Arg} (hl : ∀ l ∈ pArgL σ x, σ' l = σ l) (h : pArg σ x b) : pArg σ' x b := by
  rcases pArg_cases h with ⟨K, zs, cs, rfl, rfl, h2⟩ | ⟨K, rfl, rfl⟩ | ⟨y, rfl, h1, h2⟩
  · exact ⟨rfl, pFCs_congr hl h2⟩
  · exact ⟨rfl, rfl, rfl⟩
  · have key : (∀ l ∈ pureL σ x, σ' l = σ l) → pArg σ' x (.ca (.val y)) := fun hl => by
      obtain ⟨h3, h4⟩ := pure_congr hl
      exact pArg_val ⟨h3.2 h1, by rw [h4]; exact h2⟩
    cases x with
    | fn K zs => exact pArg_val ⟨trivial, h2⟩
    | _ => exact key hl
theorem pArgs_congr : ∀ {xs : List AV} {args : List Arg}, (∀ l ∈ pArgsL σ xs, σ' l = σ l) → pArgs σ xs args → pArgs σ' xs args
  | [], [], _, _ => trivial
  | [], _ :: _, _, h => h.elim
  | _ :: _, [], _, h => h.elim
  | x :: xs, arg :: as', hl, h => ⟨pArg_congr (fun l q => hl l (List.mem_append_left _ q)) h.1, pArgs_congr (fun l q => hl l (List.mem_append_right _ q)) h.2⟩
theorem ok_pcall {d : Tmp} {callee : Callee} {F : FuncId} {xs : List Operand} {tys : Array TypeId} {args : List Arg} {y : V} {zs : List AV} {L0 : List Pl} (hspec : Spec P F args [] (.ca (.val y)) []) (hfl : flat2 y)
    (hz : ∀ (E : Env) (σ' : St) (a : Act) (w : World), (∀ l ∈ L0, σ' l = σ l) → Gm C E σ' a w → ∃ us : List Value, us.length = zs.length ∧ (∀ (j : Nat) (x : AV) (v : Value), zs[j]? = some x → us[j]? = some v → RdA E σ' x v) ∧
      ∀ ty pos af, (execOp a.eval ⟨some d, .call { callee := callee, args := xs.toArray, argTypes := tys }, ty, pos, af, none⟩).run P w = .ok (.enter F ((xs.map a.eval) ++ us).toArray) w)
    (h : pArgs σ (xs.map (ev σ) ++ zs) args) (ty : TypeId) (pos : String) (af : Array Edge) :
    OpOk P ops C ⟨some d, .call { callee := callee, args := xs.toArray, argTypes := tys }, ty, pos, af, none⟩ (rds σ (L0 ++ (opndsL xs ++ pArgsL σ (xs.map (ev σ) ++ zs)))) [(.s d, .av (.val y))] := by
  intro E σ' a w Kt Q hd hr hg hK'
  have hr := rds_all hr
  have hd0 := hd d rfl
  obtain ⟨hr0, hr⟩ := mem_l hr
  obtain ⟨hr1, hr2⟩ := mem_l hr
  have h' := pArgs_congr (σ' := σ') hr2 h
  rw [← evs_congr hr1] at h'
  obtain ⟨us, hu1, hu2, hrun⟩ := hz E σ' a w hr0 hg
  have hall : AllA E σ' (xs.map (ev σ') ++ zs) (xs.map a.eval ++ us) := allA_of (by simp [hu1]) fun j x v q1 q2 => by
    rcases Nat.lt_or_ge j xs.length with hj | hj
    · rw [List.getElem?_append_left (by simpa using hj), List.getElem?_map, List.getElem?_eq_getElem hj] at q1 q2
      cases q1; cases q2; exact ev_ok hg _
    · rw [List.getElem?_append_right (by simpa using hj)] at q1 q2
      simp only [List.length_map] at q1 q2
      exact hu2 _ x v q1 q2
  have hH : Holds (cellsOf w) w (xs.map a.eval ++ us) args [] [] [] [] := ⟨fun b i v h => h, pArgs_ok hg h' hall, .nil, fun b hb => by cases hb⟩
  have hcall := hspec (cellsOf w) w _ [] [] [] hH
  rw [if_pos (by simp [Region.wanted])]
  show Oper.upon _ _ _ _ _ _
  rw [hrun]
  show Calls _ _ _ _ _
  refine hcall.mono ?_
  rintro e w' ⟨v, m', bs', F', G', rfl, hH', hmle, hchg, hbs', hmk, hnew⟩
  show Kt (a.put (some d) v) w'
  have hc0 : Chg (fun _ => False) w w' := ⟨hchg.os, hchg.tape, hchg.output, hchg.size, fun b h1 _ => hchg.block b h1 fun h2 => by simp at h2⟩
  have g2 : Gm C { E with m := E.m } σ' a w' := hg.turn (fun _ => False) w' E.m hc0 (Mem.le_refl _) (fun b i u hu => by
      have h1 := hg.ms _ _ _ hu
      have hlt := World.block_lt_of_cell? w _ h1
      rw [World.cell?_of_block (w := w) (hc0.block _ hlt id)]; exact h1) (fun b h => h.elim) (fun b _ h => h) (fun b mb n bs l _ h => h) (fun b i _ _ => rfl)
  have hres := hH'.ar
  cases hres with
  | @cons _ _ F0 _ _ F1 q1 q2 q3 =>
    refine hK' _ _ E ?_
    exact Gm.slot g2 d (.val y) v hd0 (flat2_ok hfl q1.1)
theorem ok_pc {d : Tmp} {F : FuncId} (hK : ∀ args w, (callFunc F args).run P w = .ok (.enter F args) w) {xs : List Operand} {tys : Array TypeId} {args : List Arg} {y : V} (hspec : Spec P F args [] (.ca (.val y)) []) (hfl : flat2 y)
    (h : pArgs σ (xs.map (ev σ)) args) (ty : TypeId) (pos : String) (af : Array Edge) :
    OpOk P ops C ⟨some d, .call { callee := .value (.func F), args := xs.toArray, argTypes := tys }, ty, pos, af, none⟩ (rds σ (opndsL xs ++ pArgsL σ (xs.map (ev σ)))) [(.s d, .av (.val y))] := by
  have := ok_pcall (P := P) (ops := ops) (C := C) (σ := σ) (d := d) (callee := .value (.func F)) (xs := xs) (tys := tys) (zs := []) (L0 := []) hspec hfl (fun E σ' a w _ hg => ⟨[], rfl, fun j x v q => by simp at q, fun ty pos af => by
    simp [execOp, resolve, Act.eval, Deferred.ofValue, invoke, hK]⟩) (by rw [List.append_nil]; exact h) ty pos af
  simpa using this
theorem ok_pfc {d : Tmp} {F : FuncId} (hK : ∀ args w, (callFunc F args).run P w = .ok (.enter F args) w) {f : Operand} {zs : List AV} (hf : isFn F zs (ev σ f)) {xs : List Operand} {tys : Array TypeId} {args : List Arg} {y : V} (hspec : Spec P F args [] (.ca (.val y)) []) (hfl : flat2 y)
    (h : pArgs σ (xs.map (ev σ) ++ zs) args) (ty : TypeId) (pos : String) (af : Array Edge) :
    OpOk P ops C ⟨some d, .call { callee := .value f, args := xs.toArray, argTypes := tys }, ty, pos, af, none⟩ (rds σ (rdl f ++ (opndsL xs ++ pArgsL σ (xs.map (ev σ) ++ zs)))) [(.s d, .av (.val y))] :=
  ok_pcall (L0 := rdl f) hspec hfl (fun E σ' a w hr hg => by
      have hv := ev_ok hg f
      rw [ev_congr hr] at hv
      rcases isFn_ok hf with hf2 | ⟨hf2, hz2⟩
      · rw [hf2] at hv
        obtain ⟨ys, h3, h4, h5⟩ := hv
        refine ⟨ys, h4, fun j x v q1 q2 => ?_, fun ty pos af => by simp [execOp, resolve, h3, Deferred.ofValue, invoke, hK]⟩
        obtain ⟨q3, rfl⟩ := List.getElem?_eq_some_iff.1 q1
        obtain ⟨q4, rfl⟩ := List.getElem?_eq_some_iff.1 q2
        exact (h5 j q3 q4).toA
      · subst hz2
        rw [hf2] at hv
        have hv := Rd.sc_eq hv
        exact ⟨[], rfl, fun j x v h => by simp at h, fun ty pos af => by simp [execOp, resolve, hv, Deferred.ofValue, invoke, hK]⟩) h ty pos af
/-- A call of a function that only reads. -/
theorem pcall_u {d : Tmp} {F : FuncId} (hK : ∀ args w, (callFunc F args).run P w = .ok (.enter F args) w) {xs : List Operand} {tys : Array TypeId} {args : List Arg} {y : V} {ty : TypeId} {pos : String} {af : Array Edge} {g : Option (Nat × Bool)} (hspec : Spec P F args [] (.ca (.val y)) [])
    (h : flat2 y ∧ gOk ops σ g ∧ pArgs σ (xs.map (ev σ)) args)
    (k : exec P ops C md K rest (put σ (.s d) (.av (.val y))) ((gL ops g ++ (opndsL xs ++ pArgsL σ (xs.map (ev σ))), [.s d]) :: acc)) :
    Run P ops C md K (⟨some d, .call { callee := .value (.func F), args := xs.toArray, argTypes := tys }, ty, pos, af, g⟩ :: rest) σ acc := by
  obtain ⟨h1, h2, h3⟩ := h
  cases g with
  | none => exact run_cons (ok_pc hK hspec h1 h3 ty pos af) (exec_run k)
  | some g =>
    obtain ⟨j, b⟩ := g
    exact run_cons (ok_guard h2.1 h2.2 (ok_pc hK hspec h1 h3 ty pos af)) (exec_run k)
/-- A call of a function's value that only reads. -/
theorem pfcall_u {d : Tmp} {F : FuncId} (hK : ∀ args w, (callFunc F args).run P w = .ok (.enter F args) w) {xs : List Operand} {tys : Array TypeId} {args : List Arg} {y : V} {ty : TypeId} {pos : String} {af : Array Edge} {g : Option (Nat × Bool)} (zs : List AV) {f : Operand} (hspec : Spec P F args [] (.ca (.val y)) [])
    (h : flat2 y ∧ gOk ops σ g ∧ isFn F zs (ev σ f) ∧ pArgs σ (xs.map (ev σ) ++ zs) args)
    (k : exec P ops C md K rest (put σ (.s d) (.av (.val y))) ((gL ops g ++ (rdl f ++ (opndsL xs ++ pArgsL σ (xs.map (ev σ) ++ zs))), [.s d]) :: acc)) :
    Run P ops C md K (⟨some d, .call { callee := .value f, args := xs.toArray, argTypes := tys }, ty, pos, af, g⟩ :: rest) σ acc := by
  obtain ⟨h1, h2, h3, h4⟩ := h
  cases g with
  | none => exact run_cons (ok_pfc hK h3 hspec h1 h4 ty pos af) (exec_run k)
  | some g =>
    obtain ⟨j, b⟩ := g
    exact run_cons (ok_guard h2.1 h2.2 (ok_pfc hK h3 hspec h1 h4 ty pos af)) (exec_run k)
end
end Go.Proofs.YtkclmofjlmeolaaGreatDoor

