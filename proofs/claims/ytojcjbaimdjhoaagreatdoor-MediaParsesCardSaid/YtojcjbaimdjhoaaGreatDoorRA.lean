
/- The step of a call. -/
import Derived.Test.YtojcjbaimdjhoaaGreatDoorR9
namespace Go.Proofs.YtojcjbaimdjhoaaGreatDoor
open Go.RowKit
set_option linter.unusedVariables false
set_option linter.unusedSimpArgs false

section
variable {P : Program} {ops : Array Oper} {C : Ctx} {E : Env} {σ : St} {a : Act} {w : World}
theorem cellAVs_length (σ : St) (o : Id) : ∀ (n i : Nat), (cellAVs σ o i n).length = n
  | 0, _ => rfl
  | n + 1, i => by simp [cellAVs, cellAVs_length σ o n (i + 1)]
theorem cellAVs_get (σ : St) (o : Id) : ∀ (n i j : Nat), j < n → (cellAVs σ o i n)[j]? = some (cellAV σ o (i + j))
  | n + 1, i, 0, h => rfl
  | n + 1, i, j + 1, h => by
    show (cellAVs σ o (i + 1) n)[j]? = _
    rw [cellAVs_get σ o n (i + 1) j (by omega), show i + (j + 1) = i + 1 + j by omega]
theorem allA_of {E : Env} {σ : St} : ∀ {xs : List AV} {vs : List Value}, vs.length = xs.length → (∀ (j : Nat) (x : AV) (v : Value), xs[j]? = some x → vs[j]? = some v → RdA E σ x v) → AllA E σ xs vs
  | [], [], _, _ => trivial
  | x :: xs, v :: vs, hl, h => ⟨h 0 x v rfl rfl, allA_of (by simpa using hl) fun j y u h1 h2 => h (j + 1) y u (by simpa using h1) (by simpa using h2)⟩
  | [], _ :: _, hl, _ => by simp at hl
  | _ :: _, [], hl, _ => by simp at hl
theorem mobjs_ok (hg : Gm C E σ a w) {all ids : List Id} {objs : List (List CA)} {ts : List Ho} (h : MObjs σ all ids objs ts) : ts.Nodup → objs.length = ids.length ∧ ∃ G, ObjsOk E.m w (all.map E.loc) (ids.map E.loc) objs G ∧ ∀ b ∈ G, ∃ t ∈ ts, HoB E σ t b := by
  induction h with
  | nil => intro _; exact ⟨rfl, [], .nil, fun b h => by cases h⟩
  | @cons o ids cs objs ts ts' ho hc _ ih =>
    intro hn
    obtain ⟨hn0, hn⟩ := List.nodup_cons.1 hn
    obtain ⟨hn1, hn2, hn3⟩ := List.nodup_append.1 hn
    obtain ⟨i1, G, i2, i3⟩ := ih hn2
    obtain ⟨⟨ca, ty, hb, hsz⟩, hm0, _⟩ := hg.ob o _ ho
    have hvl : ca.toList.length = (cellAVs σ o 0 cs.length).length := by rw [cellAVs_length]; simpa using hsz
    obtain ⟨F, m1, m2⟩ := margs_ok hg hc ca.toList (allA_of hvl (fun j x v q1 q2 => by
      have hj : j < cs.length := by have := (List.getElem?_eq_some_iff.1 q1).1; rwa [cellAVs_length] at this
      rw [cellAVs_get _ _ _ _ _ hj, Nat.zero_add] at q1
      cases q1
      obtain ⟨u, hu, hr⟩ := cellAV_ok hg ho hj
      rw [cell_of_row _ _ _ _ _ _ hb] at hu
      have : v = u := by
        have e : ca.toList[j]? = ca[j]? := by rw [Array.getElem?_toList]
        rw [e, hu] at q2; exact (Option.some.inj q2).symm
      subst this
      exact hr)) hn1
    have ho' : HoB E σ (.o o) (E.loc o) := ⟨_, ho, rfl⟩
    refine ⟨by simp [i1], _, ObjsOk.cons (vs := ca.toList) (ty := ty) (by simpa using hb) hm0 m1 (fun hF => ?_) i2 (fun b hb1 hb2 => ?_), fun b hb => ?_⟩
    · obtain ⟨t, ht, hh⟩ := m2 _ hF
      have := hg.ho_inj ho' hh
      subst this
      exact hn0 (List.mem_append_left _ ht)
    · obtain ⟨t', ht', hh'⟩ := i3 b hb2
      rcases List.mem_cons.1 hb1 with rfl | hb1
      · have := hg.ho_inj ho' hh'
        subst this
        exact hn0 (List.mem_append_right _ ht')
      · obtain ⟨t, ht, hh⟩ := m2 b hb1
        have := hg.ho_inj hh hh'
        subst this
        exact hn3 _ ht _ ht' rfl
    · rcases List.mem_append.1 hb with hb | hb
      · rcases List.mem_cons.1 hb with rfl | hb
        · exact ⟨_, by simp, ho'⟩
        · obtain ⟨t, ht, hh⟩ := m2 b hb
          exact ⟨t, by simp [ht], hh⟩
      · obtain ⟨t, ht, hh⟩ := i3 b hb
        exact ⟨t, by simp [ht], hh⟩

/-! ### The same, in a state that is alike -/
def toksL : List Ho → List Pl
  | [] => []
  | .o o :: ts => .o o :: toksL ts
  | .k k :: ts => .q k :: .k k :: toksL ts
  | .r k :: ts => .h k :: .g k :: .r k :: .l k :: toksL ts
theorem mFCs_congr {σ' : St} {ids : List Id} (hids : ∀ o ∈ ids, σ' (.g o) = σ (.g o)) : ∀ {zs : List AV} {cs : List FC}, mFCs σ ids zs cs → mFCs σ' ids zs cs
  | [], [], _ => trivial
  | z :: zs, c :: cs, h => by
    refine ⟨?_, mFCs_congr hids h.2⟩
    have h1 := h.1
    cases z with
    | val x => cases c <;> exact h1
    | ptr o g off =>
      cases c with
      | val x' => exact h1.elim
      | ptr i off' =>
        obtain ⟨e1, e2, e3⟩ := h1
        exact ⟨e1, by rw [gg_of (hids o (List.mem_of_getElem? e1))]; exact e2, e3⟩
    | _ => cases c <;> exact h1.elim
  | [], _ :: _, h => h.elim
  | _ :: _, [], h => h.elim
theorem MArgs.congr {σ' : St} {ids : List Id} {xs : List AV} {args : List Arg} {ts : List Ho} (h : MArgs σ ids xs args ts) : (∀ l ∈ toksL ts, σ' l = σ l) → (∀ o ∈ ids, σ' (.g o) = σ (.g o)) → MArgs σ' ids xs args ts := by
  induction h with
  | nil => intro _ _; exact .nil
  | val h _ ih => intro h1 h2; exact .val h (ih h1 h2)
  | own hq hk _ ih => intro h1 h2; exact .own (by rw [gq_of (h1 _ (by simp [toksL]))]; exact hq) (by rw [h1 _ (by simp [toksL])]; exact hk) (ih (fun l hl => h1 l (by simp [toksL, hl])) h2)
  | nown _ ih => intro h1 h2; exact .nown (ih h1 h2)
  | ptr hi hg _ ih => intro h1 h2; exact .ptr hi (by rw [gg_of (h2 _ (List.mem_of_getElem? hi))]; exact hg) (ih h1 h2)
  | fn h _ ih => intro h1 h2; exact .fn (mFCs_congr h2 h) (ih h1 h2)
  | fn0 _ ih => intro h1 h2; exact .fn0 (ih h1 h2)
  | hd hh hk _ ih => intro h1 h2; exact .hd (by rw [gh_of (h1 _ (by simp [toksL]))]; exact hh) (by rw [h1 _ (by simp [toksL])]; exact hk) (ih (fun l hl => h1 l (by simp [toksL, hl])) h2)
  | hdb hh hk _ ih => intro h1 h2; exact .hdb (by rw [gg_of (h1 _ (by simp [toksL]))]; exact hh) (by rw [h1 _ (by simp [toksL])]; exact hk) (ih (fun l hl => h1 l (by simp [toksL, hl])) h2)
  | nhd _ ih => intro h1 h2; exact .nhd (ih h1 h2)
  | nhw _ ih => intro h1 h2; exact .nhw (ih h1 h2)
  | hdl hh hk hl hi hg _ ih => intro h1 h2; exact .hdl (by rw [gh_of (h1 _ (by simp [toksL]))]; exact hh) (by rw [h1 _ (by simp [toksL])]; exact hk) (by rw [h1 _ (by simp [toksL])]; exact hl) hi (by rw [gg_of (h2 _ (List.mem_of_getElem? hi))]; exact hg) (ih (fun l hl => h1 l (by simp [toksL, hl])) h2)
theorem cellAVs_congr {σ' : St} {o : Id} : ∀ {n i : Nat}, (∀ l ∈ cellsL o i n, σ' l = σ l) → cellAVs σ' o i n = cellAVs σ o i n
  | 0, _, _ => rfl
  | n + 1, i, h => by
    simp only [cellAVs]
    rw [cellAV_congr (h _ (by simp [cellsL])), cellAVs_congr fun l hl => h l (by simp [cellsL, hl])]
def objsL : List Id → List (List CA) → List Pl
  | o :: ids, cs :: objs => .g o :: .o o :: (cellsL o 0 cs.length ++ objsL ids objs)
  | _, _ => []
theorem toksL_append : ∀ (a b : List Ho), toksL (a ++ b) = toksL a ++ toksL b
  | [], _ => rfl
  | .o o :: a, b => by simp [toksL, toksL_append a b]
  | .k o :: a, b => by simp [toksL, toksL_append a b]
  | .r o :: a, b => by simp [toksL, toksL_append a b]
theorem MObjs.congr {σ' : St} {all ids : List Id} {objs : List (List CA)} {ts : List Ho} (h : MObjs σ all ids objs ts) : (∀ l ∈ toksL ts, σ' l = σ l) → (∀ o ∈ all, σ' (.g o) = σ (.g o)) → (∀ l ∈ objsL ids objs, σ' l = σ l) → MObjs σ' all ids objs ts := by
  induction h with
  | nil => intro _ _ _; exact .nil
  | cons ho hc _ ih =>
    intro h1 h2 h3
    refine .cons (by rw [h1 _ (by simp [toksL])]; exact ho) ?_ (ih (fun l hl => h1 l (by simp [toksL, toksL_append, hl])) h2 (fun l hl => h3 l (by simp [objsL, hl])))
    rw [cellAVs_congr fun l hl => h3 l (by simp [objsL, hl])]
    exact hc.congr (fun l hl => h1 l (by simp [toksL, toksL_append, hl])) h2
theorem agree_puts {σ σ' : St} {W : List (Pl × X)} {l : Pl} (h : σ' l = σ l) : puts σ' W l = puts σ W l := puts_at _ _ _ _ (.inr h)
def keysC (k : Id) : CA → List Pl
  | .val _ => []
  | .own _ _ _ => [.q k]
  | _ => [.h k, .g k]
def keysL (o : Id) : Nat → List CA → List Pl
  | _, [] => []
  | j, c :: cs => keysC (kid o j) c ++ keysL o (j + 1) cs
theorem gainW_congr {σ' : St} {all : List Id} {k : Id} {c : CA} (h : ∀ l ∈ keysC k c, σ' l = σ l) (hall : ∀ o ∈ all, σ' (.g o) = σ (.g o)) : gainW σ' all k c = gainW σ all k c ∧ gainAV σ' k c = gainAV σ k c := by
  cases c with
  | val x => exact ⟨rfl, rfl⟩
  | own e sz es => simp only [gainW, gainAV, gq_of (h (.q k) (by simp [keysC]))]; exact ⟨trivial, trivial⟩
  | hd x =>
    have h1 := gh_of (h (.h k) (by simp [keysC]))
    have h2 := gg_of (h (.g k) (by simp [keysC]))
    refine ⟨by simp only [gainW, treeW, h1, h2], ?_⟩
    cases x <;> simp only [gainAV, treeAV, h1, h2]
  | hdl x i ob =>
    have h1 := gh_of (h (.h k) (by simp [keysC]))
    have h2 := gg_of (h (.g k) (by simp [keysC]))
    refine ⟨?_, ?_⟩
    · simp only [gainW, treeW, lentW, h1, h2]
      cases ho : all[ob]? with
      | none => rfl
      | some o' => simp only [gg_of (hall o' (List.mem_of_getElem? ho))]
    · cases x <;> simp only [gainAV, treeAV, h1, h2]
theorem gains_congr (all : List Id) (o : Id) : ∀ (cs : List CA) (σ σ' : St) (j : Nat), (∀ l ∈ keysL o j cs, σ' l = σ l) → (∀ o ∈ all, σ' (.g o) = σ (.g o)) → gains σ' all o j cs = gains σ all o j cs
  | [], _, _, _, _, _ => rfl
  | c :: cs, σ, σ', j, h, hall => by
    obtain ⟨h1, h2⟩ := gainW_congr (σ := σ) (σ' := σ') (all := all) (k := kid o j) (c := c) (fun l hl => h l (by simp [keysL, hl])) hall
    simp only [gains, h1, h2]
    rw [gains_congr all o cs (puts σ (gainW σ all (kid o j) c)) (puts σ' (gainW σ all (kid o j) c)) (j + 1) (fun l hl => agree_puts (h l (by simp [keysL, hl]))) (fun o' ho => agree_puts (hall o' ho))]
theorem objGain_congr {σ' : St} {all : List Id} {o : Id} {G : Nat} {cs : List CA} (h : ∀ l ∈ keysL o 0 cs, σ' l = σ l) (hall : ∀ o ∈ all, σ' (.g o) = σ (.g o)) : objGain σ' all o G cs = objGain σ all o G cs := by
  unfold objGain
  rw [gains_congr all o cs σ σ' 0 h hall]
def objsK : List Id → List (List CA) → List Pl
  | o :: ids, cs :: objs => .g o :: (keysL o 0 cs ++ objsK ids objs)
  | _, _ => []
theorem objsW_congr (all : List Id) : ∀ (ids : List Id) (objs : List (List CA)) (σ σ' : St), (∀ l ∈ objsK ids objs, σ' l = σ l) → (∀ o ∈ all, σ' (.g o) = σ (.g o)) → objsW all σ' ids objs = objsW all σ ids objs
  | o :: ids, cs :: objs, σ, σ', h, hall => by
    have h1 : objGain σ' all o (gg σ' o) cs = objGain σ all o (gg σ o) cs := by
      rw [gg_of (h (.g o) (by simp [objsK]))]
      exact objGain_congr (fun l hl => h l (by simp [objsK, hl])) hall
    simp only [objsW, h1]
    rw [objsW_congr all ids objs (puts σ (objGain σ all o (gg σ o) cs)) (puts σ' (objGain σ all o (gg σ o) cs)) (fun l hl => agree_puts (h l (by simp [objsK, hl]))) (fun o' ho => agree_puts (hall o' ho))]
  | [], [], _, _, _, _ => rfl
  | [], _ :: _, _, _, _, _ => rfl
  | _ :: _, [], _, _, _, _ => rfl
theorem dropW_congr {σ' : St} : ∀ {ts : List Ho}, (∀ l ∈ toksL ts, σ' l = σ l) → dropW σ' ts = dropW σ ts
  | [], _ => rfl
  | t :: ts, h => by
    have ih : dropW σ' ts = dropW σ ts := dropW_congr fun l hl => h l (by cases t <;> simp [toksL, hl])
    unfold dropW at ih ⊢
    rw [List.flatMap_cons, List.flatMap_cons, ih]
    congr 1
    cases t with
    | o i => rfl
    | k k => simp only [hoDrop, gq_of (h (.q k) (by simp [toksL]))]
    | r k => rfl

/-! ### What a call writes -/
def freshIds (d : Tmp) : List (List CA) → List Id
  | [] => []
  | _ :: _ => [(d, 0)]
def freshW (σ : St) (ids : List Id) (d : Tmp) : List (List CA) → List (Pl × X)
  | [] => []
  | cs :: _ => objGain σ ids (d, 0) (gg σ (d, 0) + 1) cs
def freshK (d : Tmp) : List (List CA) → List Pl
  | [] => []
  | cs :: _ => keysL (d, 0) 0 cs
def freshKids (d : Tmp) : List (List CA) → List Id
  | [] => []
  | cs :: _ => kidsOf (d, 0) 0 cs
def resRow (σ : St) (d : Tmp) : Arg → List (Pl × X)
  | .ca (.own e sz es) => [(.q (d, 0), .num (gq σ (d, 0) + 1)), (.k (d, 0), .row e sz es.length)]
  | .ca (.hd x) => treeW σ (d, 1) x
  | _ => []
def resPtr (σ2 : St) (d : Tmp) (ids : List Id) (i off : Nat) : AV := match ids[i]? with | some o => .ptr o (gg σ2 o) off | none => .ptr (d, 0) (gg σ2 (d, 0)) off
def resFC (σ2 : St) (d : Tmp) (ids : List Id) : FC → AV
  | .val x => .val x
  | .ptr i off => resPtr σ2 d ids i off
def resAV (σ2 σ : St) (d : Tmp) (ids : List Id) : Arg → AV
  | .ca (.val y) => .val y
  | .ca (.own e sz es) => .own (d, 0) (gq σ (d, 0) + 1) e sz es
  | .ca (.hd x) => treeAV σ (d, 1) x
  | .ca (.hdl _ _ _) => .val .any
  | .ptr i off => resPtr σ2 d ids i off
  | .fn K cs => .fn K (cs.map (resFC σ2 d ids))
def callM (σ : St) (d : Tmp) (ids : List Id) (ts : List Ho) (objs' : List (List CA)) : List (Pl × X) :=
  let W1 := dropW σ ts
  let W2 := freshW (puts σ W1) ids d (objs'.drop ids.length)
  W1 ++ (W2 ++ objsW (ids ++ freshIds d (objs'.drop ids.length)) (puts (puts σ W1) W2) ids objs')
def callW (σ : St) (d : Tmp) (ids : List Id) (ts : List Ho) (objs' : List (List CA)) (res : Arg) : List (Pl × X) :=
  callM σ d ids ts objs' ++ (resRow (puts σ (callM σ d ids ts objs')) d res ++ [(.s d, .av (resAV (puts σ (callM σ d ids ts objs')) (puts σ (callM σ d ids ts objs')) d ids res))])
def opndsL : List Operand → List Pl
  | [] => []
  | x :: xs => rdl x ++ opndsL xs
def callL (d : Tmp) (xs : List Operand) (ids : List Id) (ts : List Ho) (objs objs' : List (List CA)) : List Pl :=
  opndsL xs ++ (toksL ts ++ (objsL ids objs ++ (objsK ids objs' ++ (freshK d (objs'.drop ids.length) ++ [.g (d, 0), .q (d, 0), .h (d, 1), .g (d, 1)]))))
theorem objsL_mem : ∀ {ids : List Id} {objs : List (List CA)} {o : Id}, ids.length ≤ objs.length → o ∈ ids → Pl.g o ∈ objsL ids objs
  | o' :: ids, cs :: objs, o, hl, h => by
    rcases List.mem_cons.1 h with rfl | h
    · simp [objsL]
    · have := objsL_mem (ids := ids) (objs := objs) (by simpa using hl) h; simp [objsL, this]
  | [], _, o, _, h => by cases h
  | o' :: ids, [], o, hl, _ => by simp at hl
theorem freshW_congr {σ' : St} {ids : List Id} {d : Tmp} {l : List (List CA)} (h : ∀ x ∈ freshK d l, σ' x = σ x) (hall : ∀ o ∈ ids, σ' (.g o) = σ (.g o)) (hg : σ' (.g (d, 0)) = σ (.g (d, 0))) : freshW σ' ids d l = freshW σ ids d l := by
  cases l with
  | nil => rfl
  | cons cs l => simp only [freshW, gg_of hg]; exact objGain_congr h hall
theorem callW_congr {σ' : St} {d : Tmp} {xs : List Operand} {ids : List Id} {ts : List Ho} {objs objs' : List (List CA)} {res : Arg} (hl : ids.length ≤ objs.length) (h : ∀ l ∈ callL d xs ids ts objs objs', σ' l = σ l) : callW σ' d ids ts objs' res = callW σ d ids ts objs' res := by
  obtain ⟨_, h⟩ := mem_l h
  obtain ⟨h1, h⟩ := mem_l h
  obtain ⟨h2, h⟩ := mem_l h
  obtain ⟨h3, h⟩ := mem_l h
  obtain ⟨h4, h5⟩ := mem_l h
  have hids : ∀ o ∈ ids, σ' (.g o) = σ (.g o) := fun o ho => h2 _ (objsL_mem hl ho)
  have e1 : dropW σ' ts = dropW σ ts := dropW_congr h1
  have e2 : freshW (puts σ' (dropW σ ts)) ids d (objs'.drop ids.length) = freshW (puts σ (dropW σ ts)) ids d (objs'.drop ids.length) :=
    freshW_congr (fun x hx => agree_puts (h4 x hx)) (fun o ho => agree_puts (hids o ho)) (agree_puts (h5 _ (by simp)))
  have hall : ∀ o ∈ ids ++ freshIds d (objs'.drop ids.length), σ' (.g o) = σ (.g o) := fun o ho => by
    rcases List.mem_append.1 ho with ho | ho
    · exact hids o ho
    · cases hd : objs'.drop ids.length with
      | nil => rw [hd] at ho; cases ho
      | cons cs l => rw [hd] at ho; simp [freshIds] at ho; subst ho; exact h5 _ (by simp)
  have e3 : ∀ W2, objsW (ids ++ freshIds d (objs'.drop ids.length)) (puts (puts σ' (dropW σ ts)) W2) ids objs' = objsW (ids ++ freshIds d (objs'.drop ids.length)) (puts (puts σ (dropW σ ts)) W2) ids objs' := fun W2 =>
    objsW_congr _ _ _ _ _ (fun l hl => agree_puts (agree_puts (h3 l hl))) (fun o ho => agree_puts (agree_puts (hall o ho)))
  have e4 : callM σ' d ids ts objs' = callM σ d ids ts objs' := by simp only [callM, e1, e2, e3]
  have hq : ∀ W, gq (puts σ' W) (d, 0) = gq (puts σ W) (d, 0) := fun W => gq_of (agree_puts (h5 _ (by simp)))
  have hg : ∀ W, gg (puts σ' W) (d, 0) = gg (puts σ W) (d, 0) := fun W => gg_of (agree_puts (h5 _ (by simp)))
  have hg1 : ∀ W, gg (puts σ' W) (d, 1) = gg (puts σ W) (d, 1) := fun W => gg_of (agree_puts (h5 _ (by simp)))
  have hh1 : ∀ W, gh (puts σ' W) (d, 1) = gh (puts σ W) (d, 1) := fun W => gh_of (agree_puts (h5 _ (by simp)))
  have e5 : ∀ W, resRow (puts σ' W) d res = resRow (puts σ W) d res := fun W => by
    unfold resRow
    split
    · rw [hq]
    · unfold treeW; rw [hg1, hh1]
    · rfl
  have ep : ∀ W i off, resPtr (puts σ' W) d ids i off = resPtr (puts σ W) d ids i off := fun W i off => by
    unfold resPtr
    split
    · rename_i o ho; rw [gg_of (agree_puts (hids o (List.mem_of_getElem? ho)))]
    · rw [hg]
  have e6 : ∀ W, resAV (puts σ' W) (puts σ' W) d ids res = resAV (puts σ W) (puts σ W) d ids res := fun W => by
    unfold resAV
    split
    · rfl
    · rw [hq]
    · rename_i x; cases x <;> simp only [treeAV, hg1, hh1]
    · rfl
    · exact ep W _ _
    · congr 1
      apply List.map_congr_left
      intro c _
      cases c with
      | val => rfl
      | ptr i off => exact ep W i off
  simp only [callW, e4, e5, e6]
end
end Go.Proofs.YtojcjbaimdjhoaaGreatDoor
