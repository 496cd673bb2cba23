
/- A region in whatever order: what each operation reads and writes, and which ones stand in an order. -/
import Derived.Test.YtojcjbaimdjhoaaGreatDoorR1
namespace Go.Proofs.YtojcjbaimdjhoaaGreatDoor
open Go.RowKit
set_option linter.unusedVariables false
set_option linter.unusedSimpArgs false

abbrev RW := List (Pl × X) × List (Pl × X)
def locs (W : List (Pl × X)) : List Pl := W.map (·.1)

def OpOk (P : Program) (ops : Array Oper) (C : Ctx) (o : Oper) (R W : List (Pl × X)) : Prop :=
  ∀ (E : Env) (σ : St) (a : Act) (w : World) (K : Act → World → Prop) (Q : Exit → Act → World → Prop), (∀ d, o.dst = some d → d < C.nt) → (∀ p ∈ R, σ p.1 = p.2) → Gm C E σ a w →
    (∀ a' w' E', Gm C E' (puts σ W) a' w' → K a' w') → if Region.wanted o (yielded ops a.tmps) = true then o.wp P a w K Q else K (a.put o.dst undef) w

inductive Tr (P : Program) (ops : Array Oper) (C : Ctx) : List Oper → St → List RW → St → Prop where
  | nil (σ : St) : Tr P ops C [] σ [] σ
  | cons (o : Oper) (rest : List Oper) (σ σ' : St) (R W : List (Pl × X)) (tr : List RW) (h : OpOk P ops C o R W) (hr : ∀ p ∈ R, σ p.1 = p.2) (ht : Tr P ops C rest (puts σ W) tr σ') : Tr P ops C (o :: rest) σ ((R, W) :: tr) σ'

/-- Those of a run that are chosen. -/
def sel (p : Nat → Bool) : Nat → List RW → St → St
  | _, [], σ => σ
  | i, rw :: tr, σ => sel p (i + 1) tr (if p i then puts σ rw.2 else σ)

theorem puts_out : ∀ (W : List (Pl × X)) (σ : St) (l : Pl), l ∉ locs W → puts σ W l = σ l
  | [], _, _, _ => rfl
  | p :: W, σ, l, h => by
    simp only [locs, List.map_cons, List.mem_cons, not_or] at h
    show puts (put σ p.1 p.2) W l = _
    rw [puts_out W _ l h.2, put_ne _ _ h.1]
theorem puts_at : ∀ (W : List (Pl × X)) (σ σ' : St) (l : Pl), l ∈ locs W ∨ σ l = σ' l → puts σ W l = puts σ' W l
  | [], _, _, _, h => by rcases h with h | h; cases h; exact h
  | p :: W, σ, σ', l, h => by
    show puts (put σ p.1 p.2) W l = puts (put σ' p.1 p.2) W l
    apply puts_at W
    by_cases e : l = p.1
    · right; subst e; rw [put_same, put_same]
    · rcases h with h | h
      · simp only [locs, List.map_cons, List.mem_cons] at h
        exact .inl (h.resolve_left e)
      · right; rw [put_ne _ _ e, put_ne _ _ e]; exact h
theorem sel_at (p q : Nat → Bool) (l : Pl) : ∀ (tr : List RW) (i : Nat) (σ σ' : St), (∀ j rw, tr[j]? = some rw → l ∈ locs rw.2 → p (i + j) = q (i + j)) → σ l = σ' l → sel p i tr σ l = sel q i tr σ' l
  | [], _, _, _, _, h => h
  | rw :: tr, i, σ, σ', h, he => by
    show sel p (i + 1) tr _ l = sel q (i + 1) tr _ l
    apply sel_at p q l tr
    · intro j x hx hl
      have := h (j + 1) x (by simpa using hx) hl
      rwa [show i + (j + 1) = i + 1 + j by omega] at this
    · by_cases hl : l ∈ locs rw.2
      · have h0 := h 0 rw rfl hl
        simp only [Nat.add_zero] at h0
        rw [h0]
        cases q i
        · exact he
        · exact puts_at _ _ _ _ (.inl hl)
      · have e1 : ∀ (b : Bool) (s : St), (if b then puts s rw.2 else s) l = s l := by intro b s; cases b; rfl; exact puts_out _ _ _ hl
        rw [e1, e1]
        exact he
theorem sel_last (p : Nat → Bool) (l : Pl) : ∀ (tr : List RW) (i k : Nat) (σ σ' : St) (rw : RW), tr[k]? = some rw → l ∈ locs rw.2 → p (i + k) = true → (∀ j x, k < j → tr[j]? = some x → l ∈ locs x.2 → p (i + j) = false) →
    sel p i tr σ l = puts σ' rw.2 l
  | [], _, _, _, _, _, h, _, _, _ => by simp at h
  | x :: tr, i, 0, σ, σ', rw, h, hl, hp, hn => by
    simp only [List.getElem?_cons_zero, Option.some.injEq] at h
    subst h
    simp only [Nat.add_zero] at hp
    show sel p (i + 1) tr (if p i then puts σ x.2 else σ) l = _
    rw [if_pos hp, sel_at p (fun _ => false) l tr (i + 1) _ (puts σ' x.2) (fun j y hy hl' => ?_) (puts_at _ _ _ _ (.inl hl))]
    · clear hn hp
      generalize puts σ' x.2 = s
      generalize i + 1 = k
      induction tr generalizing k with
      | nil => rfl
      | cons y tr ih => exact ih _
    · have := hn (j + 1) y (by omega) (by simpa using hy) hl'
      rwa [show i + (j + 1) = i + 1 + j by omega] at this
  | x :: tr, i, k + 1, σ, σ', rw, h, hl, hp, hn => by
    show sel p (i + 1) tr _ l = _
    refine sel_last p l tr (i + 1) k _ σ' rw (by simpa using h) hl (by rw [show i + 1 + k = i + (k + 1) by omega]; exact hp) (fun j y hj hy hl' => ?_)
    have := hn (j + 1) y (by omega) (by simpa using hy) hl'
    rwa [show i + (j + 1) = i + 1 + j by omega] at this
theorem sel_all : ∀ (tr : List RW) (i : Nat) (σ : St) (p : Nat → Bool), (∀ j, j < tr.length → p (i + j) = true) → sel p i tr σ = tr.foldl (fun s x => puts s x.2) σ
  | [], _, _, _, _ => rfl
  | x :: tr, i, σ, p, h => by
    show sel p (i + 1) tr (if p i then puts σ x.2 else σ) = _
    rw [if_pos (by simpa using h 0 (by simp)), sel_all tr (i + 1) _ p (fun j hj => by have := h (j + 1) (by simpa using hj); rwa [show i + (j + 1) = i + 1 + j by omega] at this)]
    rfl
theorem sel_none : ∀ (tr : List RW) (i : Nat) (σ : St) (p : Nat → Bool), (∀ j, j < tr.length → p (i + j) = false) → sel p i tr σ = σ
  | [], _, _, _, _ => rfl
  | x :: tr, i, σ, p, h => by
    show sel p (i + 1) tr (if p i then puts σ x.2 else σ) = _
    rw [if_neg (by have := h 0 (by simp); simp at this; simp [this]), sel_none tr (i + 1) _ p (fun j hj => by have := h (j + 1) (by simpa using hj); rwa [show i + (j + 1) = i + 1 + j by omega] at this)]

section
variable {P : Program} {ops : Array Oper} {C : Ctx}
theorem Tr.length : ∀ {l : List Oper} {σ σ' : St} {tr : List RW}, Tr P ops C l σ tr σ' → tr.length = l.length
  | _, _, _, _, .nil _ => rfl
  | _, _, _, _, .cons _ _ _ _ _ _ _ _ _ ht => by simp [ht.length]
theorem Tr.final : ∀ {l : List Oper} {σ σ' : St} {tr : List RW}, Tr P ops C l σ tr σ' → σ' = tr.foldl (fun s x => puts s x.2) σ
  | _, _, _, _, .nil _ => rfl
  | _, _, _, _, .cons _ _ _ _ _ _ _ _ _ ht => ht.final
theorem Tr.ok : ∀ {l : List Oper} {σ σ' : St} {tr : List RW}, Tr P ops C l σ tr σ' → ∀ (i : Nat) (o : Oper) (rw : RW), l[i]? = some o → tr[i]? = some rw → OpOk P ops C o rw.1 rw.2
  | _, _, _, _, .nil _, i, o, rw, h, _ => by simp at h
  | _, _, _, _, .cons _ _ _ _ _ _ _ h0 _ ht, 0, o, rw, h, h' => by simp at h h'; subst h; subst h'; exact h0
  | _, _, _, _, .cons _ _ _ _ _ _ _ h0 _ ht, i + 1, o, rw, h, h' => ht.ok i o rw (by simpa using h) (by simpa using h')
theorem Tr.read : ∀ {l : List Oper} {σ σ' : St} {tr : List RW}, Tr P ops C l σ tr σ' → ∀ (k i : Nat) (rw : RW), tr[i]? = some rw → ∀ x ∈ rw.1, sel (fun j => decide (j < k + i)) k tr σ x.1 = x.2
  | _, _, _, _, .nil _, k, i, rw, h, _, _ => by simp at h
  | _, σ, _, _, .cons _ _ _ _ R W tr _ hr ht, k, 0, rw, h, x, hx => by
    simp at h
    subst h
    rw [sel_none _ _ _ _ (fun j hj => by simp)]
    exact hr x hx
  | _, σ, _, _, .cons _ _ _ _ R W tr _ hr ht, k, i + 1, rw, h, x, hx => by
    have := ht.read (k + 1) i rw (by simpa using h) x hx
    show sel _ (k + 1) tr (if decide (k < k + (i + 1)) then puts σ W else σ) x.1 = _
    rw [if_pos (by simp)]
    rw [← this]
    congr 1
    funext j
    rw [show k + (i + 1) = k + 1 + i by omega]

/-! ### Which ones stand in an order -/
def maskOf (acc : Array Nat) (o : Oper) : Nat := o.after.toList.foldl (fun s e => if Region.binds .any e then s ||| 2 ^ e.on ||| acc.getD e.on 0 else s) 0
def befs (acc : Array Nat) : List Oper → Array Nat
  | [] => acc
  | o :: l => befs (acc.push (maskOf acc o)) l
abbrev FP := List Pl × List Pl
def fpOf (a : RW) : FP := (locs a.1, locs a.2)
def clash (a b : FP) : Bool := a.2.any (fun l => b.1.contains l || b.2.contains l) || a.1.any (fun l => b.2.contains l)
def chkOne (bf : Array Nat) (j : Nat) (b : FP) : Nat → List FP → Bool
  | _, [] => true
  | i, a :: l => if i < j then (!clash a b || (bf.getD j 0).testBit i) && chkOne bf j b (i + 1) l else true
def chkAll (bf : Array Nat) (all : List FP) : Nat → List FP → Bool
  | _, [] => true
  | j, b :: l => chkOne bf j b 0 all && chkAll bf all (j + 1) l
def edgesOk : Nat → List Oper → Bool
  | _, [] => true
  | j, o :: l => o.after.toList.all (fun e => !Region.binds .any e || decide (e.on < j)) && edgesOk (j + 1) l
def dstsOk (nt : Nat) (l : List Oper) : Bool := l.all fun o => match o.dst with | some d => decide (d < nt) | none => true
def chk (ops : List Oper) (tr : List FP) : Bool := edgesOk 0 ops && chkAll (befs #[] ops) tr 0 tr
theorem dstsOk_get {nt : Nat} {l : List Oper} (h : dstsOk nt l = true) {i : Nat} {o : Oper} (ho : l[i]? = some o) : ∀ d, o.dst = some d → d < nt := by
  intro d hd
  have := List.all_eq_true.1 h o (List.mem_of_getElem? ho)
  rw [hd] at this
  simpa using this

theorem chkOne_get {bf : Array Nat} {j : Nat} {b : FP} : ∀ (l : List FP) (i : Nat), chkOne bf j b i l = true → ∀ k a, l[k]? = some a → i + k < j → clash a b = true → (bf.getD j 0).testBit (i + k) = true
  | [], _, _, k, a, h, _, _ => by simp at h
  | x :: l, i, h, k, a, hk, hlt, hc => by
    unfold chkOne at h
    rw [if_pos (by omega), Bool.and_eq_true] at h
    cases k with
    | zero => simp at hk; subst hk; simpa [hc] using h.1
    | succ k => have := chkOne_get l (i + 1) h.2 k a (by simpa using hk) (by omega) hc; rwa [show i + (k + 1) = i + 1 + k by omega]
theorem chkAll_get {bf : Array Nat} {all : List FP} : ∀ (l : List FP) (j : Nat), chkAll bf all j l = true → ∀ k b, l[k]? = some b → chkOne bf (j + k) b 0 all = true
  | [], _, _, k, b, h => by simp at h
  | x :: l, j, h, k, b, hk => by
    unfold chkAll at h
    rw [Bool.and_eq_true] at h
    cases k with
    | zero => simp at hk; subst hk; exact h.1
    | succ k => have := chkAll_get l (j + 1) h.2 k b (by simpa using hk); rwa [show j + (k + 1) = j + 1 + k by omega]
theorem edgesOk_get : ∀ (l : List Oper) (j : Nat), edgesOk j l = true → ∀ k o, l[k]? = some o → ∀ e ∈ o.after, Region.binds .any e = true → e.on < j + k
  | [], _, _, k, b, h => by simp at h
  | x :: l, j, h, k, o, hk => by
    unfold edgesOk at h
    rw [Bool.and_eq_true] at h
    cases k with
    | zero =>
      simp at hk; subst hk
      intro e he hb
      have := List.all_eq_true.1 h.1 e (by simpa using he)
      simpa [hb] using this
    | succ k => intro e he hb; have := edgesOk_get l (j + 1) h.2 k o (by simpa using hk) e he hb; omega
theorem mask_bit (acc : Array Nat) (i : Nat) : ∀ (l : List Edge) (s : Nat), (l.foldl (fun s e => if Region.binds .any e then s ||| 2 ^ e.on ||| acc.getD e.on 0 else s) s).testBit i = true →
    s.testBit i = true ∨ ∃ e ∈ l, Region.binds .any e = true ∧ (i = e.on ∨ (acc.getD e.on 0).testBit i = true)
  | [], s, h => .inl h
  | e :: l, s, h => by
    simp only [List.foldl_cons] at h
    rcases mask_bit acc i l _ h with h1 | ⟨e', he', h2⟩
    · by_cases hb : Region.binds .any e = true
      · rw [if_pos hb, Nat.testBit_or, Nat.testBit_or, Bool.or_eq_true, Bool.or_eq_true] at h1
        rcases h1 with (h1 | h1) | h1
        · exact .inl h1
        · rw [Nat.testBit_two_pow] at h1
          exact .inr ⟨e, by simp, hb, .inl (by simpa using (of_decide_eq_true h1).symm)⟩
        · exact .inr ⟨e, by simp, hb, .inr h1⟩
      · rw [if_neg hb] at h1
        exact .inl h1
    · exact .inr ⟨e', by simp [he'], h2⟩
theorem befs_ok (S : Nat → Prop) : ∀ (l : List Oper) (acc : Array Nat), (∀ j i, j < acc.size → S j → (acc.getD j 0).testBit i = true → S i) →
    (∀ k o, l[k]? = some o → S (acc.size + k) → ∀ e ∈ o.after, Region.binds .any e = true → S e.on) → (∀ k o, l[k]? = some o → ∀ e ∈ o.after, Region.binds .any e = true → e.on < acc.size + k) →
    ∀ j i, j < acc.size + l.length → S j → ((befs acc l).getD j 0).testBit i = true → S i
  | [], acc, h, _, _, j, i, hj, hS, hb => h j i (by simpa using hj) hS hb
  | o :: l, acc, h, hd, he, j, i, hj, hS, hb => by
    refine befs_ok S l (acc.push (maskOf acc o)) ?_ (fun k o' hk hs => hd (k + 1) o' (by simpa using hk) (by rw [Array.size_push] at hs; rwa [show acc.size + (k + 1) = acc.size + 1 + k by omega]))
      (fun k o' hk e hm hbd => by have := he (k + 1) o' (by simpa using hk) e hm hbd; rw [Array.size_push]; omega) j i (by rw [Array.size_push]; simp at hj; omega) hS hb
    intro j i hj hs hb
    rw [Array.size_push] at hj
    by_cases hje : j < acc.size
    · have : (acc.push (maskOf acc o)).getD j 0 = acc.getD j 0 := by simp [Array.getElem?_push, Nat.ne_of_lt hje]
      rw [this] at hb
      exact h j i hje hs hb
    · have hjj : j = acc.size := by omega
      subst hjj
      have : (acc.push (maskOf acc o)).getD acc.size 0 = maskOf acc o := by simp
      rw [this] at hb
      rcases mask_bit acc i _ _ hb with h1 | ⟨e, hm, hbd, h2⟩
      · simp at h1
      · have hSe := hd 0 o rfl (by simpa using hs) e (by simpa using hm) hbd
        rcases h2 with rfl | h2
        · exact hSe
        · exact h e.on i (by have := he 0 o rfl e (by simpa using hm) hbd; simpa using this) hSe h2

theorem region_any {id : Nat} {Q : Exit → Act → World → Prop} {l : List Oper} {σ σ' : St} {tr : List RW} {a : Act} {w : World} {E : Env} (hm : P.follows .mixedOrders = true)
    (ht : Tr P l.toArray C l σ tr σ') (hc : chk l (tr.map fpOf) = true) (hds : dstsOk C.nt l = true) (hg : Gm C E σ a w) (hQ : ∀ E a w, Gm C E σ' a w → Q .normal a w) : (Code.region id l.toArray true).wp P Q a w := by
  apply wp_region_any hm
  unfold chk at hc
  rw [Bool.and_eq_true] at hc
  obtain ⟨hedge, hchk⟩ := hc
  have hlen := ht.length
  have hE := edgesOk_get l 0 hedge
  simp only [Nat.zero_add] at hE
  have key : ∀ (fuel : Nat) (listed : Array Bool) (a : Act) (w : World), listed.size = l.length →
      (∀ j, listed.getD j false = true → ∀ o, l[j]? = some o → ∀ e ∈ o.after, Region.binds .any e = true → listed.getD e.on false = true) →
      (∃ E, Gm C E (sel (fun j => listed.getD j false) 0 tr σ) a w) → (listed.toList.count false ≤ fuel) → wpAny P .any l.toArray Q fuel listed a w := by
    intro fuel
    have hdone : ∀ (listed : Array Bool) (a : Act) (w : World), listed.size = l.length → (∃ E, Gm C E (sel (fun j => listed.getD j false) 0 tr σ) a w) → Region.ready .any l.toArray listed = [] → Q .normal a w := by
      intro listed a w hs ⟨E, hG⟩ hr
      have hall : ∀ j, j < l.length → listed.getD j false = true := by
        intro j
        induction j using Nat.strongRecOn with
        | _ j ih =>
          intro hj
          cases hx : listed.getD j false with
          | true => rfl
          | false =>
            have hmem : j ∈ Region.ready .any l.toArray listed := by
              rw [mem_ready]
              refine ⟨?_, l[j], by simp [hj], fun e he hb => ih e.on (hE j l[j] (by simp [hj]) e he hb) ?_⟩
              · have : j < listed.size := by omega
                simp [Array.getD_eq_getD_getElem?, this] at hx ⊢
                exact hx
              · have := hE j l[j] (by simp [hj]) e he hb; omega
            rw [hr] at hmem
            cases hmem
      rw [sel_all tr 0 σ _ (fun j hj => by simpa using hall j (by omega)), ← ht.final] at hG
      exact hQ E a w hG
    induction fuel with
    | zero =>
      intro listed a w hs hd hG hcount
      have hr : Region.ready .any l.toArray listed = [] := by
        cases hr : Region.ready .any l.toArray listed with
        | nil => rfl
        | cons j _ =>
          have hj : j ∈ Region.ready .any l.toArray listed := by rw [hr]; simp
          rw [mem_ready] at hj
          have hlt : j < listed.size := by
            obtain ⟨_, o, ho, _⟩ := hj
            have := (Array.getElem?_eq_some_iff.1 ho).1
            simp at this; omega
          have h0 := hj.1
          simp [Array.getD_eq_getD_getElem?, hlt] at h0
          have : false ∈ listed.toList := by rw [← h0]; simp
          have := List.count_pos_iff.2 this
          omega
      exact ⟨hr, hdone listed a w hs hG hr⟩
    | succ fuel ih =>
      intro listed a w hs hd hG hcount
      refine ⟨hdone listed a w hs hG, fun i hi => ?_⟩
      rw [mem_ready] at hi
      obtain ⟨hi0, o, ho, hpre⟩ := hi
      have hil : i < l.length := by have := (Array.getElem?_eq_some_iff.1 ho).1; simpa using this
      have hol : l[i]? = some o := by simpa using ho
      have hi0' : listed.getD i false = false := by
        have : i < listed.size := by omega
        simp [Array.getD_eq_getD_getElem?, this] at hi0 ⊢
        exact hi0
      obtain ⟨rw, hrw⟩ : ∃ rw, tr[i]? = some rw := ⟨tr[i]'(by omega), by simp [hlen, hil]⟩
      have hok := ht.ok i o rw hol hrw
      obtain ⟨E, hG⟩ := hG
      -- what is listed, or is i, is closed
      have hcl1 : ∀ j i', j < l.length → listed.getD j false = true → ((befs #[] l).getD j 0).testBit i' = true → listed.getD i' false = true :=
        fun j i' hj => befs_ok (fun j => listed.getD j false = true) l #[] (by intro j i h; simp at h) (fun k o hk hs e he hb => hd k (by simpa using hs) o hk e he hb) (fun k o hk e he hb => by have := hE k o hk e he hb; simpa using this) j i' (by simpa using hj)
      have hbi : ∀ i', ((befs #[] l).getD i 0).testBit i' = true → i' = i ∨ listed.getD i' false = true := by
        intro i' hb
        refine befs_ok (fun j => j = i ∨ listed.getD j false = true) l #[] (by intro j i h; simp at h) (fun k o' hk hs e he hbd => ?_) (fun k o hk e he hb => by have := hE k o hk e he hb; simpa using this) i i' (by simpa using hil) (.inl rfl) hb
        simp only [List.size_toArray, List.length_nil, Nat.zero_add] at hs
        rcases hs with rfl | hs
        · rw [hol] at hk; cases hk; exact .inr (hpre e he hbd)
        · exact .inr (hd k hs o' hk e he hbd)
      have hcla : ∀ j b, tr[j]? = some b → i < j → clash (fpOf rw) (fpOf b) = true → ((befs #[] l).getD j 0).testBit i = true := fun j b hj hij hcl => by
        have := chkOne_get (tr.map fpOf) 0 (by simpa using chkAll_get (tr.map fpOf) 0 hchk j (fpOf b) (by simp [hj])) i (fpOf rw) (by simp [hrw]) (by omega) hcl
        simpa using this
      have hclb : ∀ j b, tr[j]? = some b → j < i → clash (fpOf b) (fpOf rw) = true → ((befs #[] l).getD i 0).testBit j = true := fun j b hj hij hcl => by
        have := chkOne_get (tr.map fpOf) 0 (by simpa using chkAll_get (tr.map fpOf) 0 hchk i (fpOf rw) (by simp [hrw])) j (fpOf b) (by simp [hj]) (by omega) hcl
        simpa using this
      have hnot : ∀ j b, tr[j]? = some b → i < j → clash (fpOf rw) (fpOf b) = true → listed.getD j false = false := by
        intro j b hj hij hcl
        cases hx : listed.getD j false with
        | false => rfl
        | true =>
          have := hcl1 j i (by have := (List.getElem?_eq_some_iff.1 hj).1; omega) hx (hcla j b hj hij hcl)
          rw [hi0'] at this
          cases this
      have hyes : ∀ j b, tr[j]? = some b → j < i → clash (fpOf b) (fpOf rw) = true → listed.getD j false = true := fun j b hj hij hcl => (hbi j (hclb j b hj hij hcl)).resolve_left (by omega)
      have hread : ∀ x ∈ rw.1, sel (fun j => listed.getD j false) 0 tr σ x.1 = x.2 := by
        intro x hx
        rw [← ht.read 0 i rw hrw x hx]
        refine sel_at _ _ x.1 tr 0 σ σ (fun j b hj hl => ?_) rfl
        have hxl : x.1 ∈ locs rw.1 := List.mem_map.2 ⟨x, hx, rfl⟩
        simp only [Nat.zero_add]
        rcases Nat.lt_trichotomy j i with h | h | h
        · rw [hyes j b hj h (by unfold clash; rw [Bool.or_eq_true]; left; rw [List.any_eq_true]; exact ⟨x.1, hl, by simp [fpOf, hxl]⟩)]
          simp [h]
        · subst h; rw [hi0']; simp
        · rw [hnot j b hj h (by unfold clash; rw [Bool.or_eq_true]; right; rw [List.any_eq_true]; exact ⟨x.1, hxl, by simp [fpOf, hl]⟩)]
          simp; omega
      have hnext : puts (sel (fun j => listed.getD j false) 0 tr σ) rw.2 = sel (fun j => (listed.setIfInBounds i true).getD j false) 0 tr σ := by
        funext x
        by_cases hx : x ∈ locs rw.2
        · symm
          refine sel_last _ x tr 0 i _ _ rw hrw hx (by simp; omega) (fun j b hij hj hl => ?_)
          simp only [Nat.zero_add]
          rw [getD_set_ne false (by omega)]
          exact hnot j b hj hij (by unfold clash; rw [Bool.or_eq_true]; left; rw [List.any_eq_true]; exact ⟨x, hx, by simp [fpOf, hl]⟩)
        · rw [puts_out _ _ _ hx]
          refine sel_at _ _ x tr 0 σ σ (fun j b hj hl => ?_) rfl
          simp only [Nat.zero_add]
          by_cases hji : j = i
          · subst hji; rw [hrw] at hj; cases hj; exact absurd hl hx
          · rw [getD_set_ne false (Ne.symm hji)]
      have hgo := hok E _ a w (fun a' w' => wpAny P .any l.toArray Q fuel (listed.setIfInBounds i true) a' w') Q (dstsOk_get hds hol) hread hG (fun a' w' E' hG' => by
        refine ih (listed.setIfInBounds i true) a' w' (by simpa using hs) (fun j hj o' ho' e he hb => ?_) ⟨E', by rw [← hnext]; exact hG'⟩ ?_
        · by_cases hji : j = i
          · subst hji; rw [hol] at ho'; cases ho'; exact getD_set_true (hpre e he hb)
          · rw [getD_set_ne false (Ne.symm hji)] at hj
            exact getD_set_true (hd j hj o' ho' e he hb)
        · have hlt : i < listed.size := by omega
          have hx : listed[i] = false := by simpa [Array.getD_eq_getD_getElem?, hlt] using hi0'
          have : (listed.setIfInBounds i true).toList.count false = listed.toList.count false - 1 := by
            rw [Array.toList_setIfInBounds]
            have hl' : i < listed.toList.length := by simpa using hlt
            have hx' : listed.toList[i] = false := by rw [Array.getElem_toList]; exact hx
            rw [List.count_set hl', hx']
            simp
          omega)
      unfold wpOp
      rw [ho]
      simp only
      split
      · rename_i hw; rw [if_pos hw] at hgo; exact .inl hgo
      · rename_i hw; rw [if_neg hw] at hgo; exact hgo
  exact key _ _ _ _ (by simp) (fun j hj => by simp [Array.getD_eq_getD_getElem?, Array.getElem?_replicate] at hj; split at hj <;> simp at hj) ⟨E, by
    rw [sel_none tr 0 σ _ (fun j hj => by simp [Array.getElem?_replicate]; split <;> rfl)]; exact hg.drawn _⟩ (by simp)

theorem region_row {id : Nat} {Q : Exit → Act → World → Prop} {l : List Oper} {σ σ' : St} {tr : List RW} {a : Act} {w : World} {E : Env}
    (ht : Tr P l.toArray C l σ tr σ') (hds : dstsOk C.nt l = true) (hg : Gm C E σ a w) (hQ : ∀ E a w, Gm C E σ' a w → Q .normal a w) : (Code.region id l.toArray false).wp P Q a w := by
  apply wp_region_lit
  have : ∀ (r : List Oper) (σ : St) (tr : List RW) (E : Env) (a : Act) (w : World), dstsOk C.nt r = true → Tr P l.toArray C r σ tr σ' → Gm C E σ a w → wpList P l.toArray Q r a w := by
    intro r
    induction r with
    | nil => intro σ tr E a w _ h hg; cases h; exact wpList_nil (hQ E a w hg)
    | cons o r ih =>
      intro σ tr E a w hds h hg
      have h0 := dstsOk_get hds (i := 0) (o := o) rfl
      have h1 : dstsOk C.nt r = true := by unfold dstsOk at hds ⊢; rw [List.all_cons, Bool.and_eq_true] at hds; exact hds.2
      cases h with
      | cons _ _ _ _ R W tr h hr ht => exact wpList_step fun K hK => h E σ a w K Q h0 hr hg fun a' w' E' hG => hK _ _ (ih _ _ E' a' w' h1 ht hG)
  exact this l σ tr E a w hds ht hg
end
end Go.Proofs.YtojcjbaimdjhoaaGreatDoor
