
/- Package net: the plain law: bags of datagrams, by directions and paths. -/
import Derived.Test.YtdkgnlmojmafbaaRU
namespace Go.Proofs.Ytdkgnlmojmafbaa
open Go.RowKit
set_option linter.unusedVariables false
set_option linter.unusedSimpArgs false

abbrev Ln := Int × Int
abbrev Bags := List (Ln × List (List UInt8))
def getB : Bags → Ln → Option (List (List UInt8))
  | [], _ => none
  | p :: m, l => if p.1 = l then some p.2 else getB m l
def setB : Bags → Ln → List (List UInt8) → Bags
  | [], l, b => [(l, b)]
  | p :: m, l, b => if p.1 = l then (l, b) :: m else p :: setB m l b
def delB : Bags → Ln → Bags
  | [], _ => []
  | p :: m, l => if p.1 = l then m else p :: delB m l
def bagB (m : Bags) (l : Ln) : List (List UInt8) := (getB m l).getD []
def lnV (l : Ln) : Value := .agg #[.int .i64 l.1, .int .i64 l.2]
theorem lnV_inj {l l' : Ln} : lnV l = lnV l' ↔ l = l' := by
  unfold lnV
  constructor
  · intro h
    simp at h
    exact Prod.ext h.1 h.2
  · rintro rfl; rfl
def rowB (e : TypeId) (b : List (List UInt8)) : T := .rw e 1 (b.map fun s => [vs s])
def kvB (e : TypeId) (m : Bags) : List (Value × T) := m.map fun p => (lnV p.1, rowB e p.2)
theorem kv_get (e : TypeId) (l : Ln) : ∀ m : Bags, kvGet (kvB e m) (lnV l) = (getB m l).map (rowB e)
  | [] => rfl
  | p :: m => by
    unfold kvB getB
    rw [List.map_cons, kvGet_cons]
    by_cases h : p.1 = l
    · rw [if_pos h, if_pos (lnV_inj.2 h)]; rfl
    · rw [if_neg h, if_neg (fun e => h (lnV_inj.1 e))]
      exact kv_get e l m
theorem kv_set (e : TypeId) (l : Ln) (b : List (List UInt8)) : ∀ m : Bags, kvSet (kvB e m) (lnV l) (rowB e b) = kvB e (setB m l b)
  | [] => rfl
  | p :: m => by
    unfold kvB setB
    rw [List.map_cons, kvSet_cons]
    by_cases h : p.1 = l
    · rw [if_pos h, if_pos (lnV_inj.2 h)]; rfl
    · rw [if_neg h, if_neg (fun e => h (lnV_inj.1 e)), List.map_cons]
      congr 1
      exact kv_set e l b m
theorem kvDel_cons {p : Value × T} {l : List (Value × T)} {k : Value} : kvDel (p :: l) k = open Classical in if p.1 = k then l else p :: kvDel l k := rfl
theorem kv_del (e : TypeId) (l : Ln) : ∀ m : Bags, kvDel (kvB e m) (lnV l) = kvB e (delB m l)
  | [] => rfl
  | p :: m => by
    unfold kvB delB
    rw [List.map_cons, kvDel_cons]
    by_cases h : p.1 = l
    · rw [if_pos h, if_pos (lnV_inj.2 h)]
    · rw [if_neg h, if_neg (fun e => h (lnV_inj.1 e)), List.map_cons]
      congr 1
      exact kv_del e l m
theorem getB_at (e : TypeId) (l : Ln) (b : List (List UInt8)) : ∀ m : Bags, getB m l = some b → ∃ j : Nat, (kvB e m)[j]? = some (lnV l, rowB e b)
  | [], h => by cases h
  | p :: m, h => by
    unfold getB at h
    by_cases hp : p.1 = l
    · rw [if_pos hp] at h
      refine ⟨0, ?_⟩
      injection h with h
      subst h hp
      rfl
    · rw [if_neg hp] at h
      obtain ⟨j, hj⟩ := getB_at e l b m h
      exact ⟨j + 1, hj⟩
theorem kvB_keys (e : TypeId) (m : Bags) : (kvB e m).map (·.1) = (m.map (·.1)).map lnV := by
  unfold kvB
  rw [List.map_map, List.map_map]
  rfl
theorem kvB_nodup (e : TypeId) {m : Bags} (h : (m.map (·.1)).Nodup) : ((kvB e m).map (·.1)).Nodup := by
  rw [kvB_keys]
  exact List.Pairwise.map _ (fun a b hab he => hab (lnV_inj.1 he)) h
/-- An entry that was taken out, and is put in again. -/
theorem kv_over {kvs : List (Value × T)} (hn : (kvs.map (·.1)).Nodup) {j : Nat} {k : Value} {y a : T} (hj : kvs[j]? = some (k, y)) :
    (∀ x, kvSet (kvs.set j (k, a)) k x = kvSet kvs k x) ∧ kvGet (kvs.set j (k, a)) k = some a ∧ (kvs.set j (k, a)).set j (k, y) = kvs ∧ (kvs.set j (k, a))[j]? = some (k, a) ∧ (kvs.set j (k, a)).map (·.1) = kvs.map (·.1) := by
  have hl := (List.getElem?_eq_some_iff.1 hj).1
  have hk := set_fst (y := a) hj
  have h2 : (kvs.set j (k, a))[j]? = some (k, a) := by rw [List.getElem?_set_self hl]
  obtain ⟨a1, a2, _⟩ := kv_at (by rw [hk]; exact hn) h2
  obtain ⟨b1, b2, _⟩ := kv_at hn hj
  refine ⟨fun x => by rw [a2, b2, List.set_set], a1, ?_, h2, hk⟩
  rw [List.set_set]
  apply List.ext_getElem?
  intro i
  rw [List.getElem?_set]
  split
  · rename_i e; subst e; rw [hj]; try simp [hl]
  · rfl
/-- What a net is. -/
structure N28 where
  most : Int
  bytes : Int
  m : Bags
  sent : Int
  lost : Int
  taken : Int
  twins : Int
  turned : Int
  forged : Int
def sumB : List (List UInt8) → Nat
  | [] => 0
  | s :: b => s.length + sumB b
theorem sumB_app : ∀ a b : List (List UInt8), sumB (a ++ b) = sumB a + sumB b
  | [], b => by simp [sumB]
  | s :: a, b => by simp [sumB, sumB_app a b]; omega
theorem sumB_take (b : List (List UInt8)) (j : Nat) : sumB (b.take j) ≤ sumB b := by
  have := sumB_app (b.take j) (b.drop j)
  rw [List.take_append_drop] at this
  omega
theorem sumB_mem {b : List (List UInt8)} {s : List UInt8} (h : s ∈ b) : s.length ≤ sumB b := by
  induction b with
  | nil => cases h
  | cons x b ih =>
    unfold sumB
    rcases List.mem_cons.1 h with rfl | h
    · omega
    · have := ih h; omega
theorem sumB_erase (b : List (List UInt8)) (j : Nat) : sumB (b.eraseIdx j) ≤ sumB b := by
  induction b generalizing j with
  | nil => simp [sumB]
  | cons x b ih =>
    cases j with
    | zero => simp [sumB]
    | succ j => simp [sumB]; exact ih j
def lnOk (l : Ln) : Bool := decide ((l.1 = 0 ∨ l.1 = 1) ∧ 1 ≤ l.2 ∧ l.2 ≤ 15)
def canB (N : N28) (l : Ln) (s : List UInt8) : Bool := decide (lnOk l = true ∧ s ≠ [] ∧ s.length ≤ 1500 ∧ ((bagB N.m l).length : Int) < N.most ∧ ((sumB (bagB N.m l) + s.length : Nat) : Int) ≤ N.bytes)
def putB (N : N28) (l : Ln) (s : List UInt8) : N28 := if canB N l s = true then { N with m := setB N.m l (bagB N.m l ++ [s]) } else N
def isB (N : N28) (l : Ln) (i : Int) : Bool := decide (0 ≤ i ∧ i < ((bagB N.m l).length : Int))
def atB (N : N28) (l : Ln) (i : Int) : List UInt8 := if isB N l i = true then (bagB N.m l).getD i.toNat [] else []
def lessB (m : Bags) (l : Ln) (b : List (List UInt8)) : Bags := if b = [] then delB m l else setB m l b
def cutB (N : N28) (l : Ln) (i : Int) : N28 := if isB N l i = true then { N with m := lessB N.m l ((bagB N.m l).eraseIdx i.toNat) } else N
/-- What holds of a net: not too much of it. -/
structure N28.Ok (N : N28) (K : Int) : Prop where
  most : 1 ≤ N.most ∧ N.most ≤ 1024
  bytes : 1 ≤ N.bytes ∧ N.bytes ≤ 16777216
  nd : (N.m.map (·.1)).Nodup
  bags : ∀ p ∈ N.m, lnOk p.1 = true ∧ p.2 ≠ [] ∧ (p.2.length : Int) ≤ N.most ∧ (sumB p.2 : Int) ≤ N.bytes
  c1 : 0 ≤ N.sent ∧ N.sent ≤ K
  c2 : 0 ≤ N.lost ∧ N.lost ≤ K
  c3 : 0 ≤ N.taken ∧ N.taken ≤ K
  c4 : 0 ≤ N.twins ∧ N.twins ≤ K
  c5 : 0 ≤ N.turned ∧ N.turned ≤ K
  c6 : 0 ≤ N.forged ∧ N.forged ≤ K
theorem getB_mem {l : Ln} {b : List (List UInt8)} : ∀ {m : Bags}, getB m l = some b → (l, b) ∈ m
  | p :: m, h => by
    unfold getB at h
    by_cases hp : p.1 = l
    · rw [if_pos hp] at h; injection h with h; subst h hp; simp
    · rw [if_neg hp] at h; exact List.mem_cons_of_mem _ (getB_mem h)
theorem bagB_small {N : N28} {K : Int} (h : N.Ok K) (l : Ln) : ((bagB N.m l).length : Int) ≤ N.most ∧ (sumB (bagB N.m l) : Int) ≤ N.bytes := by
  unfold bagB
  cases hb : getB N.m l with
  | none =>
    have h1 := h.most
    have h2 := h.bytes
    simp [sumB]
    omega
  | some b => exact (h.bags _ (getB_mem hb)).2.2
theorem setB_mem {l : Ln} {b : List (List UInt8)} : ∀ {m : Bags} {p : Ln × List (List UInt8)}, p ∈ setB m l b → p = (l, b) ∨ p ∈ m
  | [], p, h => by simp [setB] at h; exact .inl h
  | q :: m, p, h => by
    unfold setB at h
    split at h
    · rcases List.mem_cons.1 h with h | h
      · exact .inl h
      · exact .inr (List.mem_cons_of_mem _ h)
    · rcases List.mem_cons.1 h with h | h
      · subst h; exact .inr (by simp)
      · rcases setB_mem h with h | h
        · exact .inl h
        · exact .inr (List.mem_cons_of_mem _ h)
theorem setB_nodup {l : Ln} {b : List (List UInt8)} : ∀ {m : Bags}, (m.map (·.1)).Nodup → ((setB m l b).map (·.1)).Nodup
  | [], _ => by simp [setB]
  | q :: m, h => by
    rw [List.map_cons, List.nodup_cons] at h
    unfold setB
    split
    · rename_i e
      rw [List.map_cons, List.nodup_cons]
      exact ⟨by rw [← e]; exact h.1, h.2⟩
    · rename_i e
      rw [List.map_cons, List.nodup_cons]
      refine ⟨fun hm => ?_, setB_nodup h.2⟩
      obtain ⟨p, hp, hpe⟩ := List.mem_map.1 hm
      rcases setB_mem hp with rfl | hp
      · exact e hpe.symm
      · exact h.1 (List.mem_map.2 ⟨p, hp, hpe⟩)
theorem delB_sub {l : Ln} : ∀ {m : Bags}, (delB m l).Sublist m
  | [] => List.Sublist.slnil
  | q :: m => by
    unfold delB
    split
    · exact List.sublist_cons_self ..
    · exact delB_sub.cons_cons _
theorem getB_set {l l' : Ln} {b : List (List UInt8)} : ∀ {m : Bags}, getB (setB m l b) l' = if l = l' then some b else getB m l'
  | [] => by
    unfold setB getB
    rfl
  | q :: m => by
    unfold setB
    by_cases h : q.1 = l
    · rw [if_pos h]
      by_cases h2 : l = l'
      · rw [if_pos h2]; unfold getB; rw [if_pos h2]
      · rw [if_neg h2]; unfold getB; rw [if_neg h2, if_neg (by rw [h]; exact h2)]
    · rw [if_neg h]
      unfold getB
      by_cases h2 : q.1 = l'
      · rw [if_pos h2, if_pos h2, if_neg (by rw [← h2]; exact fun e => h e.symm)]
      · rw [if_neg h2, if_neg h2]; exact getB_set
theorem getB_none {l : Ln} : ∀ {m : Bags}, l ∉ m.map (·.1) → getB m l = none
  | [], _ => rfl
  | q :: m, h => by
    simp only [List.map_cons, List.mem_cons, not_or] at h
    unfold getB
    rw [if_neg (fun e => h.1 e.symm)]
    exact getB_none h.2
theorem getB_del {l l' : Ln} : ∀ {m : Bags}, (m.map (·.1)).Nodup → getB (delB m l) l' = if l = l' then none else getB m l'
  | [], _ => by simp [delB, getB]
  | q :: m, hn => by
    rw [List.map_cons, List.nodup_cons] at hn
    unfold delB
    by_cases h : q.1 = l
    · rw [if_pos h]
      by_cases h2 : l = l'
      · rw [if_pos h2, ← h2, ← h]; exact getB_none hn.1
      · rw [if_neg h2]
        show _ = getB (q :: m) l'
        unfold getB
        rw [if_neg (by rw [h]; exact h2)]
        cases m <;> rfl
    · rw [if_neg h]
      unfold getB
      by_cases h2 : q.1 = l'
      · rw [if_pos h2, if_pos h2, if_neg (by rw [← h2]; exact fun e => h e.symm)]
      · rw [if_neg h2, if_neg h2]; exact getB_del hn.2
theorem bagB_set {l l' : Ln} {b : List (List UInt8)} {m : Bags} : bagB (setB m l b) l' = if l = l' then b else bagB m l' := by
  unfold bagB
  rw [getB_set]
  split <;> rfl
theorem bagB_less {l l' : Ln} {b : List (List UInt8)} {m : Bags} (hn : (m.map (·.1)).Nodup) : bagB (lessB m l b) l' = if l = l' then b else bagB m l' := by
  unfold lessB
  split
  · rename_i h
    unfold bagB
    rw [getB_del hn]
    split
    · rw [h]; rfl
    · rfl
  · exact bagB_set
theorem N28.Ok.mono {N : N28} {K K' : Int} (h : N.Ok K) (hk : K ≤ K') : N.Ok K' :=
  ⟨h.most, h.bytes, h.nd, h.bags, ⟨h.c1.1, by have := h.c1.2; omega⟩, ⟨h.c2.1, by have := h.c2.2; omega⟩, ⟨h.c3.1, by have := h.c3.2; omega⟩, ⟨h.c4.1, by have := h.c4.2; omega⟩, ⟨h.c5.1, by have := h.c5.2; omega⟩, ⟨h.c6.1, by have := h.c6.2; omega⟩⟩
theorem put_ok {N : N28} {K : Int} (h : N.Ok K) (l : Ln) (s : List UInt8) : (putB N l s).Ok K := by
  unfold putB
  split
  · rename_i hc
    unfold canB at hc
    rw [decide_eq_true_eq] at hc
    obtain ⟨a1, a2, a3, a4, a5⟩ := hc
    refine ⟨h.most, h.bytes, setB_nodup h.nd, fun p hp => ?_, h.c1, h.c2, h.c3, h.c4, h.c5, h.c6⟩
    rcases setB_mem hp with rfl | hp
    · refine ⟨a1, by simp, ?_, ?_⟩
      · dsimp only; rw [List.length_append, List.length_singleton]; omega
      · dsimp only; rw [sumB_app]; simp only [sumB]; omega
    · exact h.bags p hp
  · exact h
theorem cut_ok {N : N28} {K : Int} (h : N.Ok K) (l : Ln) (i : Int) : (cutB N l i).Ok K := by
  unfold cutB
  split
  · rename_i hc
    refine ⟨h.most, h.bytes, ?_, fun p hp => ?_, h.c1, h.c2, h.c3, h.c4, h.c5, h.c6⟩
    · dsimp only
      unfold lessB
      split
      · exact h.nd.sublist (delB_sub.map _)
      · exact setB_nodup h.nd
    · dsimp only at hp
      unfold lessB at hp
      split at hp
      · exact h.bags p (delB_sub.subset hp)
      · rename_i hb
        rcases setB_mem hp with rfl | hp
        · have h1 := bagB_small h l
          have h2 := sumB_erase (bagB N.m l) i.toNat
          have h3 : (bagB N.m l) ≠ [] := fun e => hb (by rw [e]; rfl)
          have h4 : lnOk l = true := by
            unfold bagB at h3
            cases hg : getB N.m l with
            | none => rw [hg] at h3; exact absurd rfl h3
            | some b => exact (h.bags _ (getB_mem hg)).1
          refine ⟨h4, hb, ?_, ?_⟩
          · dsimp only
            have := List.length_eraseIdx_le (bagB N.m l) i.toNat
            omega
          · dsimp only; omega
        · exact h.bags p hp
  · exact h
end Go.Proofs.Ytdkgnlmojmafbaa
