
/- Layer 23: a frame in parts, in plain Lean: parts by their places. -/
import Derived.Test.YtekpaepkoeelfaaRB
import Derived.Test.YtekpaepkoeelfaaRP
namespace Go.Proofs.Ytekpaepkoeelfaa
open Go.RowKit
set_option linter.unusedVariables false
set_option linter.unusedSimpArgs false

/-- A frame: its time, of how many parts, since when, and the parts that are there. -/
structure Fr where
  tm : Nat
  n : Nat
  t0 : Int
  ps : List (Nat × List UInt8)
def sumP : List (Nat × List UInt8) → Nat
  | [] => 0
  | p :: l => p.2.length + sumP l
def getP : List (Nat × List UInt8) → Nat → Option (List UInt8)
  | [], _ => none
  | p :: l, i => if p.1 = i then some p.2 else getP l i
theorem sumP_app (a b : List (Nat × List UInt8)) : sumP (a ++ b) = sumP a + sumP b := by
  induction a with
  | nil => simp [sumP]
  | cons p a ih => rw [List.cons_append, sumP, sumP, ih]; omega
theorem getP_mem {i : Nat} {s : List UInt8} : ∀ {l : List (Nat × List UInt8)}, getP l i = some s → (i, s) ∈ l
  | [], h => by cases h
  | p :: l, h => by
    unfold getP at h
    by_cases e : p.1 = i
    · rw [if_pos e] at h
      cases h
      subst e
      exact List.mem_cons_self ..
    · rw [if_neg e] at h
      exact List.mem_cons_of_mem _ (getP_mem h)
theorem getP_none {i : Nat} : ∀ {l : List (Nat × List UInt8)}, getP l i = none → i ∉ l.map (·.1)
  | [], _ => by simp
  | p :: l, h => by
    unfold getP at h
    by_cases e : p.1 = i
    · rw [if_pos e] at h; cases h
    · rw [if_neg e] at h
      rw [List.map_cons, List.mem_cons, not_or]
      exact ⟨fun q => e q.symm, getP_none h⟩
theorem getP_app {i : Nat} : ∀ (a b : List (Nat × List UInt8)), getP (a ++ b) i = (getP a i).or (getP b i)
  | [], b => by simp [getP]
  | p :: a, b => by
    rw [List.cons_append, getP, getP, getP_app a b]
    split <;> simp
def newF (t : Nat) (c : Int) (now : Int) : Fr := ⟨t, (max 1 (min c 255)).toNat, now, []⟩
def wholeF (f : Fr) : Bool := decide (f.ps.length = f.n)
def putF (f : Fr) (i c : Int) (s : List UInt8) : Fr × Int :=
  if c ≠ f.n ∨ i < 0 ∨ (f.n : Int) ≤ i then (f, 4)
  else if (getP f.ps i.toNat).isSome = true then (f, 3)
  else ({ f with ps := f.ps ++ [(i.toNat, s)] }, if f.ps.length + 1 = f.n then 2 else 1)
/-- The parts from a place on. -/
def catF (ps : List (Nat × List UInt8)) : Nat → List UInt8
  | 0 => []
  | n + 1 => catF ps n ++ (getP ps n).getD []
def dataF (f : Fr) : List UInt8 := if wholeF f = true then catF f.ps f.n else []
structure Fr.Ok (f : Fr) : Prop where
  tm : f.tm < 4294967296
  n0 : 1 ≤ f.n
  n1 : f.n ≤ 255
  t0 : -1099511627776 ≤ f.t0
  t1 : f.t0 ≤ 1099511627776
  nd : (f.ps.map (·.1)).Nodup
  lt : ∀ p ∈ f.ps, p.1 < f.n
  sz : ∀ p ∈ f.ps, p.2.length ≤ 1048576
theorem nodup_lt_len : ∀ {n : Nat} {l : List Nat}, l.Nodup → (∀ x ∈ l, x < n) → l.length ≤ n
  | 0, [], _, _ => Nat.le_refl _
  | 0, x :: l, _, h => absurd (h x (List.mem_cons_self ..)) (by omega)
  | n + 1, l, hn, h => by
    have h1 := nodup_lt_len (n := n) (l := l.erase n) (hn.erase n) fun x hx => by
      have h2 := h x (List.mem_of_mem_erase hx)
      have h3 := ((List.Nodup.mem_erase_iff hn).1 hx).1
      omega
    have h4 := List.length_erase (a := n) (l := l)
    split at h4 <;> omega
theorem Fr.Ok.len {f : Fr} (h : f.Ok) : f.ps.length ≤ f.n := by
  have := nodup_lt_len (n := f.n) h.nd fun x hx => by
    obtain ⟨p, hp, rfl⟩ := List.mem_map.1 hx
    exact h.lt p hp
  simpa using this
theorem sumP_le : ∀ {l : List (Nat × List UInt8)}, (∀ p ∈ l, p.2.length ≤ 1048576) → sumP l ≤ 1048576 * l.length
  | [], _ => by simp [sumP]
  | p :: l, h => by
    have h1 := h p (List.mem_cons_self ..)
    have h2 := sumP_le (l := l) fun q hq => h q (List.mem_cons_of_mem _ hq)
    rw [sumP, List.length_cons]
    omega
theorem Fr.Ok.sum {f : Fr} (h : f.Ok) : sumP f.ps ≤ 267386880 := by
  have h1 := sumP_le h.sz
  have h2 := h.len
  have h3 := h.n1
  omega
theorem newF_ok {t : Nat} (c : Int) {now : Int} (h1 : t < 4294967296) (h2 : -1099511627776 ≤ now) (h3 : now ≤ 1099511627776) : (newF t c now).Ok :=
  ⟨h1, by unfold newF; dsimp only; omega, by unfold newF; dsimp only; omega, h2, h3, by simp [newF], by simp [newF], by simp [newF]⟩
theorem putF_ok {f : Fr} (h : f.Ok) (i c : Int) {s : List UInt8} (hs : s.length ≤ 1048576) : (putF f i c s).1.Ok := by
  unfold putF
  split
  · exact h
  · rename_i h1
    split
    · exact h
    · rename_i h2
      have hn : getP f.ps i.toNat = none := by
        cases hg : getP f.ps i.toNat with
        | none => rfl
        | some s => rw [hg] at h2; exact absurd rfl h2
      refine ⟨h.tm, h.n0, h.n1, h.t0, h.t1, ?_, fun p hp => ?_, fun p hp => ?_⟩
      · dsimp only
        rw [List.map_append]
        refine List.nodup_append.2 ⟨h.nd, by simp, fun a ha b hb => ?_⟩
        simp at hb
        subst hb
        exact fun e => getP_none hn (e ▸ ha)
      · rcases List.mem_append.1 hp with hp | hp
        · exact h.lt p hp
        · simp at hp
          subst hp
          dsimp only
          omega
      · rcases List.mem_append.1 hp with hp | hp
        · exact h.sz p hp
        · simp at hp
          subst hp
          exact hs
theorem catF_len {ps : List (Nat × List UInt8)} (h : ∀ p ∈ ps, p.2.length ≤ 1048576) : ∀ n, (catF ps n).length ≤ 1048576 * n
  | 0 => by simp [catF]
  | n + 1 => by
    have h1 := catF_len h n
    rw [catF, List.length_append]
    cases hg : getP ps n with
    | none => simp; omega
    | some s =>
      have := h _ (getP_mem hg)
      dsimp only at this
      simp
      omega
/-! ### As a map -/
def kvF (ps : List (Nat × List UInt8)) : List (Value × T) := ps.map fun p => (.int .i64 p.1, .av (vs p.2))
theorem i64_inj {a b : Int} : Value.int .i64 a = Value.int .i64 b ↔ a = b := by
  constructor
  · intro h; injection h
  · rintro rfl; rfl
theorem kvF_nodup {ps : List (Nat × List UInt8)} (h : (ps.map (·.1)).Nodup) : ((kvF ps).map (·.1)).Nodup := by
  induction ps with
  | nil => exact List.nodup_nil
  | cons p ps ih =>
    simp only [List.map_cons, List.nodup_cons] at h
    unfold kvF
    simp only [List.map_cons, List.nodup_cons]
    refine ⟨fun hm => h.1 ?_, ih h.2⟩
    obtain ⟨q, hq, he⟩ := List.mem_map.1 hm
    obtain ⟨r, hr, rfl⟩ := List.mem_map.1 hq
    have he : (r.1 : Int) = p.1 := i64_inj.1 he
    exact List.mem_map.2 ⟨r, hr, by omega⟩
theorem kvGet_in : ∀ {l : List (Value × T)} {k : Value} {y : T}, (l.map (·.1)).Nodup → (k, y) ∈ l → kvGet l k = some y := fun {l k y} hn h => by
  obtain ⟨j, hj, he⟩ := List.getElem_of_mem h
  exact (kv_at hn (by rw [List.getElem?_eq_getElem hj, he])).1
theorem kvP_get {ps : List (Nat × List UInt8)} (hn : (ps.map (·.1)).Nodup) {kvs : List (Value × T)} (hp : kvs.Perm (kvF ps)) {i : Int} (h0 : 0 ≤ i) : kvGet kvs (.int .i64 i) = (getP ps i.toNat).map fun s => .av (vs s) := by
  have hk : (kvs.map (·.1)).Nodup := ((hp.map (·.1)).nodup_iff).2 (kvF_nodup hn)
  cases hg : getP ps i.toNat with
  | some s =>
    refine kvGet_in hk (hp.mem_iff.2 (List.mem_map.2 ⟨(i.toNat, s), getP_mem hg, ?_⟩))
    dsimp only
    rw [show ((i.toNat : Nat) : Int) = i by omega]
  | none =>
    refine kvGet_none fun h => getP_none hg ?_
    obtain ⟨q, hq, he⟩ := List.mem_map.1 h
    obtain ⟨p, hp', rfl⟩ := List.mem_map.1 (hp.mem_iff.1 hq)
    have he : (p.1 : Int) = i := i64_inj.1 he
    exact List.mem_map.2 ⟨p, hp', by omega⟩
theorem kvP_neg {ps : List (Nat × List UInt8)} {kvs : List (Value × T)} (hp : kvs.Perm (kvF ps)) {i : Int} (h0 : i < 0) : kvGet kvs (.int .i64 i) = none := by
  refine kvGet_none fun h => ?_
  obtain ⟨q, hq, he⟩ := List.mem_map.1 h
  obtain ⟨p, hp', rfl⟩ := List.mem_map.1 (hp.mem_iff.1 hq)
  have he : (p.1 : Int) = i := i64_inj.1 he
  omega
theorem kvP_keys {ps : List (Nat × List UInt8)} {kvs : List (Value × T)} (hp : kvs.Perm (kvF ps)) : keysIs (.int .i64) (kvs.map (·.1)) := keysIs_of fun k hk => by
  obtain ⟨q, hq, rfl⟩ := List.mem_map.1 hk
  obtain ⟨p, _, rfl⟩ := List.mem_map.1 (hp.mem_iff.1 hq)
  exact rfl
theorem kvP_set {ps : List (Nat × List UInt8)} {kvs : List (Value × T)} (hp : kvs.Perm (kvF ps)) {i : Int} (h0 : 0 ≤ i) (hg : getP ps i.toNat = none) (s : List UInt8) : kvSet kvs (.int .i64 i) (.av (vs s)) = kvs ++ [(.int .i64 i, .av (vs s))] ∧ (kvs ++ [(Value.int .i64 i, T.av (vs s))]).Perm (kvF (ps ++ [(i.toNat, s)])) := by
  refine ⟨kvSet_none fun h => getP_none hg ?_, ?_⟩
  · obtain ⟨q, hq, he⟩ := List.mem_map.1 h
    obtain ⟨p, hp', rfl⟩ := List.mem_map.1 (hp.mem_iff.1 hq)
    have he : (p.1 : Int) = i := i64_inj.1 he
    exact List.mem_map.2 ⟨p, hp', by omega⟩
  · unfold kvF
    rw [List.map_append]
    have : [(Value.int .i64 i, T.av (vs s))] = [(i.toNat, s)].map fun p : Nat × List UInt8 => (Value.int .i64 p.1, T.av (vs p.2)) := by
      simp
      omega
    rw [← this]
    exact hp.append_right _
theorem kvP_len {ps : List (Nat × List UInt8)} {kvs : List (Value × T)} (hp : kvs.Perm (kvF ps)) : kvs.length = ps.length := by rw [hp.length_eq]; simp [kvF]
/-- A frame's cells. -/
def frO (f : Fr) : List CA := [.val (vu f.tm), .val (vi f.n), .val (vi f.t0), .hd (.pm (kvF f.ps)), .val (vi (sumP f.ps))]
def frT (f : Fr) : List T := [.av (vu f.tm), .av (vi f.n), .av (vi f.t0), .pm (kvF f.ps), .av (vi (sumP f.ps))]
theorem frT_ca (f : Fr) : (frT f).map toCA = frO f := rfl
attribute [go_sem] frO frT_ca
end Go.Proofs.Ytekpaepkoeelfaa
