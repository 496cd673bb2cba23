
/- Layer 24: frames that wait, in plain Lean. -/
import Derived.Test.YtekpaepkoeelfaaSplM
namespace Go.Proofs.Ytekpaepkoeelfaa
open Go.RowKit
set_option linter.unusedVariables false
set_option linter.unusedSimpArgs false

/-- Frames that wait; how many may; the horizon; how many were played, dropped, evicted. -/
structure Bu where
  cf : Int
  cp : Int
  cb : Int
  l : List Fr
  hz : Int
  pl : Int
  dr : Int
  ev : Int
def pkts : List Fr → Nat
  | [] => 0
  | f :: l => f.ps.length + pkts l
def bts : List Fr → Nat
  | [] => 0
  | f :: l => sumP f.ps + bts l
theorem pkts_app (a b : List Fr) : pkts (a ++ b) = pkts a + pkts b := by
  induction a with
  | nil => simp [pkts]
  | cons p a ih => rw [List.cons_append, pkts, pkts, ih]; omega
theorem bts_app (a b : List Fr) : bts (a ++ b) = bts a + bts b := by
  induction a with
  | nil => simp [bts]
  | cons p a ih => rw [List.cons_append, bts, bts, ih]; omega
structure Bu.Cfg (b : Bu) : Prop where
  f0 : 1 ≤ b.cf
  f1 : b.cf ≤ 1024
  p0 : 1 ≤ b.cp
  p1 : b.cp ≤ 65536
  b0 : 1 ≤ b.cb
  b1 : b.cb ≤ 67108864
/-- More wait than may. -/
def overB (b : Bu) : Bool := decide (b.cf < b.l.length ∨ b.cp < pkts b.l ∨ b.cb < bts b.l)
/-- Rising, each may be; counts are small. -/
structure Bu.Ok (b : Bu) (K : Int) : Prop extends b.Cfg where
  fr : ∀ f ∈ b.l, f.Ok
  so : b.l.Pairwise fun f g => f.tm < g.tm
  hl : ∀ f ∈ b.l, b.hz < f.tm
  h0 : -1 ≤ b.hz
  h1 : b.hz < 4294967296
  c0 : 0 ≤ b.pl
  c1 : b.pl ≤ K
  d0 : 0 ≤ b.dr
  d1 : b.dr ≤ K
  e0 : 0 ≤ b.ev
  e1 : b.ev ≤ K
  no : overB b = false
def newB24 (f p c : Int) : Bu := ⟨max 1 (min f 1024), max 1 (min p 65536), max 1 (min c 67108864), [], -1, 0, 0, 0⟩
theorem newB24_ok (f p c : Int) : (newB24 f p c).Ok 0 :=
  ⟨⟨by unfold newB24; dsimp only; omega, by unfold newB24; dsimp only; omega, by unfold newB24; dsimp only; omega, by unfold newB24; dsimp only; omega, by unfold newB24; dsimp only; omega, by unfold newB24; dsimp only; omega⟩,
    by simp [newB24], by simp [newB24], by simp [newB24], by simp [newB24], by simp [newB24], by simp [newB24], by simp [newB24], by simp [newB24], by simp [newB24], by simp [newB24], by simp [newB24], by
      unfold overB newB24
      exact decide_eq_false (by simp [pkts, bts]; omega)⟩
/-- How many have a lesser time. -/
def atF (l : List Fr) (t : Nat) : Nat := (l.takeWhile fun f => decide (f.tm < t)).length
def isF (l : List Fr) (t : Nat) : Bool := match l[atF l t]? with | some f => decide (f.tm = t) | none => false
/-- The frame of a time is there. -/
def frameB (b : Bu) (t : Nat) (c now : Int) : Bu := if isF b.l t = true then b else { b with l := b.l.take (atF b.l t) ++ newF t c now :: b.l.drop (atF b.l t) }
/-- The frame of the least time goes. -/
def popB (b : Bu) : Bu := match b.l with | [] => b | f :: l => { b with l := l, hz := f.tm }
/-- While more wait than may, the first one goes. -/
def evictB (t : Nat) : Nat → Bu → Int → List Nat → Bu × Int × List Nat
  | 0, b, k, e => (b, k, e)
  | n + 1, b, k, e => if overB b = true then (match b.l with
    | [] => (b, k, e)
    | f :: l => evictB t n { b with l := l, hz := f.tm, ev := b.ev + 1 } (if f.tm = t then 6 else k) (e ++ [f.tm])) else (b, k, e)
def badB (i c : Int) : Bool := decide (c < 1 ∨ 255 < c ∨ i < 0 ∨ c ≤ i)
/-- The frame of a time takes a part. -/
def partB (b : Bu) (j : Nat) (i c : Int) (s : List UInt8) : Bu × Int := match b.l[j]? with
  | some f => ({ b with l := b.l.set j (putF f i c s).1 }, (putF f i c s).2)
  | none => (b, 0)
def putB (b : Bu) (t : Nat) (i c : Int) (s : List UInt8) (now : Int) : Bu × Int × List Nat :=
  if (t : Int) ≤ b.hz then (b, 5, []) else if badB i c = true then (b, 4, []) else
    let r := partB (frameB b t c now) (atF b.l t) i c s
    evictB t r.1.l.length r.1 r.2 []
/-- What is played, and dropped, of a list; what is left; the last time. -/
structure Ply where
  l : List Fr
  hz : Int
  out : List (Nat × List UInt8)
  gone : List Nat
def playL (now delay most : Int) : List Fr → Int → Ply
  | [], h => ⟨[], h, [], []⟩
  | f :: l, h => if wholeF f = true ∧ delay ≤ now - f.t0 then (let r := playL now delay most l f.tm; ⟨r.l, r.hz, (f.tm, dataF f) :: r.out, r.gone⟩)
    else if most ≤ now - f.t0 then (let r := playL now delay most l f.tm; ⟨r.l, r.hz, r.out, f.tm :: r.gone⟩)
    else ⟨f :: l, h, [], []⟩
def playB (b : Bu) (now delay most : Int) : Bu × List (Nat × List UInt8) × List Nat :=
  let r := playL now delay most b.l b.hz
  ({ b with l := r.l, hz := r.hz, pl := b.pl + r.out.length, dr := b.dr + r.gone.length }, r.out, r.gone)

/-! ### Facts -/
theorem atF_le (l : List Fr) (t : Nat) : atF l t ≤ l.length := by
  unfold atF
  exact (List.takeWhile_sublist _).length_le
theorem atF_lt {l : List Fr} {t : Nat} : ∀ i (h : i < l.length), i < atF l t → (l[i]'h).tm < t := by
  induction l with
  | nil => intro i h; simp at h
  | cons f l ih =>
    intro i h hi
    unfold atF at hi
    rw [List.takeWhile_cons] at hi
    by_cases hf : f.tm < t
    · rw [if_pos (by simpa using hf)] at hi
      cases i with
      | zero => simpa using hf
      | succ i =>
        have := ih i (by simpa using h) (by unfold atF; simpa using hi)
        simpa using this
    · rw [if_neg (by simpa using hf)] at hi
      simp at hi
theorem atF_ge {l : List Fr} {t : Nat} (hs : l.Pairwise fun f g => f.tm < g.tm) : ∀ i (h : i < l.length), atF l t ≤ i → t ≤ (l[i]'h).tm := by
  induction l with
  | nil => intro i h; simp at h
  | cons f l ih =>
    intro i h hi
    obtain ⟨h1, h2⟩ := List.pairwise_cons.1 hs
    unfold atF at hi
    rw [List.takeWhile_cons] at hi
    by_cases hf : f.tm < t
    · rw [if_pos (by simpa using hf)] at hi
      cases i with
      | zero => simp at hi
      | succ i =>
        have := ih h2 i (by simpa using h) (by unfold atF; simpa using hi)
        simpa using this
    · cases i with
      | zero => simp; omega
      | succ i =>
        have := h1 _ (List.getElem_mem (by simpa using h : i < l.length))
        simp
        omega
theorem pkts_le {l : List Fr} (h : ∀ f ∈ l, f.Ok) : pkts l ≤ 255 * l.length := by
  induction l with
  | nil => simp [pkts]
  | cons f l ih =>
    have h1 := (h f (List.mem_cons_self ..)).len
    have h2 := (h f (List.mem_cons_self ..)).n1
    have h3 := ih fun g hg => h g (List.mem_cons_of_mem _ hg)
    rw [pkts, List.length_cons]
    omega
theorem bts_le {l : List Fr} (h : ∀ f ∈ l, f.Ok) : bts l ≤ 267386880 * l.length := by
  induction l with
  | nil => simp [bts]
  | cons f l ih =>
    have h1 := (h f (List.mem_cons_self ..)).sum
    have h3 := ih fun g hg => h g (List.mem_cons_of_mem _ hg)
    rw [bts, List.length_cons]
    omega
theorem pkts_set {f g : Fr} : ∀ {l : List Fr} {i : Nat}, l[i]? = some f → pkts (l.set i g) + f.ps.length = pkts l + g.ps.length
  | [], i, h => by simp at h
  | x :: l, 0, h => by
    simp at h
    subst h
    simp [pkts]
    omega
  | x :: l, i + 1, h => by
    have := pkts_set (l := l) (i := i) (g := g) (by simpa using h)
    simp only [List.set_cons_succ, pkts]
    omega
theorem bts_set {f g : Fr} : ∀ {l : List Fr} {i : Nat}, l[i]? = some f → bts (l.set i g) + sumP f.ps = bts l + sumP g.ps
  | [], i, h => by simp at h
  | x :: l, 0, h => by
    simp at h
    subst h
    simp [bts]
    omega
  | x :: l, i + 1, h => by
    have := bts_set (l := l) (i := i) (g := g) (by simpa using h)
    simp only [List.set_cons_succ, bts]
    omega
theorem isF_some {l : List Fr} {t : Nat} (h : isF l t = true) : ∃ f, l[atF l t]? = some f ∧ f.tm = t := by
  unfold isF at h
  cases hg : l[atF l t]? with
  | none => rw [hg] at h; cases h
  | some f => rw [hg] at h; exact ⟨f, rfl, of_decide_eq_true h⟩
theorem mid_at {α : Type} (l : List α) (i : Nat) (x : α) (h : i ≤ l.length) : (l.take i ++ x :: l.drop i)[i]? = some x := by
  rw [List.getElem?_append_right (by rw [List.length_take]; omega), List.length_take, show i - min i l.length = 0 by omega]
  rfl
theorem mid_len {α : Type} (l : List α) (i : Nat) (x : α) : (l.take i ++ x :: l.drop i).length = l.length + 1 := by
  simp only [List.length_append, List.length_cons, List.length_take, List.length_drop]
  omega
theorem mid_so {l : List Fr} {t : Nat} (hs : l.Pairwise fun f g => f.tm < g.tm) (hn : isF l t = false) (x : Fr) (hx : x.tm = t) : (l.take (atF l t) ++ x :: l.drop (atF l t)).Pairwise fun f g => f.tm < g.tm := by
  have h1 : ∀ f ∈ l.take (atF l t), f.tm < t := fun f hf => by
    obtain ⟨k, hk, rfl⟩ := List.getElem_of_mem hf
    rw [List.length_take] at hk
    rw [List.getElem_take]
    exact atF_lt k (by omega) (by omega)
  have h2 : ∀ f ∈ l.drop (atF l t), t < f.tm := fun f hf => by
    obtain ⟨k, hk, rfl⟩ := List.getElem_of_mem hf
    rw [List.length_drop] at hk
    rw [List.getElem_drop]
    have h3 := atF_ge hs (atF l t) (by omega) (Nat.le_refl _)
    have h4 : l[atF l t].tm ≠ t := fun e => by
      unfold isF at hn
      rw [List.getElem?_eq_getElem (by omega)] at hn
      exact absurd e (of_decide_eq_false hn)
    cases k with
    | zero => simp only [Nat.add_zero]; omega
    | succ k =>
      have := List.pairwise_iff_getElem.1 hs (atF l t) (atF l t + (k + 1)) (by omega) (by omega) (by omega)
      omega
  have h3 : (l.take (atF l t) ++ l.drop (atF l t)).Pairwise fun f g => f.tm < g.tm := by rw [List.take_append_drop]; exact hs
  obtain ⟨h4, h5, h6⟩ := List.pairwise_append.1 h3
  refine List.pairwise_append.2 ⟨h4, List.pairwise_cons.2 ⟨fun f hf => by have := h2 f hf; omega, h5⟩, fun f hf g hg => ?_⟩
  rcases List.mem_cons.1 hg with rfl | hg
  · have := h1 f hf; omega
  · exact h6 f hf g hg
/-- Behind a frame's beginning. -/
theorem frameB_facts {b : Bu} {t : Nat} {c now : Int} (hf : ∀ f ∈ b.l, f.Ok) (hs : b.l.Pairwise fun f g => f.tm < g.tm) (ht : t < 4294967296) (h2 : -1099511627776 ≤ now) (h3 : now ≤ 1099511627776) :
    ∃ f, (frameB b t c now).l[atF b.l t]? = some f ∧ f.tm = t ∧ f.Ok ∧ (∀ f ∈ (frameB b t c now).l, f.Ok) ∧ (frameB b t c now).l.Pairwise (fun f g => f.tm < g.tm) ∧ (frameB b t c now).l.length ≤ b.l.length + 1 ∧
      (∀ f ∈ (frameB b t c now).l, f ∈ b.l ∨ f = newF t c now) := by
  unfold frameB
  cases h : isF b.l t with
  | true =>
    rw [if_pos rfl]
    obtain ⟨f, h1, h4⟩ := isF_some h
    exact ⟨f, h1, h4, hf f (List.mem_of_getElem? h1), hf, hs, by omega, fun f hf => .inl hf⟩
  | false =>
    rw [if_neg (by decide)]
    dsimp only
    have ho := newF_ok c ht h2 h3
    have hm : ∀ f ∈ b.l.take (atF b.l t) ++ newF t c now :: b.l.drop (atF b.l t), f ∈ b.l ∨ f = newF t c now := fun f hf' => by
      rcases List.mem_append.1 hf' with h | h
      · exact .inl (List.mem_of_mem_take h)
      · rcases List.mem_cons.1 h with rfl | h
        · exact .inr rfl
        · exact .inl (List.mem_of_mem_drop h)
    refine ⟨newF t c now, mid_at _ _ _ (atF_le _ _), rfl, ho, fun f hf' => ?_, mid_so hs h _ rfl, by rw [mid_len]; omega, hm⟩
    rcases hm f hf' with h | rfl
    · exact hf f h
    · exact ho
theorem set_so {f g : Fr} : ∀ {l : List Fr} {i : Nat}, l.Pairwise (fun f g => f.tm < g.tm) → l[i]? = some f → g.tm = f.tm → (l.set i g).Pairwise fun f g => f.tm < g.tm := fun {l i} hs h he => by
  rw [List.pairwise_iff_getElem] at hs ⊢
  intro a b ha hb hab
  rw [List.length_set] at ha hb
  obtain ⟨hi, hfi⟩ := List.getElem?_eq_some_iff.1 h
  have key : ∀ k (hk : k < l.length), ((l.set i g)[k]'(by rw [List.length_set]; exact hk)).tm = (l[k]).tm := fun k hk => by
    rw [List.getElem_set]
    split
    · rename_i e
      subst e
      rw [hfi, he]
    · rfl
  rw [key a ha, key b hb]
  exact hs a b ha hb hab
theorem putF_tm (f : Fr) (i c : Int) (s : List UInt8) : (putF f i c s).1.tm = f.tm := by
  unfold putF
  split
  · rfl
  · split <;> rfl
end Go.Proofs.Ytekpaepkoeelfaa
