
/- Layer 18 in plain Lean: who is to carry the next packet. -/
import Derived.Test.YtdgkehoodlncmaaSl1
import Derived.Test.YtdgkehoodlncmaaTabM
namespace Go.Proofs.Ytdgkehoodlncmaa
set_option linter.unusedVariables false
set_option linter.unusedSimpArgs false

def toE (x : Ld) : En := ⟨x.p, false, 0⟩
def atL (l : List Ld) (p : Int) : Nat := atP (l.map toE) p
def hasL (l : List Ld) (p : Int) : Bool := hasP (l.map toE) p
def cw (w : Int) : Int := max 1 (min w 65535)
structure Wt where
  p : Int
  w : Int
def wtEl (x : Wt) : List V := [vi x.p, vi x.w]
attribute [go_sem] wtEl
def addW (l : List Ld) (x : Wt) : List Ld :=
  if hasL l x.p = false ∧ l.length < 15 then l.take (atL l x.p) ++ ⟨x.p, cw x.w, 0⟩ :: l.drop (atL l x.p) else l
def loadsF (ws : List Wt) : List Ld := ws.foldl addW []
structure ShOk (B : Int) (l : List Ld) : Prop where
  up : Up16 (l.map toE)
  few : l.length ≤ 15
  ok : ∀ x ∈ l, 1 ≤ x.w ∧ x.w ≤ 65535 ∧ 0 ≤ x.b ∧ x.b ≤ B
theorem sh_nil (B : Int) : ShOk B [] := ⟨List.Pairwise.nil, by simp, fun x h => by simp at h⟩
theorem ShOk.mono {B B' : Int} {l : List Ld} (h : ShOk B l) (hb : B ≤ B') : ShOk B' l := ⟨h.up, h.few, fun x hx => by have := h.ok x hx; omega⟩
theorem addW_ok {l : List Ld} (h : ShOk 0 l) (x : Wt) : ShOk 0 (addW l x) := by
  unfold addW
  split
  · rename_i hc
    obtain ⟨h1, h2⟩ := hc
    have e : (l.take (atL l x.p) ++ ⟨x.p, cw x.w, 0⟩ :: l.drop (atL l x.p)).map toE = setL (l.map toE) ⟨x.p, false, 0⟩ := by
      rw [← set_ins h.up ⟨x.p, false, 0⟩ h1, List.map_append, List.map_cons, List.map_take, List.map_drop]; rfl
    have hle := atP_le (l.map toE) x.p
    rw [List.length_map] at hle
    refine ⟨by rw [e]; exact set_up h.up _, ?_, fun y hy => ?_⟩
    · have : (l.take (atL l x.p)).length = atL l x.p := by rw [List.length_take]; unfold atL; omega
      rw [List.length_append, List.length_cons, List.length_drop, this]
      have : atL l x.p ≤ l.length := hle
      omega
    · rcases List.mem_append.1 hy with hy | hy
      · exact h.ok y (List.mem_of_mem_take hy)
      · rcases List.mem_cons.1 hy with rfl | hy
        · simp only [cw]; omega
        · exact h.ok y (List.mem_of_mem_drop hy)
  · exact h
theorem foldl_ok : ∀ (ws : List Wt) {l : List Ld}, ShOk 0 l → ShOk 0 (ws.foldl addW l)
  | [], l, h => h
  | w :: ws, l, h => foldl_ok ws (addW_ok h w)
theorem loadsF_ok (ws : List Wt) : ShOk 0 (loadsF ws) := foldl_ok ws (sh_nil 0)
def sameW (a b : Ld) : Bool := decide (a.p = b.p ∧ a.w = b.w)
def setF (l : List Ld) (ws : List Wt) : List Ld × Bool := if allF sameW (loadsF ws) l then (l, false) else (loadsF ws, true)
theorem setF_ok {B : Int} (hB : 0 ≤ B) {l : List Ld} (h : ShOk B l) (ws : List Wt) : ShOk B (setF l ws).1 := by
  unfold setF
  split
  · exact h
  · exact (loadsF_ok ws).mono hB
def cmpL (a b : Ld) : Int := if cmpZ (a.b * b.w) (b.b * a.w) ≠ 0 then cmpZ (a.b * b.w) (b.b * a.w) else cmpZ a.p b.p
def pickF (l : List Ld) (may : List Int) : Int × Bool := match l.filter fun x => decide (x.p ∈ may) with
  | [] => (0, false)
  | y :: ys => ((minF cmpL y ys).p, true)
def carN (n : Int) : Int := max 0 (min n 1073741824)
def carryF (l : List Ld) (p n : Int) : List Ld × Bool :=
  let i := idxF (fun x => decide (x.p = p)) l
  if i < 0 then (l, false) else (l.modify i.toNat fun x => { x with b := x.b + carN n }, true)
def totF (l : List Ld) : Int := (l.map (·.b)).sum
def carF (l : List Ld) (p : Int) : Int :=
  let i := idxF (fun x => decide (x.p = p)) l
  if i < 0 then 0 else ((l[i.toNat]?).map (·.b)).getD 0
theorem idxF_lt {α : Type} (q : α → Bool) : ∀ (l : List α), idxF q l < 0 ∨ ∃ h : (idxF q l).toNat < l.length, q (l[(idxF q l).toNat]) = true ∧ idxF q l = (idxF q l).toNat ∧ ∀ k (hk : k < (idxF q l).toNat), q (l[k]'(by omega)) = false
  | [] => .inl (by simp [idxF])
  | x :: xs => by
    by_cases h : q x = true
    · refine .inr ⟨by simp [idxF, h], by simp [idxF, h], by simp [idxF, h], fun k hk => by simp [idxF, h] at hk⟩
    · rcases idxF_lt q xs with h1 | ⟨h1, h2, h3, h4⟩
      · exact .inl (by simp [idxF, h, h1])
      · have e : idxF q (x :: xs) = idxF q xs + 1 := by simp only [idxF, if_neg h]; rw [if_neg (by omega)]
        have e2 : (idxF q (x :: xs)).toNat = (idxF q xs).toNat + 1 := by omega
        refine .inr ⟨by rw [e2]; simp; exact h1, by simp only [e2]; exact h2, by omega, fun k hk => ?_⟩
        rw [e2] at hk
        cases k with
        | zero => simpa using h
        | succ k => simpa using h4 k (by omega)
theorem modify_map_p (l : List Ld) (i : Nat) (c : Int) : (l.modify i fun x => { x with b := x.b + c }).map toE = l.map toE := by
  apply List.ext_getElem
  · simp
  · intro k h1 h2
    simp only [List.getElem_map, List.getElem_modify]
    split <;> rfl
theorem carryF_ok {B : Int} {l : List Ld} (h : ShOk B l) (p n : Int) : ShOk (B + 1073741824) (carryF l p n).1 := by
  unfold carryF
  dsimp only
  split
  · exact h.mono (by omega)
  · refine ⟨by rw [modify_map_p]; exact h.up, by simpa using h.few, fun x hx => ?_⟩
    obtain ⟨k, hk, rfl⟩ := List.mem_iff_getElem.1 hx
    rw [List.getElem_modify]
    have hk2 : k < l.length := by simpa using hk
    have := h.ok _ (List.getElem_mem hk2)
    split
    · simp only [carN]; omega
    · omega
end Go.Proofs.Ytdgkehoodlncmaa
