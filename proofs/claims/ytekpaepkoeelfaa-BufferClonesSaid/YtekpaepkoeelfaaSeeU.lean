
/- A map of numbers that were seen; the places of a buffer. -/
import Derived.Test.YtekpaepkoeelfaaLaw4
namespace Go.Proofs.Ytekpaepkoeelfaa
open Go.RowKit
set_option linter.unusedVariables false
set_option linter.unusedSimpArgs false

/-- Times that were seen. -/
def seenU (s : List Nat) : List (Value × T) := s.map fun z : Nat => (.int .u32 (z : Int), .av (.sc (.bool true)))
theorem seenU_get (s : List Nat) (z : Nat) : kvGet (seenU s) (.int .u32 z) = if z ∈ s then some (.av (.sc (.bool true))) else none := by
  induction s with
  | nil => rfl
  | cons x s ih =>
    show kvGet ((_, _) :: seenU s) _ = _
    rw [kvGet_cons]
    by_cases h : x = z
    · subst h; simp
    · rw [if_neg (fun e => h (by injection e with _ e; omega)), ih]
      have : z ≠ x := fun e => h e.symm
      simp [this]
theorem seenU_set (s : List Nat) (z : Nat) : kvSet (seenU s) (.int .u32 z) (.av (.sc (.bool true))) = seenU (if z ∈ s then s else s ++ [z]) := by
  induction s with
  | nil => rfl
  | cons x s ih =>
    show kvSet ((_, _) :: seenU s) _ _ = _
    rw [kvSet_cons]
    by_cases h : x = z
    · subst h; simp [seenU]
    · have h2 : z ≠ x := fun e => h e.symm
      rw [if_neg (fun e => h (by injection e with _ e; omega)), ih]
      by_cases hz : z ∈ s
      · simp [hz, seenU]
      · simp [hz, h2, seenU]
theorem seenU_keys (s : List Nat) : keysIs (.int .u32) ((seenU s).map (·.1)) = True := eq_true (keysIs_of fun k hk => by
  obtain ⟨p, hp, rfl⟩ := List.mem_map.1 hk
  obtain ⟨z, _, rfl⟩ := List.mem_map.1 hp
  exact rfl)
theorem seenU_len (s : List Nat) : (seenU s).length = s.length := by simp [seenU]
attribute [go_sem] seenU_keys seenU_set seenU_len
/-- The places of a buffer that was born in a slot. -/
def bufI (o : Nat) (b : Bu) : List (Pl × X) := [(.o (o, 0), .num 11), (.c (o, 0) 0, .av (.val (vi b.cf))), (.c (o, 0) 1, .av (.val (vi b.cp))), (.c (o, 0) 2, .av (.val (vi b.cb))), (.c (o, 0) 3, .av (.val (vi b.l.length))), (.c (o, 0) 4, .av (.val (vi (pkts b.l)))), (.c (o, 0) 5, .av (.val (vi (bts b.l)))), (.c (o, 0) 6, .av (.ref (o, 7) 0)), (.c (o, 0) 7, .av (.val (vi b.hz))), (.c (o, 0) 8, .av (.val (vi b.pl))), (.c (o, 0) 9, .av (.val (vi b.dr))), (.c (o, 0) 10, .av (.val (vi b.ev))), (.r (o, 7), .tree (.row 66 1 (b.l.map fun f => [T.box (frT f)])))]
attribute [go_sem] bufI List.cons_append List.nil_append
end Go.Proofs.Ytekpaepkoeelfaa
