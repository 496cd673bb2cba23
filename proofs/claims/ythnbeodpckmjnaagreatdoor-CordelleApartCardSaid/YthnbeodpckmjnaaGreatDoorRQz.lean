/- Plain law of layer 12: what was opened is told by the same pieces. -/
import Derived.Test.YthnbeodpckmjnaaGreatDoorRtpMz
import Derived.Test.YthnbeodpckmjnaaGreatDoorNotes5z
import Derived.Test.YthnbeodpckmjnaaGreatDoorQCmp07z
import Derived.Test.YthnbeodpckmjnaaGreatDoorRLz
namespace Go.Proofs.YthnbeodpckmjnaaGreatDoor
open Go.RowKit
set_option linter.unusedVariables false
set_option linter.unusedSimpArgs false

theorem say_what {p : Pc} (h : whatP p ≠ 0) : whatP p = sayP p ∧ (sayP p = 4 → (appR p).name ≠ csum) ∧ (sayP p = 2 → namesR p ≠ []) := by
  have e := whatP_eq p
  by_cases hc : (sayP p = 2 ∧ namesR p = []) ∨ (sayP p = 4 ∧ (appR p).name = csum)
  · rw [if_pos hc] at e
    exact absurd e h
  · rw [if_neg hc] at e
    exact ⟨e, fun h4 hn => hc (.inr ⟨h4, hn⟩), fun h2 hn => hc (.inl ⟨h2, hn⟩)⟩
end Go.Proofs.YthnbeodpckmjnaaGreatDoor

namespace Go.Proofs.YthnbeodpckmjnaaGreatDoor
open Go.RowKit
set_option linter.unusedVariables false
set_option linter.unusedSimpArgs false

end Go.Proofs.YthnbeodpckmjnaaGreatDoor

namespace Go.Proofs.YthnbeodpckmjnaaGreatDoor
open Go.RowKit
set_option linter.unusedVariables false
set_option linter.unusedSimpArgs false

/-- Where the item ends that says so many bytes. -/
def endN (n : Nat) : Nat := 6 + n + padN (6 + n) 1
/-- Does an item lie at the head of the bytes? -/
def okN (s : List UInt8) : Prop := 8 ≤ s.length ∧ s.getD 4 0 = 1 ∧ (s.getD 5 0).toNat ≠ 0 ∧ endN (s.getD 5 0).toNat ≤ s.length ∧ ∀ i, i < endN (s.getD 5 0).toNat → 6 + (s.getD 5 0).toNat ≤ i → s.getD i 0 = 0
instance decN (s : List UInt8) : Decidable (okN s) := by unfold okN; infer_instance
theorem rawN_ok (f : Nat) (x : List UInt8 × Int) (acc : List N9) (hx : x.1.length ≤ maxLen) (ha : ∀ a ∈ acc, a.Ok) : ∀ a ∈ runN f x acc, a.Ok := by
  induction f generalizing x acc with
  | zero => exact ha
  | succ f ih =>
    unfold runN
    split
    · exact ha
    · refine ih _ _ (Nat.le_trans (nxN_len x) hx) fun a h => ?_
      rcases List.mem_append.1 h with h | h
      · exact ha a h
      · rw [List.mem_singleton.1 h]; exact rdN_ok x hx
end Go.Proofs.YthnbeodpckmjnaaGreatDoor

namespace Go.Proofs.YthnbeodpckmjnaaGreatDoor
open Go.RowKit
set_option linter.unusedVariables false
set_option linter.unusedSimpArgs false

/-- What is left behind the numbers. -/
def restY (p : Pc) : List UInt8 := p.2.2.drop (4 * p.1.toNat)
def lenY (p : Pc) : Nat := ((restY p).getD 0 0).toNat
def goodY (p : Pc) : Prop := (0 ≤ p.1 ∧ p.1 ≤ 31 ∧ 4 * p.1.toNat ≤ p.2.2.length) ∧ (restY p = [] ∨ (lenY p ≠ 0 ∧ lenY p < (restY p).length ∧ fillB ((restY p).take (lenY p + 1)) = restY p))
instance decY (p : Pc) : Decidable (goodY p) := by unfold goodY; infer_instance
end Go.Proofs.YthnbeodpckmjnaaGreatDoor

namespace Go.Proofs.YthnbeodpckmjnaaGreatDoor
open Go.RowKit
set_option linter.unusedVariables false
set_option linter.unusedSimpArgs false

end Go.Proofs.YthnbeodpckmjnaaGreatDoor

namespace Go.Proofs.YthnbeodpckmjnaaGreatDoor
open Go.RowKit
set_option linter.unusedVariables false
set_option linter.unusedSimpArgs false

end Go.Proofs.YthnbeodpckmjnaaGreatDoor

namespace Go.Proofs.YthnbeodpckmjnaaGreatDoor
open Go.RowKit
set_option linter.unusedVariables false
set_option linter.unusedSimpArgs false

end Go.Proofs.YthnbeodpckmjnaaGreatDoor

namespace Go.Proofs.YthnbeodpckmjnaaGreatDoor
open Go.RowKit
set_option linter.unusedVariables false
set_option linter.unusedSimpArgs false

theorem namesR_ok (p : Pc) (hp : p.2.2.length ≤ maxLen) : (∀ a ∈ namesR p, a.Ok) ∧ (namesR p).length ≤ 100000 := by
  unfold namesR
  have hlen : ∀ f x acc, (runN f x acc).length ≤ acc.length + f := by
    intro f
    induction f with
    | zero => intro x acc; simp [runN]
    | succ f ih =>
      intro x acc
      unfold runN
      split
      · omega
      · have := ih (nxN x) (acc ++ [rdN x])
        simp only [List.length_append, List.length_cons, List.length_nil] at this
        omega
  split
  · exact ⟨rawN_ok 32 (p.2.2, 0) [] hp (fun a h => by simp at h), by have := hlen 32 (p.2.2, 0) []; unfold rawN; simp only [List.length_nil] at this; omega⟩
  · exact ⟨fun a h => by simp at h, by simp⟩
end Go.Proofs.YthnbeodpckmjnaaGreatDoor

namespace Go.Proofs.YthnbeodpckmjnaaGreatDoor
open Go.RowKit
set_option linter.unusedVariables false
set_option linter.unusedSimpArgs false

section
variable {P : Program} {ops : Array Oper} {C : Ctx} {E : Env} {σ : St} {a : Act} {w : World} {md : Bool} {K : St → List FP → Prop} {acc : List FP} {rest : List Oper} {Q : Exit → St → Prop}
theorem ok_taN2 {d : Tmp} {x : Operand} {xt at' : TypeId} (hc : concr P at' = true) (hx : missI at' (ev σ x)) (hz0 : (zeroOf P at').isSome = true) :
    StOk P C σ (some d) (.typeAssert x xt at' true) (some (True, rdl x, [(.s d, .av (.val (.tup [.any, .sc (.bool false)])))])) := by
  obtain ⟨z, hz⟩ := Option.isSome_iff_exists.1 hz0
  refine ok_pure fun _ ty pos af E σ' a w hr hg => ?_
  have h := ev_ok hg x
  rw [ev_congr hr] at h
  obtain ⟨dd, h1, h2⟩ := concr_some hc
  have hzr : (zeroValue at').run P w = .ok z w := by
    unfold zeroOf at hz
    obtain ⟨i, hi, hz⟩ := Option.bind_eq_some_iff.1 hz
    simp [zeroValue, typeInfo, hi, hz]
  refine ⟨.tuple #[z, .bool false], ?_, .tup _ _ rfl fun i hi => ?_⟩
  · have key : ∀ v, (v = .nilIface ∨ ∃ t u, v = .iface t u ∧ t ≠ at') → (Instr.typeAssert v xt at' true).run P w = .ok (.tuple #[z, .bool false]) w := fun v hv => by
      unfold Instr.typeAssert
      simp only [Sem.run_bind, run_underlying h1, Result.andThen_ok]
      rcases hv with rfl | ⟨t, u, rfl, hne⟩ <;> cases dd <;> first | exact absurd rfl (h2 _) | (simp [hzr, hne]; done) | (simp [hzr]; done)
    have hv : a.eval x = .nilIface ∨ ∃ t u, a.eval x = .iface t u ∧ t ≠ at' := by
      cases he : ev σ x with
      | val X =>
        rw [he] at h hx
        cases X with
        | sc u => exact .inl ((Rd.sc_eq h).trans hx)
        | ifc t y =>
          have h : Rd E.m (.ifc t y) (a.eval x) := h
          generalize a.eval x = v at h
          cases h with
          | ifc _ _ u hu => exact .inr ⟨t, u, rfl, hx⟩
        | _ => exact hx.elim
      | _ => rw [he] at hx; exact hx.elim
    simp [execOp, key _ hv]
  · have : i = 0 ∨ i = 1 := by simp at hi; omega
    rcases this with rfl | rfl
    · exact Rd.any _
    · exact Rd.sc _
theorem taN2_s {d : Tmp} {x : Operand} {xt at' : TypeId} {ty : TypeId} {pos : String} {af : Array Edge} (hc : concr P at' = true) (hx : missI at' (ev σ x)) (hz : (zeroOf P at').isSome = true)
    (k : exec P ops C md K rest (put σ (.s d) (.av (.val (.tup [.any, .sc (.bool false)])))) ((rdl x, [.s d]) :: acc)) : Run P ops C md K (⟨some d, .typeAssert x xt at' true, ty, pos, af, none⟩ :: rest) σ acc :=
  run_any (ok_taN2 hc hx hz) rfl trivial k
end
end Go.Proofs.YthnbeodpckmjnaaGreatDoor

