
/- Package rtp: may, Check, Pack. -/
import Derived.Test.YtojcjbaimdjhoaaRtpM3
import Derived.Test.YtojcjbaimdjhoaaShelf
import Derived.Test.YtojcjbaimdjhoaaRI
import Derived.Test.YtojcjbaimdjhoaaRG
namespace Go.Proofs.Ytojcjbaimdjhoaa
open Go.RowKit
set_option linter.unusedVariables false
set_option linter.unusedSimpArgs false

abbrev vh (n : Int) : V := .sc (.int .u16 n)
abbrev h4L (p : P4) : List V := [vb p.marker, vi p.kind, vh p.seq, vu p.time, vu p.src, .lst 1 (p.others.map u32El), vb p.hasExt, vi p.profile, vs p.ext]
abbrev p4L (p : P4) : List V := [vb p.marker, vi p.kind, vh p.seq, vu p.time, vu p.src, .lst 1 (p.others.map u32El), vb p.hasExt, vi p.profile, vs p.ext, vs p.data, vi p.pad]
def zer (k : Nat) : List UInt8 := List.replicate k 0
theorem zer_len (k : Nat) : (zer k).length = k := List.length_replicate ..
theorem rep0 (c : Nat) (hc : c ≤ 1000) : Spec Try.prog 14 [.ca (.val (vs [0])), .ca (.val (vi c))] [] (.ca (.val (vs (zer c)))) [] := by
  have e : Lib.repeatL [0] c = zer c := by
    induction c with
    | zero => rfl
    | succ c ih => rw [Lib.repeatL, ih (by omega)]; rfl
  refine spec_lib (us := [str [0], .int .i64 c]) (u := str (zer c)) fun w => ?_
  have := Try.strings_Repeat ⟨#[0]⟩ c w (by omega) (by show 1 * c ≤ _; omega)
  rw [show ((⟨#[0]⟩ : ByteArray).data.toList) = [0] from rfl, e] at this
  exact this
/-- May a header be? -/
def mayH (p : P4) : Bool := decide ((0 ≤ p.kind ∧ p.kind ≤ 127) ∧ p.others.length ≤ 15 ∧ (0 ≤ p.profile ∧ p.profile ≤ 65535) ∧ (if p.hasExt = true then p.ext.length % 4 = 0 ∧ p.ext.length ≤ 262140 else p.profile = 0 ∧ p.ext = []))
def first0 (p : P4) : Int := 128 + p.others.length + (if p.hasExt = true then 16 else 0)
end Go.Proofs.Ytojcjbaimdjhoaa
