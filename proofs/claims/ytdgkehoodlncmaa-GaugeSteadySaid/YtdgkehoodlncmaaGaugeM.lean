
/- Layer 15: plain law. -/
import Derived.Below
import Derived.WalkKit
namespace Go.Proofs.Ytdgkehoodlncmaa
set_option linter.unusedVariables false
set_option linter.unusedSimpArgs false

def clipZ (n lo hi : Int) : Int := max lo (min n hi)
def tickZ (n : Int) : Int := clipZ n 0 1099511627776
def farZ (a b : Int) : Int := max (a - b) (b - a)
theorem clipZ_in {n lo hi : Int} (h1 : lo ≤ n) (h2 : n ≤ hi) : clipZ n lo hi = n := by unfold clipZ; omega
theorem clipZ_ge (n lo hi : Int) : lo ≤ clipZ n lo hi := by unfold clipZ; omega
theorem clipZ_le (n lo hi : Int) (h : lo ≤ hi) : clipZ n lo hi ≤ hi := by unfold clipZ; omega
structure J15 where
  sc : Int
  tr : Int
  has : Bool
def jNext (j : J15) (sent came : Int) : J15 :=
  let t := tickZ came - tickZ sent
  let s := clipZ j.sc 0 17592186044416
  ⟨if j.has = true then s + (farZ t (clipZ j.tr (-1099511627776) 1099511627776) - (s + 8) / 16) else s, t, true⟩
def jVal (j : J15) : Int := clipZ j.sc 0 17592186044416 / 16
/-- A jitter that stays below so many. -/
theorem next_even (s d m : Int) (h0 : 0 ≤ s) (h1 : s ≤ 16 * m + 7) (d0 : 0 ≤ d) (d1 : d ≤ m) : 0 ≤ s + (d - (s + 8) / 16) ∧ s + (d - (s + 8) / 16) ≤ 16 * m + 7 := by omega
def falls : Nat → Nat → Nat
  | 0, s => s
  | n + 1, s => falls n (s - (s + 8) / 16)
theorem falls_mono : ∀ (n s t : Nat), s ≤ t → falls n s ≤ falls n t
  | 0, _, _, h => h
  | n + 1, s, t, h => falls_mono n _ _ (by omega)
theorem falls_end (s : Nat) (h : s ≤ 200000) : falls 400 s < 16 := Nat.lt_of_le_of_lt (falls_mono 400 s 200000 h) (by decide +kernel)

structure Tr15 where
  smooth : Int
  spread : Int
  has : Bool
def trNext (t : Tr15) (n : Int) : Tr15 :=
  let s := clipZ n 0 1048576
  if t.has = true then
    let sm := clipZ t.smooth 0 16777216
    let sp := clipZ t.spread 0 16777216
    let d := s - sm / 8
    ⟨sm + d, sp + (farZ d 0 - sp / 4), true⟩
  else ⟨8 * s, 2 * s, true⟩
def trOut (t : Tr15) : Int := if t.has = true then max 1 (clipZ t.smooth 0 16777216 / 8 + clipZ t.spread 0 16777216) else 100
theorem trNext_ok (s p : Int) (h0 : 0 ≤ s) (h1 : s ≤ 1048575) (p0 : 0 ≤ p) (p1 : p ≤ 2097152) : ∃ q, trNext ⟨8 * s, p, true⟩ s = ⟨8 * s, q, true⟩ ∧ 0 ≤ q ∧ q ≤ 2097152 := by
  refine ⟨p - p / 4, ?_, by omega, by omega⟩
  unfold trNext
  rw [if_pos rfl]
  dsimp only
  rw [clipZ_in (n := s) (by omega) (by omega), clipZ_in (n := 8 * s) (by omega) (by omega), clipZ_in (n := p) (by omega) (by omega)]
  have : s - 8 * s / 8 = 0 := by omega
  rw [this]
  have : farZ 0 0 = 0 := by decide
  rw [this]
  congr 1 <;> omega
theorem trOut_ok (s p : Int) (h0 : 0 ≤ s) (h1 : s ≤ 1048575) (p0 : 0 ≤ p) (p1 : p ≤ 2097152) : max 1 s ≤ trOut ⟨8 * s, p, true⟩ := by
  unfold trOut
  rw [if_pos rfl]
  dsimp only
  rw [clipZ_in (n := 8 * s) (by omega) (by omega), clipZ_in (n := p) (by omega) (by omega)]
  omega

structure R15 where
  sc : Int
  since : Int
  bytes : Int
def rdNext (r : R15) : R15 := ⟨r.sc + (4 * r.bytes / 8 - r.sc / 8), r.since + 64, 0⟩
def rdsNext : Nat → R15 → R15
  | 0, r => r
  | n + 1, r => rdsNext n (rdNext r)
def rNext (r : R15) (now bytes : Int) : R15 :=
  let s : R15 := ⟨clipZ r.sc 0 17592186044416, tickZ r.since, clipZ r.bytes 0 17592186044416 + clipZ bytes 0 1073741824⟩
  let n := max (tickZ now) s.since
  let over := (n - s.since) / 64
  if over > 64 then ⟨0, s.since + over * 64, 0⟩ else rdsNext over.toNat s
def rVal (r : R15) : Int := clipZ r.sc 0 17592186044416 / 256
theorem rds_falls : ∀ (n : Nat) (c s : Int), 0 ≤ c → ∃ c', rdsNext n ⟨c, s, 0⟩ = ⟨c', s + 64 * n, 0⟩ ∧ 0 ≤ c' ∧ c' ≤ c
  | 0, c, s, h => ⟨c, by simp [rdsNext], h, Int.le_refl _⟩
  | n + 1, c, s, h => by
    obtain ⟨c', h1, h2, h3⟩ := rds_falls n (c - c / 8) (s + 64) (by omega)
    refine ⟨c', ?_, h2, by omega⟩
    unfold rdsNext rdNext
    dsimp only
    rw [show c + (4 * 0 / 8 - c / 8) = c - c / 8 by omega, h1]
    congr 1
    omega
theorem rNext_falls (c s now : Int) (c0 : 0 ≤ c) (c1 : c ≤ 1073741824) (s0 : 0 ≤ s) (sn : s ≤ now) (hn : now ≤ 1099511627776) :
    ∃ c' s', rNext ⟨c, s, 0⟩ now 0 = ⟨c', s', 0⟩ ∧ 0 ≤ c' ∧ c' ≤ c ∧ s ≤ s' ∧ s' ≤ now ∧ (s + 1048576 ≤ now → c' = 0) := by
  unfold rNext
  dsimp only
  have e1 : clipZ c 0 17592186044416 = c := clipZ_in (by omega) (by omega)
  have e2 : tickZ s = s := clipZ_in (by omega) (by omega)
  have e3 : tickZ now = now := clipZ_in (by omega) (by omega)
  have e4 : clipZ 0 0 17592186044416 + clipZ 0 0 1073741824 = 0 := by decide
  have e5 : max now s = now := by omega
  rw [e1, e2, e3, e4, e5]
  by_cases h : (now - s) / 64 > 64
  · rw [if_pos h]
    exact ⟨0, _, rfl, by omega, by omega, by omega, by omega, fun _ => rfl⟩
  · rw [if_neg h]
    obtain ⟨c', h1, h2, h3⟩ := rds_falls ((now - s) / 64).toNat c s c0
    exact ⟨c', _, h1, h2, h3, by omega, by omega, fun h => by omega⟩
theorem rVal_mono (a b : R15) (h0 : 0 ≤ a.sc) (h : a.sc ≤ b.sc) : rVal a ≤ rVal b := by unfold rVal clipZ; omega
end Go.Proofs.Ytdgkehoodlncmaa
