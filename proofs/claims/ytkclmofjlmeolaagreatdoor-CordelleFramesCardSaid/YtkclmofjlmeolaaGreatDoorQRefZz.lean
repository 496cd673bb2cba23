/- Parts of frames: the plain law of layer 6. -/
import Derived.Test.YtkclmofjlmeolaaGreatDoorExts1z
import Derived.Test.YtkclmofjlmeolaaGreatDoorCrc1z
import Derived.Test.YtkclmofjlmeolaaGreatDoorCrc1z
import Derived.Test.YtkclmofjlmeolaaGreatDoorQInz
import Derived.Test.YtkclmofjlmeolaaGreatDoorRLz
namespace Go.Proofs.YtkclmofjlmeolaaGreatDoor
open Go.RowKit
set_option linter.unusedVariables false
set_option linter.unusedSimpArgs false

structure M6 where
  src : Int
  seq : Int
  time : Int
  path : Int
  pseq : Int
  idx : Int
  cnt : Int
  data : List UInt8
  deriving DecidableEq
def no6 : M6 := ⟨0, 0, 0, 0, 0, 0, 0, []⟩
structure M6.Ok (m : M6) : Prop where
  src : 0 ≤ m.src ∧ m.src < 4294967296
  seq : 0 ≤ m.seq ∧ m.seq < 65536
  time : 0 ≤ m.time ∧ m.time < 4294967296
  pseq : 0 ≤ m.pseq ∧ m.pseq < 65536
def may6 (m : M6) : Bool := decide ((1 ≤ m.path ∧ m.path ≤ 15) ∧ (1 ≤ m.cnt ∧ m.cnt ≤ 255) ∧ (0 ≤ m.idx ∧ m.idx < m.cnt) ∧ m.data.length ≤ 1472)
theorem may6_iff (m : M6) : may6 m = true ↔ ((1 ≤ m.path ∧ m.path ≤ 15) ∧ (1 ≤ m.cnt ∧ m.cnt ≤ 255) ∧ (0 ≤ m.idx ∧ m.idx < m.cnt) ∧ m.data.length ≤ 1472) := by unfold may6; rw [decide_eq_true_eq]
def els6 (m : M6) (F : List UInt8) : List E5 := [⟨1, putZ m.path 1 ++ putZ m.pseq 2⟩, ⟨2, putZ m.idx 1 ++ putZ m.cnt 1⟩, ⟨3, F⟩]
def pk6 (m : M6) (F : List UInt8) : P4 := ⟨decide (m.idx = m.cnt - 1), 96, m.seq, m.time, m.src, [], true, 48862, bytes5 1 (els6 m F), m.data, 0⟩
def head6 (m : M6) : List UInt8 := puts' 1 [144, 96 + (if m.idx = m.cnt - 1 then 128 else 0)] ++ puts' 2 [m.seq] ++ puts' 4 [m.time, m.src] ++ puts' 2 [48862, 3] ++ putZ 18 1 ++ (putZ m.path 1 ++ putZ m.pseq 2) ++ putZ 33 1 ++ (putZ m.idx 1 ++ putZ m.cnt 1) ++ putZ 51 1
theorem head6_len (m : M6) : (head6 m).length = 24 := by
  unfold head6
  simp only [List.length_append, puts'_length, putZ_length, List.length_cons, List.length_nil]
theorem ext6 (m : M6) (F : List UInt8) (hF : F.length = 4) : bytes5 1 (els6 m F) = putZ 18 1 ++ (putZ m.path 1 ++ putZ m.pseq 2) ++ putZ 33 1 ++ (putZ m.idx 1 ++ putZ m.cnt 1) ++ putZ 51 1 ++ F := by
  have e : raw5 1 (els6 m F) = putZ 18 1 ++ (putZ m.path 1 ++ putZ m.pseq 2) ++ putZ 33 1 ++ (putZ m.idx 1 ++ putZ m.cnt 1) ++ putZ 51 1 ++ F := by
    unfold raw5 els6
    simp only [List.flatMap_cons, List.flatMap_nil, item5, head5, if_true, List.length_append, putZ_length, hF, List.append_nil]
    have h1 : (16 * 1 + ((1 + 2 : Nat) : Int) - 1) = 18 := by omega
    have h2 : (16 * 2 + ((1 + 1 : Nat) : Int) - 1) = 33 := by omega
    have h3 : (16 * 3 + ((4 : Nat) : Int) - 1) = 51 := by omega
    rw [h1, h2, h3]
    simp only [List.append_assoc]
  unfold bytes5
  rw [e]
  have hl : (putZ 18 1 ++ (putZ m.path 1 ++ putZ m.pseq 2) ++ putZ 33 1 ++ (putZ m.idx 1 ++ putZ m.cnt 1) ++ putZ 51 1 ++ F).length = 12 := by
    simp only [List.length_append, putZ_length, hF]
  rw [hl]
  have : zer4 (pad5 12) = [] := rfl
  rw [this, List.append_nil]
theorem ext6_len (m : M6) (F : List UInt8) (hF : F.length = 4) : (bytes5 1 (els6 m F)).length = 12 := by
  rw [ext6 m F hF]
  simp only [List.length_append, putZ_length, hF]
theorem body6 (m : M6) (F : List UInt8) (hF : F.length = 4) : body4 (pk6 m F) = head6 m ++ F ++ m.data := by
  have hl := ext6_len m F hF
  have hx := ext6 m F hF
  unfold body4 extB first4 second4 pk6
  dsimp only
  rw [hl, hx]
  unfold head6
  have e1 : (128 + (([] : List Int).length : Int) + (if true = true then 16 else 0) + (if (0 : Int) < 0 then 32 else 0)) = 144 := by simp
  have e2 : (96 + (if decide (m.idx = m.cnt - 1) = true then (128 : Int) else 0)) = 96 + (if m.idx = m.cnt - 1 then 128 else 0) := by simp
  have e3 : tailB 0 = [] := rfl
  have e4 : puts' 4 [] = [] := rfl
  have e5 : ((12 / 4 : Nat) : Int) = 3 := rfl
  rw [e1, e2, e3, e4, e5, if_pos rfl]
  simp only [List.append_assoc, List.append_nil, List.nil_append]
theorem mayp6 (m : M6) (F : List UInt8) (hF : F.length = 4) : may4 (pk6 m F) = true := by
  have hl := ext6_len m F hF
  rw [may4_iff]
  unfold pk6
  dsimp only
  rw [hl]
  simp
theorem okp6 (m : M6) (F : List UInt8) (h : m.Ok) : (pk6 m F).Ok := ⟨h.seq, h.time, h.src, fun n hn => by cases hn⟩
theorem els6_may (m : M6) (F : List UInt8) (hF : F.length = 4) : (els6 m F).all (may5 1) = true := by
  unfold els6
  simp only [List.all_cons, List.all_nil, Bool.and_true, Bool.and_eq_true]
  refine ⟨(may5_iff _ _).2 ?_, (may5_iff _ _).2 ?_, (may5_iff _ _).2 ?_⟩
  · simp only [List.length_append, putZ_length]; decide
  · simp only [List.length_append, putZ_length]; decide
  · simp only [hF]; decide
theorem packx6 (m : M6) (F : List UInt8) (hF : F.length = 4) : pack5 1 (els6 m F) = (48862, bytes5 1 (els6 m F), 0) := by
  have e : formOk 1 = 1 := rfl
  have hl := ext6_len m F hF
  unfold pack5
  rw [e, if_neg (by decide), els6_may m F hF, hl, if_pos (by decide)]
  rfl
def plain6 (m : M6) (F : List UInt8) : List UInt8 := head6 m ++ F ++ m.data
theorem plain6_len (m : M6) (F : List UInt8) (hF : F.length = 4) : (plain6 m F).length = m.data.length + 28 := by
  unfold plain6
  simp only [List.length_append, head6_len, hF]
  omega
def pack6 (m : M6) : List UInt8 := if may6 m = true then sealB (head6 m) m.data else []
theorem seal6 (m : M6) : sealS (plain6 m [0, 0, 0, 0]) 24 = sealB (head6 m) m.data := by
  have hl := plain6_len m [0, 0, 0, 0] rfl
  have ho : sealOk (plain6 m [0, 0, 0, 0]) 24 = true := decide_eq_true (by rw [hl]; omega)
  unfold sealS
  rw [if_pos ho]
  unfold plain6
  have e1 : (head6 m ++ [0, 0, 0, 0] ++ m.data).take (24 : Int).toNat = head6 m := by
    rw [List.append_assoc]
    exact List.take_left' (head6_len m)
  have e2 : (head6 m ++ [0, 0, 0, 0] ++ m.data).drop ((24 : Int).toNat + 4) = m.data := List.drop_left' (by rw [List.length_append, head6_len]; rfl)
  rw [e1, e2]
/-- What a part's fields are, read of elements. -/
def rd6 (p : P4) (l : List E5) : M6 :=
  let a := (find5' l 1)
  let b := (find5' l 2)
  ⟨p.src, p.seq, p.time, getN (rawT a 1), getN (rawT (rawL a 0 1) 2), getN (rawT b 1), getN (rawT (rawL b 0 1) 1), p.data⟩
where find5' (l : List E5) (id : Int) : List UInt8 := ((l.find? fun x => decide (x.id = id)).map (·.data)).getD []
def parse6 (s : List UInt8) : M6 × Int :=
  if 1500 < s.length then (no6, 3) else if rem s ≠ 0 then (no6, 4) else if (parse4 s).2 ≠ 0 then (no6, (parse4 s).2) else if (parse4 s).1.hasExt = false then (no6, 5)
  else if (parse5 (parse4 s).1.profile (parse4 s).1.ext).2.2 ≠ 0 then (no6, (parse5 (parse4 s).1.profile (parse4 s).1.ext).2.2)
  else if pack6 (rd6 (parse4 s).1 (parse5 (parse4 s).1.profile (parse4 s).1.ext).2.1) = s then (rd6 (parse4 s).1 (parse5 (parse4 s).1.profile (parse4 s).1.ext).2.1, 0) else (no6, 1)
theorem rd6_back (m : M6) (F : List UInt8) (ho : m.Ok) (hm : may6 m = true) : rd6 (pk6 m F) (els6 m F) = m := by
  obtain ⟨⟨m1, m2⟩, ⟨m3, m4⟩, ⟨m5, m6⟩, m7⟩ := (may6_iff m).1 hm
  obtain ⟨o1, o2, o3, o4⟩ := ho
  have e1 : rd6.find5' (els6 m F) 1 = putZ m.path 1 ++ putZ m.pseq 2 := rfl
  have e2 : rd6.find5' (els6 m F) 2 = putZ m.idx 1 ++ putZ m.cnt 1 := rfl
  have g1 : (getN (putZ m.path 1) : Int) = m.path := get_put _ 1 256 rfl (by omega)
  have g2 : (getN (putZ m.pseq 2) : Int) = m.pseq := get_put _ 2 65536 rfl (by omega)
  have g3 : (getN (putZ m.idx 1) : Int) = m.idx := get_put _ 1 256 rfl (by omega)
  have g4 : (getN (putZ m.cnt 1) : Int) = m.cnt := get_put _ 1 256 rfl (by omega)
  have t : ∀ (a b : List UInt8) (k : Nat), a.length = k → rawT (a ++ b) k = a ∧ rawL (a ++ b) 0 k = b := fun a b k h => by
    unfold rawT rawL
    rw [if_pos (by rw [List.length_append]; omega), if_pos (by rw [List.length_append]; omega), Int.toNat_natCast]
    exact ⟨List.take_left' h, List.drop_left' h⟩
  have t0 : ∀ (a : List UInt8) (k : Nat), a.length = k → rawT a k = a := fun a k h => by
    unfold rawT
    rw [if_pos (by omega), Int.toNat_natCast, List.take_of_length_le (by omega)]
  obtain ⟨a1, a2⟩ := t (putZ m.path 1) (putZ m.pseq 2) 1 (putZ_length _ 1)
  obtain ⟨b1, b2⟩ := t (putZ m.idx 1) (putZ m.cnt 1) 1 (putZ_length _ 1)
  have a3 := t0 (putZ m.pseq 2) 2 (putZ_length _ 2)
  have b3 := t0 (putZ m.cnt 1) 1 (putZ_length _ 1)
  have c1 : ((1 : Nat) : Int) = 1 := rfl
  have c2 : ((2 : Nat) : Int) = 2 := rfl
  rw [c1] at a1 a2 b1 b2 b3
  rw [c2] at a3
  unfold rd6
  dsimp only
  rw [e1, e2, a1, a2, b1, b2, a3, b3, g1, g2, g3, g4]
  rfl
theorem sealB_len (h t : List UInt8) : (sealB h t).length = h.length + 4 + t.length := by
  unfold sealB
  rw [List.length_append, List.length_append, fieldB_len]
/-- What was packed is read again. -/
theorem parse_pack6 (m : M6) (ho : m.Ok) (hm : may6 m = true) : parse6 (pack6 m) = (m, 0) := by
  have hp : pack6 m = sealB (head6 m) m.data := by unfold pack6; rw [if_pos hm]
  obtain ⟨F, hF⟩ : ∃ F, F = fieldB (head6 m) m.data := ⟨_, rfl⟩
  have hFl : F.length = 4 := by rw [hF]; exact fieldB_len _ _
  have hb : pack6 m = body4 (pk6 m F) := by rw [hp, body6 m F hFl, hF]; rfl
  have hl := sealB_len (head6 m) m.data
  rw [head6_len] at hl
  have hd := ((may6_iff m).1 hm).2.2.2
  have h4 := parse_pack (pk6 m F) (okp6 m F ho) (mayp6 m F hFl)
  have h5 : parse5 48862 (bytes5 1 (els6 m F)) = (1, els6 m F, 0) := by
    have := parse_pack5 1 (els6 m F) (by rw [packx6 m F hFl])
    rwa [packx6 m F hFl] at this
  unfold parse6
  rw [if_neg (by rw [hp, hl]; omega), if_neg (by rw [hp, sealB_rem]; decide)]
  have h4' : parse4 (pack6 m) = (pk6 m F, 0) := by rw [hb]; exact h4
  rw [h4']
  dsimp only
  have hpr : (pk6 m F).profile = 48862 := rfl
  have hex : (pk6 m F).ext = bytes5 1 (els6 m F) := rfl
  have hhx : (pk6 m F).hasExt = true := rfl
  rw [hpr, hex, hhx, h5]
  dsimp only
  rw [if_neg (by decide), if_neg (by decide), if_neg (by decide), rd6_back m F ho hm, if_pos rfl]
theorem pack6_nil (m : M6) : pack6 m = [] ↔ may6 m = false := by
  unfold pack6
  constructor
  · intro h
    cases hm : may6 m with
    | false => rfl
    | true =>
      rw [hm, if_pos rfl] at h
      have := congrArg List.length h
      rw [sealB_len, head6_len] at this
      simp at this
  · intro h; rw [h, if_neg (by decide)]
end Go.Proofs.YtkclmofjlmeolaaGreatDoor

namespace Go.Proofs.YtkclmofjlmeolaaGreatDoor
open Go.RowKit
set_option linter.unusedVariables false
set_option linter.unusedSimpArgs false

end Go.Proofs.YtkclmofjlmeolaaGreatDoor

namespace Go.Proofs.YtkclmofjlmeolaaGreatDoor
open Go.RowKit
set_option linter.unusedVariables false
set_option linter.unusedSimpArgs false

end Go.Proofs.YtkclmofjlmeolaaGreatDoor

