/- Layer 6: awake, Cut, Told, May; MediaApart, MediaTracks, walked. -/
import Derived.Test.YthnbeodpckmjnaaGreatDoorMedia2z
namespace Go.Proofs.YthnbeodpckmjnaaGreatDoor
open Go.RowKit
set_option linter.unusedVariables false
set_option linter.unusedSimpArgs false

def cut6 (m : M6) : M6 := { m with data := m.data.take 80 }
set_option maxRecDepth 100000 in
set_option maxHeartbeats 8000000 in
theorem law_cut6 (m : M6) (hl : m.data.length ≤ maxLen) : Spec Tryz.prog 5 [.ca (.val (.agg (m6L m)))] [] (.ca (.val (.agg (m6L (cut6 m))))) [] := by
  have c := q_cut m.data 80 hl (by decide)
  rw [show (80 : Int).toNat = 80 from rfl] at c
  unfold cut6
  obtain ⟨sr, sq, tm, pa, ps, ix, ct, da⟩ := m
  dsimp only at *
  refine spec_of Tryz.func5 rfl Tryz.ntmps5 Tryz.results5 ⟨by decide, by simp⟩ fun C hC => ?_
  (repeat (first | refine sp_ ?_ | exact ex0))
  refine call_s Tryz.call8 c [] ?_
  (repeat (first | refine sp_ ?_ | exact ex0))
  (refine ret_s [] ?_; simp (decide := true) (disch := omega) only [go_sem, ↓reduceIte, ↓put_at])
theorem cut6_ok (m : M6) (h : m.Ok) : (cut6 m).Ok ∧ (cut6 m).data.length ≤ 80 := ⟨⟨h.src, h.seq, h.time, h.pseq⟩, by unfold cut6; dsimp only; rw [List.length_take]; omega⟩
end Go.Proofs.YthnbeodpckmjnaaGreatDoor

