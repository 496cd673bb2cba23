
/- Package net: the law's fixed fact; walked. -/
import Derived.Test.YtdkgnlmojmafbaaNet3
namespace Go.Proofs.Ytdkgnlmojmafbaa
open Go.RowKit
set_option linter.unusedVariables false
set_option linter.unusedSimpArgs false

set_option maxRecDepth 100000 in
set_option maxHeartbeats 8000000 in
theorem net_awake : Spec Try.prog 4 [] [] (.ca (.val (vb true))) [] := by
  have c0 := net_new 2 9
  have h0 := newB_ok 2 9
  obtain ⟨N0, hN0⟩ : ∃ N, N = newB 2 9 := ⟨_, rfl⟩
  have c1 := net_send (newB 2 9) (0, 1) [97] h0 (by decide) (by decide)
  have h1 := send_ok h0 (0, 1) [97]
  have b1 : canB (newB 2 9) (0, 1) [97] = true := by decide
  have c2 := net_twin (sendB (newB 2 9) (0, 1) [97]) (0, 1) 0 h1 (by decide)
  have h2 := twin_ok h1 (0, 1) 0
  have b2 : twinOk (sendB (newB 2 9) (0, 1) [97]) (0, 1) 0 = true := by decide
  have c3 := net_send (twinB (sendB (newB 2 9) (0, 1) [97]) (0, 1) 0) (0, 1) [98] h2 (by decide) (by decide)
  have h3 := send_ok h2 (0, 1) [98]
  have b3 : canB (twinB (sendB (newB 2 9) (0, 1) [97]) (0, 1) 0) (0, 1) [98] = false := by decide
  have c4 := net_take (sendB (twinB (sendB (newB 2 9) (0, 1) [97]) (0, 1) 0) (0, 1) [98]) (0, 1) 0 h3 (by decide)
  have h4 := take_ok h3 (0, 1) 0
  have b4 : atB (sendB (twinB (sendB (newB 2 9) (0, 1) [97]) (0, 1) 0) (0, 1) [98]) (0, 1) 0 = [97] := by decide
  have b5 : isB (sendB (twinB (sendB (newB 2 9) (0, 1) [97]) (0, 1) 0) (0, 1) [98]) (0, 1) 0 = true := by decide
  have c5 := net_len (takeB (sendB (twinB (sendB (newB 2 9) (0, 1) [97]) (0, 1) 0) (0, 1) [98]) (0, 1) 0) (0, 1) h4
  have c6 := net_len (takeB (sendB (twinB (sendB (newB 2 9) (0, 1) [97]) (0, 1) 0) (0, 1) [98]) (0, 1) 0) (1, 1) h4
  have b6 : (bagB (takeB (sendB (twinB (sendB (newB 2 9) (0, 1) [97]) (0, 1) 0) (0, 1) [98]) (0, 1) 0).m (0, 1)).length = 1 := by decide
  have b7 : (bagB (takeB (sendB (twinB (sendB (newB 2 9) (0, 1) [97]) (0, 1) 0) (0, 1) [98]) (0, 1) 0).m (1, 1)).length = 0 := by decide
  rw [b1] at c1
  rw [b2] at c2
  rw [b3] at c3
  rw [b4, b5] at c4
  rw [b6] at c5
  rw [b7] at c6
  clear h0 h1 h2 h3 h4 b1 b2 b3 b4 b5 b6 b7 hN0
  generalize takeB (sendB (twinB (sendB (newB 2 9) (0, 1) [97]) (0, 1) 0) (0, 1) [98]) (0, 1) 0 = N4 at *
  generalize sendB (twinB (sendB (newB 2 9) (0, 1) [97]) (0, 1) 0) (0, 1) [98] = N3 at *
  generalize twinB (sendB (newB 2 9) (0, 1) [97]) (0, 1) 0 = N2 at *
  generalize sendB (newB 2 9) (0, 1) [97] = N1 at *
  generalize newB 2 9 = N0 at *
  refine spec_of Try.func4 rfl Try.ntmps4 Try.results4 ⟨by decide, by simp⟩ fun C hC => ?_
  (repeat' ((first | refine sp_ ?_ | exact ex0 | refine call_u Try.call5 (c0) [] ex1 ?_ | (refine ret_s [] ?_; simp (decide := true) (disch := omega) only [go_sem, ↓reduceIte, ↓put_at]))))
  (repeat' ((first | refine sp_ ?_ | exact ex0 | refine pnil_u (by first | exact .inl rfl | exact .inr rfl) (by simp (decide := true) (disch := omega) only [go_sem, ↓reduceIte, ↓put_at]; first | done | assumption | omega) ?_ | (refine ret_s [] ?_; simp (decide := true) (disch := omega) only [go_sem, ↓reduceIte, ↓put_at]))))
  (repeat' ((first | refine sp_ ?_ | exact ex0 | refine call_u Try.call11 (c1) [(8, 0)] ex1 ?_ | refine call_u Try.call11 (c3) [(8, 0)] ex1 ?_ | refine call_u Try.call12 (c2) [(8, 0)] ex1 ?_ | refine call_u Try.call13 (c4) [(8, 0)] ex1 ?_ | refine call_u Try.call14 (c5) [(8, 0)] ex1 ?_ | refine call_u Try.call14 (c6) [(8, 0)] ex1 ?_ | (refine ret_s [] ?_; simp (decide := true) (disch := omega) only [go_sem, ↓reduceIte, ↓put_at]))))
end Go.Proofs.Ytdkgnlmojmafbaa
