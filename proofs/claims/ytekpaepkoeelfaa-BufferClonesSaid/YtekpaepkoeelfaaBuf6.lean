
/- Package buffer: Put, whatever part. -/
import Derived.Test.YtekpaepkoeelfaaBuf5
import Derived.Test.YtekpaepkoeelfaaBufS
namespace Go.Proofs.Ytekpaepkoeelfaa
open Go.RowKit
set_option linter.unusedVariables false
set_option linter.unusedSimpArgs false

theorem buf_put {b : Bu} {K : Int} (h : b.Ok K) (hK : K ≤ 549755813888) (t : Nat) (i c : Int) (s : List UInt8) (now : Int) (ht : t < 4294967296) (hs : s.length ≤ 1048576) (h2 : -1099511627776 ≤ now) (h3 : now ≤ 1099511627776) :
    Spec Try.prog 9 [.ptr 0 0, .ca (.val (vu t)), .ca (.val (.agg [vi i, vi c])), .ca (.val (vs s)), .ca (.val (vi now))] [buO b] (.ca (.val (cmV (putB b t i c s now).2.1 (putB b t i c s now).2.2))) [buO (putB b t i c s now).1] := by
  unfold putB
  by_cases hl : (t : Int) ≤ b.hz
  · rw [if_pos hl]
    exact buf_put_late b t i c s now hl ht
  rw [if_neg hl]
  cases hb : badB i c with
  | true =>
    rw [if_pos rfl]
    exact buf_put_bad b t i c s now (by omega) hb ht
  | false =>
    rw [if_neg (by decide)]
    have hlen := h.len
    obtain ⟨f, f1, f2, f3, f4, f5, f6, f7⟩ := frameB_facts (c := c) h.fr h.so ht h2 h3
    have hfr : Spec Try.prog 23 [.ptr 0 0, .ca (.val (vu t)), .ca (.val (vi c)), .ca (.val (vi now))] [buO b] (.ptr 1 0) [buL (frameB b t c now) (frameB b t c now).l.length (pkts (frameB b t c now).l) (bts (frameB b t c now).l) (atF b.l t), frO f] := by
      cases hi : isF b.l t with
      | true =>
        have e : frameB b t c now = b := by unfold frameB; rw [if_pos hi]
        rw [e] at f1 ⊢
        exact buf_frame_is b t c now hi f f1 ht (by omega) h.fr h.so
      | false =>
        have e : frameB b t c now = { b with l := b.l.take (atF b.l t) ++ newF t c now :: b.l.drop (atF b.l t) } := by unfold frameB; rw [if_neg (by rw [hi]; decide)]
        have hfe : f = newF t c now := by
          rw [e] at f1
          rw [mid_at _ _ _ (atF_le _ _)] at f1
          exact (Option.some.inj f1).symm
        rw [e]
        exact buf_frame_new b t c now hi ht (by omega) h.fr h.so f hfe f3 _ (by rw [hfe])
    have hp : partB (frameB b t c now) (atF b.l t) i c s = ({ frameB b t c now with l := (frameB b t c now).l.set (atF b.l t) (putF f i c s).1 }, (putF f i c s).2) := by
      unfold partB
      rw [f1]
    rw [hp]
    dsimp only
    have hc : (frameB b t c now).cf = b.cf ∧ (frameB b t c now).cp = b.cp ∧ (frameB b t c now).cb = b.cb ∧ (frameB b t c now).ev = b.ev := by
      unfold frameB
      split <;> exact ⟨rfl, rfl, rfl, rfl⟩
    obtain ⟨c1, c2, c3, c4⟩ := hc
    have k0 := h.e0
    have k1 := h.e1
    refine buf_put_main b t i c s now (by omega) hb ht hs (frameB b t c now) f (atF b.l t) ⟨⟨by rw [c1]; exact h.f0, by rw [c1]; exact h.f1, by rw [c2]; exact h.p0, by rw [c2]; exact h.p1, by rw [c3]; exact h.b0, by rw [c3]; exact h.b1⟩, by omega, f4, by rw [c4]; exact h.e0, by rw [c4]; omega⟩ f1 _ ?_ hfr
    rw [List.length_set]
end Go.Proofs.Ytekpaepkoeelfaa
