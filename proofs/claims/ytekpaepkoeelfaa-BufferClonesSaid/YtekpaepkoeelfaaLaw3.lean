
/- The statements of layer 24: a call of both; walked. -/
import Derived.Test.YtekpaepkoeelfaaLaw2
namespace Go.Proofs.Ytekpaepkoeelfaa
open Go.RowKit
set_option linter.unusedVariables false
set_option linter.unusedSimpArgs false

/-- A call. -/
structure A24 where
  play : Bool
  tm : Nat
  ix : Int
  ct : Int
  la : Int
  dt : List UInt8
  dl : Int
  mo : Int
abbrev a24L (a : A24) : List V := [vb a.play, vu a.tm, vi a.ix, vi a.ct, vi a.la, vs a.dt, vi a.dl, vi a.mo]
def a24El (a : A24) : List V := a24L a
attribute [go_sem] a24El
structure A24.Ok (a : A24) : Prop where
  tm : a.tm < 4294967296
  i0 : -9223372036854775808 ≤ a.ix
  i1 : a.ix ≤ 9223372036854775807
  c0 : -9223372036854775808 ≤ a.ct
  c1 : a.ct ≤ 9223372036854775807
  l0 : -9223372036854775808 ≤ a.la
  l1 : a.la ≤ 9223372036854775807
  dt : a.dt.length ≤ maxLen
  d0 : -9223372036854775808 ≤ a.dl
  d1 : a.dl ≤ 9223372036854775807
  m0 : -9223372036854775808 ≤ a.mo
  m1 : a.mo ≤ 9223372036854775807
def doB (b : Bu) (a : A24) (now : Int) : Bu := if a.play = true then (playB b now a.dl a.mo).1 else (putB b a.tm a.ix a.ct (a.dt.take 30) now).1
theorem doB_ok {b : Bu} {K : Int} (h : b.Ok K) {a : A24} (ha : a.Ok) {now : Int} (h2 : -1099511627776 ≤ now) (h3 : now ≤ 1099511627776) : (doB b a now).Ok (K + 1025) := by
  unfold doB
  split
  · exact (play_ok h now a.dl a.mo).1
  · exact (put_ok h ha.tm (by rw [List.length_take]; omega) h2 h3).1
theorem put_all {b : Bu} {K : Int} (h : b.Ok K) (hK : K ≤ 549755813888) (t : Nat) (i c : Int) (s : List UInt8) (now : Int) (ht : t < 4294967296) (hs : s.length ≤ 1048576) (h2 : -1099511627776 ≤ now) (h3 : now ≤ 1099511627776) :
    Spec Try.prog 35 [.ca (.val (rbV (docB b))), .ca (.val (vi t)), .ca (.val (vi i)), .ca (.val (vi c)), .ca (.val (vs s)), .ca (.val (vi now))] [] (.ca (.val (.tup [rbV (docB (putB b t i c s now).1), vi (putB b t i c s now).2.1, .lst 1 ((putB b t i c s now).2.2.map fun n : Nat => [vi n])]))) [] := by
  obtain ⟨_, _, _, hd⟩ := put_ok (i := i) (c := c) h ht hs h2 h3
  have hR : Spec Try.prog 35 [.ca (.val (rbV (docB b))), .ca (.val (vi t)), .ca (.val (vi i)), .ca (.val (vi c)), .ca (.val (vs s)), .ca (.val (vi now))] [] (.ca (.val (.tup [rbV (putRB (docB b) t i c s now).1, vi (putRB (docB b) t i c s now).2.1, .lst 1 ((putRB (docB b) t i c s now).2.2.map fun t : Int => [vi t])]))) [] := by
    unfold putRB
    by_cases hz : (t : Int) ≤ (docB b).hz
    · rw [if_pos hz]
      exact dob_late (docB b) t i c s now hz
    · rw [if_neg hz]
      by_cases hb : c < 1 ∨ 255 < c ∨ i < 0 ∨ c ≤ i
      · rw [if_pos hb]
        exact dob_bad (docB b) t i c s now (by omega) hb
      · rw [if_neg hb]
        have hl := h.len
        have k1 := h.e1
        exact dob_put (docB b) t i c s now (by omega) hb hs (docB_fr h.fr) (by show (b.l.map docF).length ≤ _; rw [List.length_map]; exact hl) ⟨h.f0, h.p0, h.b0⟩ h.e0 (by show b.ev ≤ _; omega) _ rfl
  rw [hd] at hR
  dsimp only at hR
  rw [List.map_map] at hR
  exact hR
theorem play_all {b : Bu} {K : Int} (h : b.Ok K) (hK : K ≤ 549755813888) (now delay most : Int) (hn : -1099511627776 ≤ now ∧ now ≤ 1099511627776) (hd : -9223372036854775808 ≤ delay ∧ delay ≤ 9223372036854775807) (hm : -9223372036854775808 ≤ most ∧ most ≤ 9223372036854775807) :
    Spec Try.prog 32 [.ca (.val (rbV (docB b))), .ca (.val (vi now)), .ca (.val (vi delay)), .ca (.val (vi most))] [] (.ca (.val (.tup [rbV (docB (playB b now delay most).1), .lst 2 ((playB b now delay most).2.1.map fun p : Nat × List UInt8 => [vi p.1, vs p.2]), .lst 1 ((playB b now delay most).2.2.map fun n : Nat => [vi n])]))) [] := by
  obtain ⟨_, _, _, _, _, hd'⟩ := play_ok h now delay most
  have hl := h.len
  have hR := dob_play (docB b) now delay most ⟨docB_fr h.fr, fun f hf => by
    obtain ⟨g, hg, rfl⟩ := List.mem_map.1 hf
    exact ⟨(h.fr g hg).t0, (h.fr g hg).t1⟩, by show (b.l.map docF).length + 0 + 0 ≤ _; rw [List.length_map]; omega, h.c0, by show b.pl + ((b.l.map docF).length : Nat) ≤ _; rw [List.length_map]; have := h.c1; omega, h.d0, by show b.dr + ((b.l.map docF).length : Nat) ≤ _; rw [List.length_map]; have := h.d1; omega⟩ hn hd hm
  rw [hd'] at hR
  dsimp only at hR
  rw [List.map_map, List.map_map] at hR
  exact hR
theorem play_prog {b : Bu} {K : Int} (h : b.Ok K) (hK : K ≤ 549755813888) : PlI (b, [], []) := by
  have hl := h.len
  have := h.c1
  have := h.d1
  exact ⟨h.fr, by dsimp only; simp; omega, h.c0, by dsimp only; omega, h.d0, by dsimp only; omega⟩
set_option maxRecDepth 100000 in
set_option maxHeartbeats 4000000 in
theorem do24 {b : Bu} {K : Int} (h : b.Ok K) (hK : K ≤ 549755813888) {a : A24} (ha : a.Ok) (now : Int) (h2 : -1099511627776 ≤ now) (h3 : now ≤ 1099511627776) :
    Spec Try.prog 18 [.ptr 0 0, .ca (.val (rbV (docB b))), .ca (.val (.agg (a24El a))), .ca (.val (vi now))] [buO b] (.ca (.val (.tup [rbV (docB (doB b a now)), vb true]))) [buO (doB b a now)] := by
  obtain ⟨pl, tm, ix, ct, la, dt, dl, mo⟩ := a
  have htm := ha.tm
  have hdt := ha.dt
  dsimp only at htm hdt
  unfold doB
  cases pl with
  | true =>
    rw [if_pos rfl]
    dsimp only
    obtain ⟨q1, q2, q3, q4, q5, q6⟩ := play_ok h now dl mo
    have c1 := play_all h hK now dl mo ⟨h2, h3⟩ ⟨ha.d0, ha.d1⟩ ⟨ha.m0, ha.m1⟩
    have c2 := buf_play b now dl mo (play_prog h hK) ⟨h2, h3⟩ ⟨ha.d0, ha.d1⟩ ⟨ha.m0, ha.m1⟩
    have c3 := frames_yes0 (playB b now dl mo).2.1 (by omega) q4
    have c4 := times_yes0 (playB b now dl mo).2.2 (by omega) q5
    clear q6
    generalize playB b now dl mo = R at *
    generalize docB b = D at *
    obtain ⟨b2, o, g⟩ := R
    dsimp only at *
    generalize docB b2 = D2 at *
    refine spec_of Try.func18 rfl Try.ntmps18 Try.results18 ⟨by decide, by simp⟩ fun C hC => ?_
    (repeat' ((first | refine sp_ ?_ | exact ex0 | refine call_u Try.call32 (c1) [] ex1 ?_ | refine call_u Try.call10 (c2) [(1000, 0)] ex1 ?_ | refine call_u Try.call33 (c3) [] ex1 ?_ | refine call_u Try.call34 (c4) [] ex1 ?_ | (refine ret_s [] ?_; simp (decide := true) (disch := omega) only [go_sem, ↓reduceIte, ↓put_at]))))
  | false =>
    rw [if_neg (show ¬ (false = true) by decide)]
    dsimp only
    have c0 := cut24 dt 30 (by omega) hdt
    have hs : (dt.take 30).length ≤ 1048576 := by rw [List.length_take]; omega
    obtain ⟨q1, q2, q3, q4⟩ := put_ok (i := ix) (c := ct) h htm hs h2 h3
    have c1 := put_all h hK tm ix ct (dt.take 30) now htm hs h2 h3
    have c2 := buf_put h hK tm ix ct (dt.take 30) now htm hs h2 h3
    have c4 := times_yes0 (putB b tm ix ct (dt.take 30) now).2.2 (by omega) q3
    clear q4
    generalize putB b tm ix ct (dt.take 30) now = R at *
    generalize docB b = D at *
    obtain ⟨b2, k, g⟩ := R
    dsimp only at *
    generalize docB b2 = D2 at *
    refine spec_of Try.func18 rfl Try.ntmps18 Try.results18 ⟨by decide, by simp⟩ fun C hC => ?_
    (repeat' ((first | refine sp_ ?_ | exact ex0 | refine call_u Try.call12 (c0) [] ex1 ?_ | refine call_u Try.call35 (c1) [] ex1 ?_ | refine call_u Try.call9 (c2) [(1000, 0)] ex1 ?_ | refine call_u Try.call34 (c4) [] ex1 ?_ | (refine ret_s [] ?_; simp (decide := true) (disch := omega) only [go_sem, ↓reduceIte, ↓put_at]))))
end Go.Proofs.Ytekpaepkoeelfaa
