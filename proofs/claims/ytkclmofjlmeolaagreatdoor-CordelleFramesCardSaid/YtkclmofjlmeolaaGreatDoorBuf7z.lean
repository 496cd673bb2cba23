/- Package buffer: what is played; walked. -/
import Derived.Test.YtkclmofjlmeolaaGreatDoorBuf3z
namespace Go.Proofs.YtkclmofjlmeolaaGreatDoor
open Go.RowKit
set_option linter.unusedVariables false
set_option linter.unusedSimpArgs false

abbrev plEl (p : Nat × List UInt8) : List V := [vu p.1, vs p.2]
def plE (p : Nat × List UInt8) : List V := plEl p
attribute [go_sem] plE
/-- What the rounds keep. -/
structure PlI (x : Bu × List (Nat × List UInt8) × List Nat) : Prop where
  fr : ∀ f ∈ x.1.l, f.Ok
  ln : x.1.l.length + x.2.1.length + x.2.2.length ≤ 1025
  p0 : 0 ≤ x.1.pl
  p1 : x.1.pl + x.1.l.length ≤ 2199023255552
  d0 : 0 ≤ x.1.dr
  d1 : x.1.dr + x.1.l.length ≤ 2199023255552
def plN (now delay most : Int) (x : Bu × List (Nat × List UInt8) × List Nat) : Bu × List (Nat × List UInt8) × List Nat :=
  let r := playL now delay most x.1.l x.1.hz
  ({ x.1 with l := r.l, hz := r.hz, pl := x.1.pl + r.out.length, dr := x.1.dr + r.gone.length }, x.2.1 ++ r.out, x.2.2 ++ r.gone)
theorem plN_nil {now delay most cf cp cb hz pl dr ev : Int} {o : List (Nat × List UInt8)} {g : List Nat} : plN now delay most (⟨cf, cp, cb, [], hz, pl, dr, ev⟩, o, g) = (⟨cf, cp, cb, [], hz, pl, dr, ev⟩, o, g) := by
  simp [plN, playL]
theorem plN_out {now delay most cf cp cb hz pl dr ev : Int} {f : Fr} {l : List Fr} {o : List (Nat × List UInt8)} {g : List Nat} (h : wholeF f = true ∧ delay ≤ now - f.t0) :
    plN now delay most (⟨cf, cp, cb, f :: l, hz, pl, dr, ev⟩, o, g) = plN now delay most (⟨cf, cp, cb, l, f.tm, pl + 1, dr, ev⟩, o ++ [(f.tm, dataF f)], g) := by
  unfold plN
  dsimp only
  rw [playL, if_pos h]
  dsimp only
  rw [List.append_assoc, List.length_cons]
  refine Prod.ext ?_ rfl
  show Bu.mk _ _ _ _ _ _ _ _ = Bu.mk _ _ _ _ _ _ _ _
  congr 1
  omega
theorem plN_gone {now delay most cf cp cb hz pl dr ev : Int} {f : Fr} {l : List Fr} {o : List (Nat × List UInt8)} {g : List Nat} (h : ¬ (wholeF f = true ∧ delay ≤ now - f.t0)) (h2 : most ≤ now - f.t0) :
    plN now delay most (⟨cf, cp, cb, f :: l, hz, pl, dr, ev⟩, o, g) = plN now delay most (⟨cf, cp, cb, l, f.tm, pl, dr + 1, ev⟩, o, g ++ [f.tm]) := by
  unfold plN
  dsimp only
  rw [playL, if_neg h, if_pos h2]
  dsimp only
  rw [List.append_assoc, List.length_cons]
  refine Prod.ext ?_ rfl
  show Bu.mk _ _ _ _ _ _ _ _ = Bu.mk _ _ _ _ _ _ _ _
  congr 1
  omega
theorem plN_stop {now delay most cf cp cb hz pl dr ev : Int} {f : Fr} {l : List Fr} {o : List (Nat × List UInt8)} {g : List Nat} (h : ¬ (wholeF f = true ∧ delay ≤ now - f.t0)) (h2 : ¬ most ≤ now - f.t0) :
    plN now delay most (⟨cf, cp, cb, f :: l, hz, pl, dr, ev⟩, o, g) = (⟨cf, cp, cb, f :: l, hz, pl, dr, ev⟩, o, g) := by
  unfold plN
  dsimp only
  rw [playL, if_neg h, if_neg h2]
  simp
set_option maxRecDepth 100000 in
set_option maxHeartbeats 8000000 in
theorem buf_play (b : Bu) (now delay most : Int) (hb : PlI (b, [], [])) (hn : -1099511627776 ≤ now ∧ now ≤ 1099511627776) (hd : -9223372036854775808 ≤ delay ∧ delay ≤ 9223372036854775807) (hm : -9223372036854775808 ≤ most ∧ most ≤ 9223372036854775807) :
    Spec Tryz.prog 11 [.ptr 0 0, .ca (.val (vi now)), .ca (.val (vi delay)), .ca (.val (vi most))] [buO b] (.ca (.val (.tup [.lst 2 ((playB b now delay most).2.1.map plE), .lst 1 ((playB b now delay most).2.2.map fun t : Nat => [vu t])]))) [buO (playB b now delay most).1] := by
  obtain ⟨R, hR⟩ : ∃ R, plN now delay most (b, [], []) = R := ⟨_, rfl⟩
  have hR' : playB b now delay most = R := hR
  rw [hR']
  clear hR'
  refine spec_of Tryz.func11 rfl Tryz.ntmps11 Tryz.results11 ⟨by decide, by simp⟩ fun C hC => ?_
  (repeat' ((fail_if_success (refine stop_reg 3 ?_)); (first | refine sp_ ?_ | exact ex0 | (refine ret_s [] ?_; simp (decide := true) (disch := omega) only [go_sem, ↓reduceIte, ↓put_at]))))
  refine own_s 10 (10, 1) 51 2 ?_
  simp (decide := true) (disch := omega) only [go_sem, ↓reduceIte, ↓put_at]
  refine own_s 11 (11, 1) 31 1 ?_
  simp (decide := true) (disch := omega) only [go_sem, ↓reduceIte, ↓put_at]
  refine loop_s (α := {x : Bu × List (Nat × List UInt8) × List Nat // PlI x ∧ plN now delay most x = R}) (fun x => [(.o (1000, 0), .num 11), (.c (1000, 0) 0, .av (.val (vi x.1.1.cf))), (.c (1000, 0) 1, .av (.val (vi x.1.1.cp))), (.c (1000, 0) 2, .av (.val (vi x.1.1.cb))), (.c (1000, 0) 3, .av (.val (vi x.1.1.l.length))), (.c (1000, 0) 4, .av (.val (vi (pkts x.1.1.l)))), (.c (1000, 0) 5, .av (.val (vi (bts x.1.1.l)))), (.c (1000, 0) 6, .av (.ref (1000, 7) 0)), (.c (1000, 0) 7, .av (.val (vi x.1.1.hz))), (.c (1000, 0) 8, .av (.val (vi x.1.1.pl))), (.c (1000, 0) 9, .av (.val (vi x.1.1.dr))), (.c (1000, 0) 10, .av (.val (vi x.1.1.ev))), (.r (1000, 7), .tree (.row 83 1 (x.1.1.l.map fun f => [T.box (frT f)]))), (.s 0, .av (.ptr (1000, 0) 0 0)), (.s 1, .av (.val (vi now))), (.s 2, .av (.val (vi delay))), (.s 3, .av (.val (vi most))), (.k (10, 1), .row 51 2 x.1.2.1.length), (.s 10, .av (.own (10, 1) 0 51 2 (x.1.2.1.map plE))), (.k (11, 1), .row 31 1 x.1.2.2.length), (.s 11, .av (.own (11, 1) 0 31 1 (x.1.2.2.map fun t : Nat => [vu t])))]) (fun x => x.1.1.l.length) ⟨(b, [], []), hb, hR⟩ ?_ (fun x => ?_)
  · simp (decide := true) (disch := omega) only [go_sem, ↓reduceIte, ↓put_at]
  obtain ⟨⟨⟨cf, cp, cb, l0, hz, pl, dr, ev⟩, o, g⟩, hx, hR⟩ := x
  dsimp only at hx hR ⊢
  cases l0 with
  | nil =>
    rw [plN_nil] at hR
    subst hR
    (repeat' ((first | refine sp_ ?_ | exact ex0 | (refine ret_s [] ?_; simp (decide := true) (disch := omega) only [go_sem, ↓reduceIte, ↓put_at]))))
  | cons f l =>
    have hof := hx.fr f (List.mem_cons_self ..)
    have hft := hof.tm
    have hf0 := hof.t0
    have hf1 := hof.t1
    have hxl := hx.ln
    have hx0 : 0 ≤ pl := hx.p0
    have hx1 : pl + (f :: l).length ≤ 2199023255552 := hx.p1
    have hx2 : 0 ≤ dr := hx.d0
    have hx3 : dr + (f :: l).length ≤ 2199023255552 := hx.d1
    have hlen : (f :: l).length ≤ 2000 := by dsimp only at hxl; omega
    simp only [List.length_cons] at hxl hx1 hx3
    have cd := spl_data f hof
    have cf1 := spl_first f
    have ct := spl_time f
    have cpp := buf_pop ⟨cf, cp, cb, f :: l, hz, pl, dr, ev⟩ f l rfl hx.fr hlen
    rw [show popB ⟨cf, cp, cb, f :: l, hz, pl, dr, ev⟩ = ⟨cf, cp, cb, l, f.tm, pl, dr, ev⟩ from rfl] at cpp
    have hlt : ((f :: l).length : Int) > 0 := by simp only [List.length_cons]; omega
    (repeat' ((fail_if_success (first | refine stop_at 4 ?_ | refine stop_l 4 ?_)); (first | refine sp_ ?_ | exact ex0 | (refine ret_s [] ?_; simp (decide := true) (disch := omega) only [go_sem, ↓reduceIte, ↓put_at]))))
    refine spl_s (1000, 7) (90, 1) (f :: l) frT 83 ⟨by simp (decide := true) (disch := omega) only [go_sem, ↓reduceIte, ↓put_at], by decide, by decide⟩ fun zs hz' => ?_
    obtain ⟨b0, zs', rfl, hzl⟩ : ∃ b0 zs', zs = (b0, f) :: zs' ∧ zs'.map (·.2) = l := by
      match zs, hz' with
      | (b0, f0) :: zs', hz' =>
        simp only [List.map_cons, List.cons.injEq] at hz'
        exact ⟨b0, zs', by rw [hz'.1], hz'.2⟩
    clear hz'
    simp only [List.map_cons]
    generalize hE : (zs'.map fun z => [V.sc (pw z.1)]) = es
    generalize hG : (zs'.map fun z => (pw z.1, T.box (frT z.2))) = gs
    refine opn_s hC (90, 1) 27 0 [27, 37, 82] [] (pw b0) ((pw b0, .box (frT f)) :: gs) ((pw b0, .av .any) :: gs) (frT f) rfl rfl ⟨rfl, rfl⟩ ⟨by simp (decide := true) (disch := omega) only [go_sem, ↓reduceIte, ↓put_at], ?_⟩
    (repeat' ((fail_if_success (first | refine stop_at 7 ?_ | refine stop_l 7 ?_)); (first | refine sp_ ?_ | exact ex0 | refine call_u Tryz.call31 (cd) [(27, 0)] ex1 ?_ | refine call_u Tryz.call32 (cf1) [(27, 0)] ex1 ?_ | (refine ret_s [] ?_; simp (decide := true) (disch := omega) only [go_sem, ↓reduceIte, ↓put_at]))))
    refine cls_s hC (90, 1) (27, 0) 0 82 [] (pw b0) ((pw b0, .av .any) :: gs) ((pw b0, .box (frT f)) :: gs) .any (frT f) rfl rfl rfl ⟨by simp (decide := true) (disch := omega) only [go_sem, ↓reduceIte, ↓put_at], ?_⟩
    refine joi_s (1000, 7) (90, 1) 83 ((pw b0, .box (frT f)) :: gs) ([V.sc (pw b0)] :: es) ((f :: l).map fun f => [T.box (frT f)]) (by rw [← hE, ← hG, List.map_cons, List.map_map]; rfl) (by rw [← hG, ← hzl, List.map_cons, List.map_cons, List.map_map, List.map_map]; rfl) ⟨by simp (decide := true) (disch := omega) only [go_sem, ↓reduceIte, ↓put_at], ?_⟩
    have h32 : (f.tm : Int) < 4294967296 := by omega
    cases hw : wholeF f with
    | true =>
      by_cases hd2 : delay ≤ now - f.t0
      · rw [plN_out ⟨hw, hd2⟩] at hR
        (repeat' ((first | refine sp_ ?_ | exact ex0 | refine call_u Tryz.call29 (cpp) [(1000, 0)] ex1 ?_ | refine call_u Tryz.call30 (ct) [(51, 0)] ex1 ?_ | (refine ret_s [] ?_; simp (decide := true) (disch := omega) only [go_sem, ↓reduceIte, ↓put_at]))))
        refine next_s (α := {x : Bu × List (Nat × List UInt8) × List Nat // PlI x ∧ plN now delay most x = R}) ⟨(⟨cf, cp, cb, l, f.tm, pl + 1, dr, ev⟩, o ++ [(f.tm, dataF f)], g), ⟨fun q hq => hx.fr q (List.mem_cons_of_mem _ hq), by rw [List.length_append]; simp; omega, by dsimp only; omega, by dsimp only; omega, by dsimp only; omega, by dsimp only; omega⟩, hR⟩ ⟨?_, by (try dsimp only); simp only [List.length_cons]; omega⟩
        (try dsimp only)
        simp (decide := true) (disch := omega) only [go_sem, ↓reduceIte, ↓put_at]
        rw [List.map_append]
        first | rfl | exact ⟨rfl, rfl⟩
      · have hna : ¬ (wholeF f = true ∧ delay ≤ now - f.t0) := fun q => hd2 q.2
        by_cases hm2 : most ≤ now - f.t0
        · rw [plN_gone hna hm2] at hR
          (repeat' ((first | refine sp_ ?_ | exact ex0 | refine call_u Tryz.call29 (cpp) [(1000, 0)] ex1 ?_ | refine call_u Tryz.call30 (ct) [(70, 0)] ex1 ?_ | (refine ret_s [] ?_; simp (decide := true) (disch := omega) only [go_sem, ↓reduceIte, ↓put_at]))))
          refine next_s (α := {x : Bu × List (Nat × List UInt8) × List Nat // PlI x ∧ plN now delay most x = R}) ⟨(⟨cf, cp, cb, l, f.tm, pl, dr + 1, ev⟩, o, g ++ [f.tm]), ⟨fun q hq => hx.fr q (List.mem_cons_of_mem _ hq), by rw [List.length_append]; simp; omega, by dsimp only; omega, by dsimp only; omega, by dsimp only; omega, by dsimp only; omega⟩, hR⟩ ⟨?_, by (try dsimp only); simp only [List.length_cons]; omega⟩
          (try dsimp only)
          simp (decide := true) (disch := omega) only [go_sem, ↓reduceIte, ↓put_at]
          rw [List.map_append]
          first | rfl | exact ⟨rfl, rfl⟩
        · rw [plN_stop hna hm2] at hR
          subst hR
          (repeat' ((first | refine sp_ ?_ | exact ex0 | (refine ret_s [] ?_; simp (decide := true) (disch := omega) only [go_sem, ↓reduceIte, ↓put_at]))))
    | false =>
      have hna : ¬ (wholeF f = true ∧ delay ≤ now - f.t0) := fun q => by rw [hw] at q; exact absurd q.1 (by decide)
      by_cases hm2 : most ≤ now - f.t0
      · rw [plN_gone hna hm2] at hR
        (repeat' ((first | refine sp_ ?_ | exact ex0 | refine call_u Tryz.call29 (cpp) [(1000, 0)] ex1 ?_ | refine call_u Tryz.call30 (ct) [(70, 0)] ex1 ?_ | (refine ret_s [] ?_; simp (decide := true) (disch := omega) only [go_sem, ↓reduceIte, ↓put_at]))))
        refine next_s (α := {x : Bu × List (Nat × List UInt8) × List Nat // PlI x ∧ plN now delay most x = R}) ⟨(⟨cf, cp, cb, l, f.tm, pl, dr + 1, ev⟩, o, g ++ [f.tm]), ⟨fun q hq => hx.fr q (List.mem_cons_of_mem _ hq), by rw [List.length_append]; simp; omega, by dsimp only; omega, by dsimp only; omega, by dsimp only; omega, by dsimp only; omega⟩, hR⟩ ⟨?_, by (try dsimp only); simp only [List.length_cons]; omega⟩
        (try dsimp only)
        simp (decide := true) (disch := omega) only [go_sem, ↓reduceIte, ↓put_at]
        rw [List.map_append]
        first | rfl | exact ⟨rfl, rfl⟩
      · rw [plN_stop hna hm2] at hR
        subst hR
        (repeat' ((first | refine sp_ ?_ | exact ex0 | (refine ret_s [] ?_; simp (decide := true) (disch := omega) only [go_sem, ↓reduceIte, ↓put_at]))))
end Go.Proofs.YtkclmofjlmeolaaGreatDoor

