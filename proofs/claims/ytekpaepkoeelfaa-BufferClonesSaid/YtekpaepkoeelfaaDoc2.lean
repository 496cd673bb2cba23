
/- The document's layer 24, walked: sizes, what is played. -/
import Derived.Test.YtekpaepkoeelfaaDoc1
namespace Go.Proofs.Ytekpaepkoeelfaa
open Go.RowKit
set_option linter.unusedVariables false
set_option linter.unusedSimpArgs false

theorem rf_len (l : List RF) : ∀ r ∈ l.map rfEl, r.length = 4 := fun r h => by obtain ⟨e, _, rfl⟩ := List.mem_map.1 h; rfl
set_option maxRecDepth 100000 in
set_option maxHeartbeats 8000000 in
theorem dob_clip (a b c : Int) : Spec Try.prog 17 [.ca (.val (.agg [vi a, vi b, vi c]))] [] (.ca (.val (.agg [vi (max 1 (min a 1024)), vi (max 1 (min b 65536)), vi (max 1 (min c 67108864))]))) [] := by
  refine spec_of Try.func17 rfl Try.ntmps17 Try.results17 ⟨by decide, by simp⟩ fun C hC => ?_
  (repeat' ((first | refine sp_ ?_ | exact ex0 | (refine ret_s [] ?_; simp (decide := true) (disch := omega) only [go_sem, ↓reduceIte, ↓put_at]))))
set_option maxRecDepth 100000 in
set_option maxHeartbeats 8000000 in
theorem dob_new (a b c : Int) : Spec Try.prog 15 [.ca (.val (.agg [vi a, vi b, vi c]))] [] (.ca (.val (rbV (newRB a b c)))) [] := by
  have c1 := dob_clip a b c
  refine spec_of Try.func15 rfl Try.ntmps15 Try.results15 ⟨by decide, by simp⟩ fun C hC => ?_
  (repeat' ((first | refine sp_ ?_ | exact ex0 | refine call_u Try.call17 (c1) [] ex1 ?_ | (refine ret_s [] ?_; simp (decide := true) (disch := omega) only [go_sem, ↓reduceIte, ↓put_at]))))
  exact ⟨rfl, rfl, rfl, rfl, rfl, rfl, rfl, rfl⟩
theorem sizeR_snoc (l : List RF) (f : RF) : sizeR (l ++ [f]) = ((sizeR l).1 + ((f.has.length : Int) - (lackR 0 f.has).length), (sizeR l).2 + (dataR f).2) := by
  unfold sizeR
  rw [List.foldl_append]
  rfl
theorem dataR_le {f : RF} (h : f.Ok) : 0 ≤ (dataR f).2 ∧ (dataR f).2 ≤ 267386880 := by
  have h1 := catR_len h.sz
  have h2 := h.ln
  have h3 := h.l1
  unfold dataR
  dsimp only
  omega
theorem size_snoc_ind {P : List RF → Prop} (h0 : P []) (h1 : ∀ l f, P l → P (l ++ [f])) (l : List RF) : P l := by
  have : ∀ n (l : List RF), l.length = n → P l := fun n => by
    induction n with
    | zero => intro l h; rw [List.eq_nil_of_length_eq_zero h]; exact h0
    | succ n ih =>
      intro l h
      have hne : l ≠ [] := fun e => by subst e; simp at h
      have := h1 l.dropLast (l.getLast hne) (ih _ (by rw [List.length_dropLast]; omega))
      rwa [List.dropLast_concat_getLast] at this
  exact this _ l rfl
theorem sizeR_le : ∀ l : List RF, (∀ f ∈ l, f.Ok) → 0 ≤ (sizeR l).1 ∧ (sizeR l).1 ≤ 255 * l.length ∧ 0 ≤ (sizeR l).2 ∧ (sizeR l).2 ≤ 267386880 * l.length := fun l => by
  refine size_snoc_ind (P := fun l => (∀ f ∈ l, f.Ok) → 0 ≤ (sizeR l).1 ∧ (sizeR l).1 ≤ 255 * l.length ∧ 0 ≤ (sizeR l).2 ∧ (sizeR l).2 ≤ 267386880 * l.length) (fun _ => by simp [sizeR]) (fun l f ih h => ?_) l
  obtain ⟨h1, h2, h3, h4⟩ := ih fun g hg => h g (List.mem_append_left _ hg)
  have hf := h f (by simp)
  have h5 := dataR_le hf
  have h6 := lackR_len f.has 0
  have h7 := hf.l1
  rw [sizeR_snoc, List.length_append]
  simp only [List.length_cons, List.length_nil]
  omega
set_option maxRecDepth 100000 in
set_option maxHeartbeats 2000000 in
theorem dob_sizes (b : RB) (h : ∀ f ∈ b.l, f.Ok) (hl : b.l.length ≤ 2000) : Spec Try.prog 36 [.ca (.val (rbV b))] [] (.ca (.val (.tup [vi (sizeR b.l).1, vi (sizeR b.l).2]))) [] := by
  refine spec_of Try.func36 rfl Try.ntmps36 Try.results36 ⟨by decide, by simp⟩ fun C hC => ?_
  (repeat' ((fail_if_success (refine stop_reg 4 ?_)); (first | refine sp_ ?_ | exact ex0 | (refine ret_s [] ?_; simp (decide := true) (disch := omega) only [go_sem, ↓reduceIte, ↓put_at]))))
  refine loop_s (α := {i : Nat // i ≤ b.l.length}) (fun i => [(.s 4, .av (.val (vi (sizeR (b.l.take i.1)).1))), (.s 5, .av (.val (vi (sizeR (b.l.take i.1)).2))), (.s 11, .av (.val (.lst 4 (b.l.map rfEl)))), (.s 12, .av (.val (vi b.l.length))), (.s 13, .av (.val (vi i.1)))]) (fun i => b.l.length - i.1) ⟨0, Nat.zero_le _⟩ ?_ (fun i => ?_)
  · rw [List.take_zero]
    simp (decide := true) (disch := omega) only [go_sem, ↓reduceIte, ↓put_at]
    first | exact ⟨rfl, rfl⟩ | skip
  obtain ⟨i, hi⟩ := i
  dsimp only at hi ⊢
  by_cases hlt : i < b.l.length
  · have htk : b.l.take (i + 1) = b.l.take i ++ [b.l[i]] := List.take_succ_eq_append_getElem hlt
    have htl : (b.l.take i).length = i := by rw [List.length_take]; omega
    have hltz : (i : Int) < b.l.length := by omega
    have hof := h _ (List.getElem_mem hlt)
    have hge : (b.l.map rfEl).getD i [] = rfEl b.l[i] := by simp [hlt]
    have hsz := sizeR_le (b.l.take i) fun f hf => h f (List.mem_of_mem_take hf)
    have hst := sizeR_snoc (b.l.take i) b.l[i]
    rw [← htk] at hst
    have cl := doc_lacks b.l[i] hof.l1
    have cd := doc_data b.l[i] hof
    have hd := dataR_le hof
    have hll := lackR_len b.l[i].has 0
    have hl1 := hof.l1
    (repeat' ((first | refine sp_ ?_ | exact ex0 | refine call_u Try.call50 (cl) [] ex1 ?_ | refine call_u Try.call51 (cd) [] ex1 ?_ | (refine ret_s [] ?_; simp (decide := true) (disch := omega) only [go_sem, ↓reduceIte, ↓put_at]))))
    refine next_s (α := {i : Nat // i ≤ b.l.length}) ⟨i + 1, hlt⟩ ⟨?_, by (try dsimp only); omega⟩
    (try dsimp only)
    rw [hst]
    simp (decide := true) (disch := omega) only [go_sem, ↓reduceIte, ↓put_at]
  · obtain rfl : i = b.l.length := by omega
    rw [List.take_length]
    (repeat' ((first | refine sp_ ?_ | exact ex0 | (refine ret_s [] ?_; simp (decide := true) (disch := omega) only [go_sem, ↓reduceIte, ↓put_at]))))
abbrev prL (p : Int × List UInt8) : List V := [vi p.1, vs p.2]
def prE (p : Int × List UInt8) : List V := prL p
attribute [go_sem] prE
/-- What the rounds keep. -/
structure PlR (x : RB × List (Int × List UInt8) × List Int) : Prop where
  fr : ∀ f ∈ x.1.l, f.Ok
  t0 : ∀ f ∈ x.1.l, -1099511627776 ≤ f.t0 ∧ f.t0 ≤ 1099511627776
  ln : x.1.l.length + x.2.1.length + x.2.2.length ≤ 1025
  p0 : 0 ≤ x.1.pl
  p1 : x.1.pl + x.1.l.length ≤ 2199023255552
  d0 : 0 ≤ x.1.dr
  d1 : x.1.dr + x.1.l.length ≤ 2199023255552
def plM (now delay most : Int) (x : RB × List (Int × List UInt8) × List Int) : RB × List (Int × List UInt8) × List Int :=
  let r := playLR now delay most x.1.l x.1.hz
  ({ x.1 with l := r.l, hz := r.hz, pl := x.1.pl + r.out.length, dr := x.1.dr + r.gone.length }, x.2.1 ++ r.out, x.2.2 ++ r.gone)
theorem plM_nil {now delay most cf cp cb hz pl dr ev : Int} {o : List (Int × List UInt8)} {g : List Int} : plM now delay most (⟨cf, cp, cb, [], hz, pl, dr, ev⟩, o, g) = (⟨cf, cp, cb, [], hz, pl, dr, ev⟩, o, g) := by
  simp [plM, playLR]
theorem plM_out {now delay most cf cp cb hz pl dr ev : Int} {f : RF} {l : List RF} {o : List (Int × List UInt8)} {g : List Int} (h : lackR 0 f.has = [] ∧ delay ≤ now - f.t0) :
    plM now delay most (⟨cf, cp, cb, f :: l, hz, pl, dr, ev⟩, o, g) = plM now delay most (⟨cf, cp, cb, l, f.tm, pl + 1, dr, ev⟩, o ++ [(f.tm, (dataR f).1)], g) := by
  unfold plM
  dsimp only
  rw [playLR, if_pos h]
  dsimp only
  rw [List.append_assoc, List.length_cons]
  refine Prod.ext ?_ rfl
  show RB.mk _ _ _ _ _ _ _ _ = RB.mk _ _ _ _ _ _ _ _
  congr 1
  omega
theorem plM_gone {now delay most cf cp cb hz pl dr ev : Int} {f : RF} {l : List RF} {o : List (Int × List UInt8)} {g : List Int} (h : ¬ (lackR 0 f.has = [] ∧ delay ≤ now - f.t0)) (h2 : most ≤ now - f.t0) :
    plM now delay most (⟨cf, cp, cb, f :: l, hz, pl, dr, ev⟩, o, g) = plM now delay most (⟨cf, cp, cb, l, f.tm, pl, dr + 1, ev⟩, o, g ++ [f.tm]) := by
  unfold plM
  dsimp only
  rw [playLR, if_neg h, if_pos h2]
  dsimp only
  rw [List.append_assoc, List.length_cons]
  refine Prod.ext ?_ rfl
  show RB.mk _ _ _ _ _ _ _ _ = RB.mk _ _ _ _ _ _ _ _
  congr 1
  omega
theorem plM_stop {now delay most cf cp cb hz pl dr ev : Int} {f : RF} {l : List RF} {o : List (Int × List UInt8)} {g : List Int} (h : ¬ (lackR 0 f.has = [] ∧ delay ≤ now - f.t0)) (h2 : ¬ most ≤ now - f.t0) :
    plM now delay most (⟨cf, cp, cb, f :: l, hz, pl, dr, ev⟩, o, g) = (⟨cf, cp, cb, f :: l, hz, pl, dr, ev⟩, o, g) := by
  unfold plM
  dsimp only
  rw [playLR, if_neg h, if_neg h2]
  simp
set_option maxRecDepth 100000 in
set_option maxHeartbeats 8000000 in
theorem dob_play (b : RB) (now delay most : Int) (hb : PlR (b, [], [])) (hn : -1099511627776 ≤ now ∧ now ≤ 1099511627776) (hd : -9223372036854775808 ≤ delay ∧ delay ≤ 9223372036854775807) (hm : -9223372036854775808 ≤ most ∧ most ≤ 9223372036854775807) :
    Spec Try.prog 32 [.ca (.val (rbV b)), .ca (.val (vi now)), .ca (.val (vi delay)), .ca (.val (vi most))] [] (.ca (.val (.tup [rbV (playRB b now delay most).1, .lst 2 ((playRB b now delay most).2.1.map prE), .lst 1 ((playRB b now delay most).2.2.map fun t : Int => [vi t])]))) [] := by
  obtain ⟨R, hR⟩ : ∃ R, plM now delay most (b, [], []) = R := ⟨_, rfl⟩
  have hR' : playRB b now delay most = R := hR
  rw [hR']
  clear hR'
  refine spec_of Try.func32 rfl Try.ntmps32 Try.results32 ⟨by decide, by simp⟩ fun C hC => ?_
  (repeat' ((fail_if_success (refine stop_reg 3 ?_)); (first | refine sp_ ?_ | exact ex0 | (refine ret_s [] ?_; simp (decide := true) (disch := omega) only [go_sem, ↓reduceIte, ↓put_at]))))
  refine loop_s (α := {x : RB × List (Int × List UInt8) × List Int // PlR x ∧ plM now delay most x = R}) (fun x => [(.o (4, 0), .num 8), (.c (4, 0) 0, .av (.val (vi x.1.1.cf))), (.c (4, 0) 1, .av (.val (vi x.1.1.cp))), (.c (4, 0) 2, .av (.val (vi x.1.1.cb))), (.c (4, 0) 3, .av (.val (.lst 4 (x.1.1.l.map rfEl)))), (.c (4, 0) 4, .av (.val (vi x.1.1.hz))), (.c (4, 0) 5, .av (.val (vi x.1.1.pl))), (.c (4, 0) 6, .av (.val (vi x.1.1.dr))), (.c (4, 0) 7, .av (.val (vi x.1.1.ev))), (.s 4, .av (.ptr (4, 0) 0 0)), (.o (8, 0), .num 8), (.s 8, .av (.ptr (8, 0) 0 0)), (.s 1, .av (.val (vi now))), (.s 2, .av (.val (vi delay))), (.s 3, .av (.val (vi most))), (.k (17, 0), .row 113 2 x.1.2.1.length), (.s 11, .av (.own (17, 0) 0 113 2 (x.1.2.1.map prE))), (.k (18, 0), .row 3 1 x.1.2.2.length), (.s 12, .av (.own (18, 0) 0 3 1 (x.1.2.2.map fun t : Int => [vi t])))]) (fun x => x.1.1.l.length) ⟨(b, [], []), hb, hR⟩ ?_ (fun x => ?_)
  · simp (decide := true) (disch := omega) only [go_sem, ↓reduceIte, ↓put_at]
    first | exact ⟨rfl, rfl⟩ | exact ⟨(by show _ = _; kernel_rfl), (by show _ = _; kernel_rfl)⟩ | skip
  obtain ⟨⟨⟨cf, cp, cb, l0, hz, pl, dr, ev⟩, o, g⟩, hx, hR⟩ := x
  dsimp only at hx hR ⊢
  cases l0 with
  | nil =>
    rw [plM_nil] at hR
    subst hR
    (repeat' ((first | refine sp_ ?_ | exact ex0 | (refine ret_s [] ?_; simp (decide := true) (disch := omega) only [go_sem, ↓reduceIte, ↓put_at]))))
  | cons f l =>
    have hof := hx.fr f (List.mem_cons_self ..)
    obtain ⟨hf0, hf1⟩ := hx.t0 f (List.mem_cons_self ..)
    have hxl := hx.ln
    have hx0 : 0 ≤ pl := hx.p0
    have hx1 : pl + (f :: l).length ≤ 2199023255552 := hx.p1
    have hx2 : 0 ≤ dr := hx.d0
    have hx3 : dr + (f :: l).length ≤ 2199023255552 := hx.d1
    simp only [List.length_cons] at hxl hx1 hx3
    have cl := doc_lacks f hof.l1
    have cd := doc_data f hof
    have hll := lackR_len f.has 0
    have hl1 := hof.l1
    have hlt : ((f :: l).length : Int) > 0 := by simp only [List.length_cons]; omega
    cases hL : lackR 0 f.has with
    | nil =>
      rw [hL] at cl
      by_cases hd2 : delay ≤ now - f.t0
      · rw [plM_out ⟨hL, hd2⟩] at hR
        (repeat' ((first | refine sp_ ?_ | exact ex0 | refine call_u Try.call50 (cl) [] ex1 ?_ | refine call_u Try.call51 (cd) [] ex1 ?_ | (refine ret_s [] ?_; simp (decide := true) (disch := omega) only [go_sem, ↓reduceIte, ↓put_at]))))
        refine next_s (α := {x : RB × List (Int × List UInt8) × List Int // PlR x ∧ plM now delay most x = R}) ⟨(⟨cf, cp, cb, l, f.tm, pl + 1, dr, ev⟩, o ++ [(f.tm, (dataR f).1)], g), ⟨fun q hq => hx.fr q (List.mem_cons_of_mem _ hq), fun q hq => hx.t0 q (List.mem_cons_of_mem _ hq), by rw [List.length_append]; simp; omega, by dsimp only; omega, by dsimp only; omega, by dsimp only; omega, by dsimp only; omega⟩, hR⟩ ⟨?_, by (try dsimp only); simp only [List.length_cons]; omega⟩
        (try dsimp only)
        simp (decide := true) (disch := omega) only [go_sem, ↓reduceIte, ↓put_at]
        rw [List.map_append]
        exact ⟨(List.take_of_length_le (by rw [List.length_map]; omega)).symm, rfl⟩
      · have hna : ¬ (lackR 0 f.has = [] ∧ delay ≤ now - f.t0) := fun q => hd2 q.2
        by_cases hm2 : most ≤ now - f.t0
        · rw [plM_gone hna hm2] at hR
          (repeat' ((first | refine sp_ ?_ | exact ex0 | refine call_u Try.call50 (cl) [] ex1 ?_ | refine call_u Try.call51 (cd) [] ex1 ?_ | (refine ret_s [] ?_; simp (decide := true) (disch := omega) only [go_sem, ↓reduceIte, ↓put_at]))))
          refine next_s (α := {x : RB × List (Int × List UInt8) × List Int // PlR x ∧ plM now delay most x = R}) ⟨(⟨cf, cp, cb, l, f.tm, pl, dr + 1, ev⟩, o, g ++ [f.tm]), ⟨fun q hq => hx.fr q (List.mem_cons_of_mem _ hq), fun q hq => hx.t0 q (List.mem_cons_of_mem _ hq), by rw [List.length_append]; simp; omega, by dsimp only; omega, by dsimp only; omega, by dsimp only; omega, by dsimp only; omega⟩, hR⟩ ⟨?_, by (try dsimp only); simp only [List.length_cons]; omega⟩
          (try dsimp only)
          simp (decide := true) (disch := omega) only [go_sem, ↓reduceIte, ↓put_at]
          rw [List.map_append]
          exact ⟨(List.take_of_length_le (by rw [List.length_map]; omega)).symm, rfl⟩
        · rw [plM_stop hna hm2] at hR
          subst hR
          (repeat' ((first | refine sp_ ?_ | exact ex0 | refine call_u Try.call50 (cl) [] ex1 ?_ | refine call_u Try.call51 (cd) [] ex1 ?_ | (refine ret_s [] ?_; simp (decide := true) (disch := omega) only [go_sem, ↓reduceIte, ↓put_at]))))
    | cons x y =>
      rw [hL] at cl hll
      simp only [List.length_cons] at hll
      have hna : ¬ (lackR 0 f.has = [] ∧ delay ≤ now - f.t0) := fun q => by rw [hL] at q; cases q.1
      by_cases hm2 : most ≤ now - f.t0
      · rw [plM_gone hna hm2] at hR
        (repeat' ((first | refine sp_ ?_ | exact ex0 | refine call_u Try.call50 (cl) [] ex1 ?_ | refine call_u Try.call51 (cd) [] ex1 ?_ | (refine ret_s [] ?_; simp (decide := true) (disch := omega) only [go_sem, ↓reduceIte, ↓put_at]))))
        refine next_s (α := {x : RB × List (Int × List UInt8) × List Int // PlR x ∧ plM now delay most x = R}) ⟨(⟨cf, cp, cb, l, f.tm, pl, dr + 1, ev⟩, o, g ++ [f.tm]), ⟨fun q hq => hx.fr q (List.mem_cons_of_mem _ hq), fun q hq => hx.t0 q (List.mem_cons_of_mem _ hq), by rw [List.length_append]; simp; omega, by dsimp only; omega, by dsimp only; omega, by dsimp only; omega, by dsimp only; omega⟩, hR⟩ ⟨?_, by (try dsimp only); simp only [List.length_cons]; omega⟩
        (try dsimp only)
        simp (decide := true) (disch := omega) only [go_sem, ↓reduceIte, ↓put_at]
        rw [List.map_append]
        exact ⟨(List.take_of_length_le (by rw [List.length_map]; omega)).symm, rfl⟩
      · rw [plM_stop hna hm2] at hR
        subst hR
        (repeat' ((first | refine sp_ ?_ | exact ex0 | refine call_u Try.call50 (cl) [] ex1 ?_ | refine call_u Try.call51 (cd) [] ex1 ?_ | (refine ret_s [] ?_; simp (decide := true) (disch := omega) only [go_sem, ↓reduceIte, ↓put_at]))))
end Go.Proofs.Ytekpaepkoeelfaa
