
/- Layer 24: calls keep what may be, and answer as the document, in plain Lean. -/
import Derived.Test.YtekpaepkoeelfaaBufR
namespace Go.Proofs.Ytekpaepkoeelfaa
open Go.RowKit
set_option linter.unusedVariables false
set_option linter.unusedSimpArgs false

/-- What evicting keeps. -/
structure EvK (b : Bu) : Prop extends b.Cfg where
  fr : ∀ f ∈ b.l, f.Ok
  so : b.l.Pairwise fun f g => f.tm < g.tm
  hl : ∀ f ∈ b.l, b.hz < f.tm
  h0 : -1 ≤ b.hz
  h1 : b.hz < 4294967296
  e0 : 0 ≤ b.ev
theorem evict_ok {t : Nat} : ∀ (n : Nat) (b : Bu) (k : Int) (e : List Nat), b.l.length ≤ n → EvK b →
    EvK (evictB t n b k e).1 ∧ (evictB t n b k e).1.ev ≤ b.ev + b.l.length ∧ (evictB t n b k e).1.pl = b.pl ∧ (evictB t n b k e).1.dr = b.dr ∧ (evictB t n b k e).1.cf = b.cf ∧ (evictB t n b k e).1.cp = b.cp ∧ (evictB t n b k e).1.cb = b.cb ∧
      overB (evictB t n b k e).1 = false ∧ (evictB t n b k e).2.2.length ≤ e.length + b.l.length ∧ (∀ x ∈ (evictB t n b k e).2.2, x ∈ e ∨ x < 4294967296)
  | 0, b, k, e, hn, h => by
    have hl : b.l = [] := List.eq_nil_of_length_eq_zero (by omega)
    have ho : overB b = false := by
      have g1 := h.f0
      have g2 := h.p0
      have g3 := h.b0
      unfold overB
      rw [hl]
      exact decide_eq_false (by simp [pkts, bts]; omega)
    refine ⟨h, by show b.ev ≤ _; omega, rfl, rfl, rfl, rfl, rfl, ho, by show e.length ≤ _; omega, fun x hx => .inl hx⟩
  | n + 1, b, k, e, hn, h => by
    unfold evictB
    by_cases ho : overB b = true
    · rw [if_pos ho]
      obtain ⟨cf, cp, cb, l, hz, pl, dr, ev⟩ := b
      cases l with
      | nil =>
        exfalso
        have g1 := h.f0
        have g2 := h.p0
        have g3 := h.b0
        have := of_decide_eq_true ho
        simp [pkts, bts] at this
        dsimp only at g1 g2 g3
        omega
      | cons f l =>
        dsimp only
        have hf := h.fr f (List.mem_cons_self ..)
        obtain ⟨s1, s2⟩ := List.pairwise_cons.1 h.so
        have he0 : 0 ≤ ev := h.e0
        have hk : EvK ⟨cf, cp, cb, l, f.tm, pl, dr, ev + 1⟩ := ⟨⟨h.f0, h.f1, h.p0, h.p1, h.b0, h.b1⟩, fun g hg => h.fr g (List.mem_cons_of_mem _ hg), s2, fun g hg => by
          have := s1 g hg
          dsimp only
          omega, by dsimp only; omega, by have := hf.tm; dsimp only; omega, by dsimp only; omega⟩
        obtain ⟨q1, q2, q3, q4, q5, q6, q7, q8, q9, q10⟩ := evict_ok (t := t) n ⟨cf, cp, cb, l, f.tm, pl, dr, ev + 1⟩ (if f.tm = t then 6 else k) (e ++ [f.tm]) (by simp at hn; exact hn) hk
        refine ⟨q1, ?_, q3, q4, q5, q6, q7, q8, ?_, fun x hx => ?_⟩
        · simp only [List.length_cons]
          dsimp only at q2
          omega
        · rw [List.length_append] at q9
          simp only [List.length_cons, List.length_nil] at q9 ⊢
          omega
        · rcases q10 x hx with hx | hx
          · rcases List.mem_append.1 hx with hx | hx
            · exact .inl hx
            · simp at hx
              subst hx
              exact .inr hf.tm
          · exact .inr hx
    · rw [if_neg ho]
      refine ⟨h, by dsimp only; omega, rfl, rfl, rfl, rfl, rfl, by simpa using ho, by dsimp only; omega, fun x hx => .inl hx⟩
theorem part_fields (b : Bu) (t : Nat) (i c now : Int) (s : List UInt8) :
    (partB (frameB b t c now) (atF b.l t) i c s).1 = { b with l := (partB (frameB b t c now) (atF b.l t) i c s).1.l } := by
  unfold partB frameB
  split <;> split <;> rfl
/-- Behind a part, before any goes. -/
theorem part_ok {b : Bu} {K : Int} (h : b.Ok K) {t : Nat} {i c now : Int} {s : List UInt8} (hz : b.hz < t) (ht : t < 4294967296) (hs : s.length ≤ 1048576) (h2 : -1099511627776 ≤ now) (h3 : now ≤ 1099511627776) :
    EvK (partB (frameB b t c now) (atF b.l t) i c s).1 ∧ (partB (frameB b t c now) (atF b.l t) i c s).1.l.length ≤ b.l.length + 1 := by
  obtain ⟨f, f1, f2, f3, f4, f5, f6, f7⟩ := frameB_facts (c := c) h.fr h.so ht h2 h3
  have hp : (partB (frameB b t c now) (atF b.l t) i c s).1.l = (frameB b t c now).l.set (atF b.l t) (putF f i c s).1 := by unfold partB; rw [f1]
  rw [part_fields, hp]
  refine ⟨⟨⟨h.f0, h.f1, h.p0, h.p1, h.b0, h.b1⟩, fun g hg => ?_, set_so f5 f1 (putF_tm f i c s), fun g hg => ?_, h.h0, h.h1, h.e0⟩, by rw [List.length_set]; exact f6⟩
  · rcases List.mem_or_eq_of_mem_set hg with hg | rfl
    · exact f4 g hg
    · exact putF_ok f3 i c hs
  · dsimp only
    rcases List.mem_or_eq_of_mem_set hg with hg | rfl
    · rcases f7 g hg with hg | rfl
      · exact h.hl g hg
      · show b.hz < (t : Int)
        exact hz
    · rw [putF_tm, f2]
      exact hz
theorem Bu.Ok.len {b : Bu} {K : Int} (h : b.Ok K) : b.l.length ≤ 1024 := by
  have h1 := of_decide_eq_false h.no
  have h2 := h.f1
  omega
/-- A part: what may be still may; the times that went; as the document says. -/
theorem put_ok {b : Bu} {K : Int} (h : b.Ok K) {t : Nat} {i c now : Int} {s : List UInt8} (ht : t < 4294967296) (hs : s.length ≤ 1048576) (h2 : -1099511627776 ≤ now) (h3 : now ≤ 1099511627776) :
    (putB b t i c s now).1.Ok (K + 1025) ∧ (putB b t i c s now).2.2.length ≤ 1025 ∧ (∀ x ∈ (putB b t i c s now).2.2, x < 4294967296) ∧
      putRB (docB b) t i c s now = (docB (putB b t i c s now).1, (putB b t i c s now).2.1, (putB b t i c s now).2.2.map fun n : Nat => (n : Int)) := by
  have hok : b.Ok (K + 1025) := ⟨h.toCfg, h.fr, h.so, h.hl, h.h0, h.h1, h.c0, by have := h.c1; omega, h.d0, by have := h.d1; omega, h.e0, by have := h.e1; omega, h.no⟩
  unfold putB putRB
  by_cases hz : (t : Int) ≤ b.hz
  · rw [if_pos hz, if_pos (show (t : Int) ≤ (docB b).hz from hz)]
    exact ⟨hok, by simp, by simp, rfl⟩
  · rw [if_neg hz, if_neg (show ¬ (t : Int) ≤ (docB b).hz from hz)]
    cases hb : badB i c with
    | true =>
      have hb' : c < 1 ∨ 255 < c ∨ i < 0 ∨ c ≤ i := of_decide_eq_true hb
      rw [if_pos rfl, if_pos hb']
      exact ⟨hok, by simp, by simp, rfl⟩
    | false =>
      have hb' : ¬ (c < 1 ∨ 255 < c ∨ i < 0 ∨ c ≤ i) := of_decide_eq_false hb
      rw [if_neg (by decide), if_neg hb']
      obtain ⟨p1, p2⟩ := part_ok (i := i) (c := c) (s := s) h (by omega) ht hs h2 h3
      have hr := round_doc (b := b) (t := t) (i := i) (c := c) (now := now) (s := s) h.fr h.so ht h2 h3
      have hpf := part_fields b t i c now s
      have hlen := h.len
      dsimp only
      rw [show (docB b).l = b.l.map docF from rfl, hr]
      dsimp only
      generalize partB (frameB b t c now) (atF b.l t) i c s = P at *
      obtain ⟨b2, k2⟩ := P
      dsimp only at *
      have e1 : ({ docB b with l := b2.l.map docF } : RB) = docB b2 := by
        rw [hpf]
        rfl
      have e2 : b2.pl = b.pl ∧ b2.dr = b.dr ∧ b2.ev = b.ev := by rw [hpf]; exact ⟨rfl, rfl, rfl⟩
      obtain ⟨q1, q2, q3, q4, q5, q6, q7, q8, q9, q10⟩ := evict_ok (t := t) b2.l.length b2 k2 [] (Nat.le_refl _) p1
      refine ⟨⟨q1.toCfg, q1.fr, q1.so, q1.hl, q1.h0, q1.h1, by rw [q3, e2.1]; exact h.c0, by rw [q3, e2.1]; have := h.c1; omega, by rw [q4, e2.2.1]; exact h.d0, by rw [q4, e2.2.1]; have := h.d1; omega, q1.e0, by have := h.e1; rw [e2.2.2] at q2; omega, q8⟩, by simp at q9; omega, fun x hx => by
        rcases q10 x hx with hx | hx
        · cases hx
        · exact hx, ?_⟩
      have := evict_doc (t := t) b2.l.length b2 k2 [] p1.fr
      rw [List.length_map, e1]
      exact this
theorem play_doc {now delay most : Int} : ∀ (l : List Fr) (h : Int), (∀ f ∈ l, f.Ok) →
    playLR now delay most (l.map docF) h = ⟨(playL now delay most l h).l.map docF, (playL now delay most l h).hz, (playL now delay most l h).out.map (fun p : Nat × List UInt8 => ((p.1 : Int), p.2)), (playL now delay most l h).gone.map (fun n : Nat => (n : Int))⟩
  | [], h, _ => rfl
  | f :: l, h, hf => by
    have ho := hf f (List.mem_cons_self ..)
    have ih := play_doc (now := now) (delay := delay) (most := most) l f.tm fun g hg => hf g (List.mem_cons_of_mem _ hg)
    have hw := whole_doc ho
    have hd := data_doc ho
    have ht : (docF f).tm = (f.tm : Int) := rfl
    have ht0 : (docF f).t0 = f.t0 := rfl
    rw [List.map_cons, playLR, playL, ht, ht0, ih, hd]
    by_cases h1 : wholeF f = true ∧ delay ≤ now - f.t0
    · rw [if_pos h1, if_pos ⟨hw.2 h1.1, h1.2⟩]
      rfl
    · rw [if_neg h1, if_neg (fun q => h1 ⟨hw.1 q.1, q.2⟩)]
      by_cases h2 : most ≤ now - f.t0
      · rw [if_pos h2, if_pos h2]
        rfl
      · rw [if_neg h2, if_neg h2]
        rfl
/-- What playing keeps. -/
theorem playL_ok {now delay most : Int} : ∀ (l : List Fr) (h : Int), (∀ f ∈ l, f.Ok) → l.Pairwise (fun f g => f.tm < g.tm) → (∀ f ∈ l, h < f.tm) → -1 ≤ h → h < 4294967296 →
    (∀ f ∈ (playL now delay most l h).l, f ∈ l ∧ (playL now delay most l h).hz < f.tm) ∧ (playL now delay most l h).l.Pairwise (fun f g => f.tm < g.tm) ∧ -1 ≤ (playL now delay most l h).hz ∧ (playL now delay most l h).hz < 4294967296 ∧
      (playL now delay most l h).out.length + (playL now delay most l h).gone.length + (playL now delay most l h).l.length = l.length ∧ (∀ p ∈ (playL now delay most l h).out, p.1 < 4294967296) ∧ (∀ x ∈ (playL now delay most l h).gone, x < 4294967296) ∧
      pkts (playL now delay most l h).l ≤ pkts l ∧ bts (playL now delay most l h).l ≤ bts l
  | [], h, _, _, _, h0, h1 => by simp [playL, h0, h1]
  | f :: l, h, hf, hs, hl, h0, h1 => by
    have ho := hf f (List.mem_cons_self ..)
    obtain ⟨s1, s2⟩ := List.pairwise_cons.1 hs
    have htm := ho.tm
    obtain ⟨q1, q2, q3, q4, q5, q6, q7, q8, q9⟩ := playL_ok (now := now) (delay := delay) (most := most) l f.tm (fun g hg => hf g (List.mem_cons_of_mem _ hg)) s2 (fun g hg => by have := s1 g hg; omega) (by omega) (by omega)
    rw [playL]
    by_cases c1 : wholeF f = true ∧ delay ≤ now - f.t0
    · rw [if_pos c1]
      refine ⟨fun g hg => ⟨List.mem_cons_of_mem _ (q1 g hg).1, (q1 g hg).2⟩, q2, q3, q4, by simp only [List.length_cons]; omega, fun p hp => ?_, q7, by rw [pkts]; dsimp only; omega, by rw [bts]; dsimp only; omega⟩
      rcases List.mem_cons.1 hp with rfl | hp
      · exact htm
      · exact q6 p hp
    · rw [if_neg c1]
      by_cases c2 : most ≤ now - f.t0
      · rw [if_pos c2]
        refine ⟨fun g hg => ⟨List.mem_cons_of_mem _ (q1 g hg).1, (q1 g hg).2⟩, q2, q3, q4, by simp only [List.length_cons]; omega, q6, fun p hp => ?_, by rw [pkts]; dsimp only; omega, by rw [bts]; dsimp only; omega⟩
        rcases List.mem_cons.1 hp with rfl | hp
        · exact htm
        · exact q7 p hp
      · rw [if_neg c2]
        exact ⟨fun g hg => ⟨hg, hl g hg⟩, hs, h0, h1, by simp, by simp, by simp, Nat.le_refl _, Nat.le_refl _⟩
theorem play_ok {b : Bu} {K : Int} (h : b.Ok K) (now delay most : Int) :
    (playB b now delay most).1.Ok (K + 1025) ∧ (playB b now delay most).2.1.length ≤ 1025 ∧ (playB b now delay most).2.2.length ≤ 1025 ∧ (∀ p ∈ (playB b now delay most).2.1, p.1 < 4294967296) ∧ (∀ x ∈ (playB b now delay most).2.2, x < 4294967296) ∧
      playRB (docB b) now delay most = (docB (playB b now delay most).1, (playB b now delay most).2.1.map (fun p : Nat × List UInt8 => ((p.1 : Int), p.2)), (playB b now delay most).2.2.map (fun n : Nat => (n : Int))) := by
  have hlen := h.len
  obtain ⟨q1, q2, q3, q4, q5, q6, q7, q8, q9⟩ := playL_ok (now := now) (delay := delay) (most := most) b.l b.hz h.fr h.so h.hl h.h0 h.h1
  have hd := play_doc (now := now) (delay := delay) (most := most) b.l b.hz h.fr
  have hno := of_decide_eq_false h.no
  unfold playB playRB
  dsimp only
  rw [show (docB b).l = b.l.map docF from rfl, show (docB b).hz = b.hz from rfl, hd]
  generalize playL now delay most b.l b.hz = r at *
  dsimp only
  refine ⟨⟨⟨h.f0, h.f1, h.p0, h.p1, h.b0, h.b1⟩, fun f hf => h.fr f (q1 f hf).1, q2, fun f hf => (q1 f hf).2, q3, q4, by have := h.c0; dsimp only; omega, by have := h.c1; dsimp only; omega, by have := h.d0; dsimp only; omega, by have := h.d1; dsimp only; omega, h.e0, by have := h.e1; dsimp only; omega, ?_⟩, by omega, by omega, q6, q7, ?_⟩
  · unfold overB
    exact decide_eq_false (by dsimp only; omega)
  · simp only [List.length_map]
    rfl
theorem new_docB (a b c : Int) : newRB a b c = docB (newB24 a b c) := rfl
end Go.Proofs.Ytekpaepkoeelfaa
