
/- The statement BufferRises of layer 24, in plain Lean. -/
import Derived.Test.YtekpaepkoeelfaaBufS
namespace Go.Proofs.Ytekpaepkoeelfaa
open Go.RowKit
set_option linter.unusedVariables false
set_option linter.unusedSimpArgs false

/-- Times of what is played, and dropped. -/
theorem play_times {now delay most : Int} : ∀ (l : List Fr) (h : Int), l.Pairwise (fun f g => f.tm < g.tm) → (∀ f ∈ l, h < f.tm) →
    (∀ p ∈ (playL now delay most l h).out, h < p.1 ∧ (p.1 : Int) ≤ (playL now delay most l h).hz) ∧ (∀ x ∈ (playL now delay most l h).gone, h < x ∧ (x : Int) ≤ (playL now delay most l h).hz) ∧
      (playL now delay most l h).out.Pairwise (fun p q => p.1 < q.1) ∧ ((playL now delay most l h).out.map (·.1) ++ (playL now delay most l h).gone).Nodup ∧ h ≤ (playL now delay most l h).hz
  | [], h, _, _ => by simp [playL]
  | f :: l, h, hs, hl => by
    obtain ⟨s1, s2⟩ := List.pairwise_cons.1 hs
    have hf := hl f (List.mem_cons_self ..)
    obtain ⟨q1, q2, q3, q4, q5⟩ := play_times (now := now) (delay := delay) (most := most) l f.tm s2 (fun g hg => by have := s1 g hg; omega)
    have hno : f.tm ∉ (playL now delay most l f.tm).out.map (·.1) ++ (playL now delay most l f.tm).gone := fun hm => by
      rcases List.mem_append.1 hm with hm | hm
      · obtain ⟨p, hp, he⟩ := List.mem_map.1 hm
        have := (q1 p hp).1
        omega
      · have := (q2 _ hm).1
        omega
    rw [playL]
    by_cases c1 : wholeF f = true ∧ delay ≤ now - f.t0
    · rw [if_pos c1]
      refine ⟨fun p hp => ?_, fun x hx => ?_, ?_, ?_, ?_⟩
      · dsimp only at hp ⊢
        rcases List.mem_cons.1 hp with rfl | hp
        · exact ⟨hf, q5⟩
        · have := q1 p hp
          exact ⟨by omega, this.2⟩
      · have := q2 x hx
        exact ⟨by omega, this.2⟩
      · exact List.pairwise_cons.2 ⟨fun p hp => by have := (q1 p hp).1; dsimp only; omega, q3⟩
      · dsimp only
        rw [List.map_cons, List.cons_append]
        exact List.nodup_cons.2 ⟨hno, q4⟩
      · dsimp only
        omega
    · rw [if_neg c1]
      by_cases c2 : most ≤ now - f.t0
      · rw [if_pos c2]
        refine ⟨fun p hp => ?_, fun x hx => ?_, q3, ?_, ?_⟩
        · have := q1 p hp
          exact ⟨by omega, this.2⟩
        · dsimp only at hx ⊢
          rcases List.mem_cons.1 hx with rfl | hx
          · exact ⟨hf, q5⟩
          · have := q2 x hx
            exact ⟨by omega, this.2⟩
        · dsimp only
          exact (List.perm_middle.nodup_iff).2 (List.nodup_cons.2 ⟨hno, q4⟩)
        · dsimp only
          omega
      · rw [if_neg c2]
        simp
/-- Times of what goes. -/
theorem evict_times {t : Nat} : ∀ (n : Nat) (b : Bu) (k : Int) (e : List Nat), EvK b →
    ∃ x, (evictB t n b k e).2.2 = e ++ x ∧ (∀ y ∈ x, b.hz < y ∧ (y : Int) ≤ (evictB t n b k e).1.hz) ∧ x.Nodup ∧ b.hz ≤ (evictB t n b k e).1.hz
  | 0, b, k, e, h => ⟨[], by simp [evictB], by simp, by simp, Int.le_refl _⟩
  | n + 1, b, k, e, h => by
    unfold evictB
    by_cases ho : overB b = true
    · rw [if_pos ho]
      obtain ⟨cf, cp, cb, l, hz, pl, dr, ev⟩ := b
      cases l with
      | nil => exact ⟨[], by simp, by simp, by simp, Int.le_refl _⟩
      | cons f l =>
        dsimp only
        have hf := h.fr f (List.mem_cons_self ..)
        have hfz : hz < f.tm := h.hl f (List.mem_cons_self ..)
        obtain ⟨s1, s2⟩ := List.pairwise_cons.1 h.so
        have he0 : 0 ≤ ev := h.e0
        have hk : EvK ⟨cf, cp, cb, l, f.tm, pl, dr, ev + 1⟩ := ⟨⟨h.f0, h.f1, h.p0, h.p1, h.b0, h.b1⟩, fun g hg => h.fr g (List.mem_cons_of_mem _ hg), s2, fun g hg => by
          have := s1 g hg
          dsimp only
          omega, by dsimp only; omega, by have := hf.tm; dsimp only; omega, by dsimp only; omega⟩
        obtain ⟨x, x1, x2, x3, x4⟩ := evict_times (t := t) n ⟨cf, cp, cb, l, f.tm, pl, dr, ev + 1⟩ (if f.tm = t then 6 else k) (e ++ [f.tm]) hk
        dsimp only at x2 x4
        refine ⟨f.tm :: x, by rw [x1]; simp, fun y hy => ?_, List.nodup_cons.2 ⟨fun hm => by have := (x2 _ hm).1; omega, x3⟩, by omega⟩
        rcases List.mem_cons.1 hy with rfl | hy
        · exact ⟨hfz, x4⟩
        · have := x2 y hy
          exact ⟨by omega, this.2⟩
    · rw [if_neg ho]
      exact ⟨[], by simp, by simp, by simp, Int.le_refl _⟩
theorem put_times {b : Bu} {K : Int} (h : b.Ok K) {t : Nat} {i c now : Int} {s : List UInt8} (ht : t < 4294967296) (hs : s.length ≤ 1048576) (h2 : -1099511627776 ≤ now) (h3 : now ≤ 1099511627776) :
    (∀ y ∈ (putB b t i c s now).2.2, b.hz < y ∧ (y : Int) ≤ (putB b t i c s now).1.hz) ∧ (putB b t i c s now).2.2.Nodup ∧ b.hz ≤ (putB b t i c s now).1.hz := by
  unfold putB
  by_cases hz : (t : Int) ≤ b.hz
  · rw [if_pos hz]
    simp
  · rw [if_neg hz]
    cases hb : badB i c with
    | true => rw [if_pos rfl]; simp
    | false =>
      rw [if_neg (by decide)]
      obtain ⟨p1, _⟩ := part_ok (i := i) (c := c) (s := s) h (by omega) ht hs h2 h3
      have hpf := part_fields b t i c now s
      have hph : (partB (frameB b t c now) (atF b.l t) i c s).1.hz = b.hz := by rw [hpf]
      dsimp only
      obtain ⟨x, x1, x2, x3, x4⟩ := evict_times (t := t) (partB (frameB b t c now) (atF b.l t) i c s).1.l.length (partB (frameB b t c now) (atF b.l t) i c s).1 (partB (frameB b t c now) (atF b.l t) i c s).2 [] p1
      rw [List.nil_append] at x1
      rw [hph] at x2 x4
      rw [x1]
      exact ⟨x2, x3, x4⟩
end Go.Proofs.Ytekpaepkoeelfaa
