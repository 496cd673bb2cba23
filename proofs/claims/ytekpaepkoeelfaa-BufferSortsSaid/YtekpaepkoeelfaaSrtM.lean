
/- The statement BufferSorts of layer 24, in plain Lean. -/
import Derived.Test.YtekpaepkoeelfaaBufS
namespace Go.Proofs.Ytekpaepkoeelfaa
open Go.RowKit
set_option linter.unusedVariables false
set_option linter.unusedSimpArgs false

theorem mem_isF {l : List Fr} {t : Nat} (hs : l.Pairwise fun f g => f.tm < g.tm) {f : Fr} (hf : f ∈ l) (ht : f.tm = t) : isF l t = true ∧ l[atF l t]? = some f := by
  obtain ⟨k, hk, rfl⟩ := List.getElem_of_mem hf
  have h1 : atF l t ≤ k := by
    rcases Nat.lt_or_ge k (atF l t) with h | h
    · have := atF_lt k hk h
      omega
    · exact h
  have h2 : atF l t = k := by
    rcases Nat.lt_or_ge (atF l t) k with h | h
    · have h3 := atF_ge hs (atF l t) (by omega) (Nat.le_refl _)
      have h4 := List.pairwise_iff_getElem.1 hs (atF l t) k (by omega) hk h
      omega
    · omega
  have h3 : l[atF l t]? = some l[k] := by rw [h2]; exact List.getElem?_eq_getElem hk
  refine ⟨?_, h3⟩
  unfold isF
  rw [h3]
  exact decide_eq_true ht
theorem isF_mem {l : List Fr} {t : Nat} (h : isF l t = true) : ∃ f ∈ l, f.tm = t := by
  obtain ⟨f, h1, h2⟩ := isF_some h
  exact ⟨f, List.mem_of_getElem? h1, h2⟩
/-- A frame of one part, of one byte. -/
def sfr (now : Int) (t : Nat) : Fr := ⟨t, 1, now, [(0, [UInt8.ofNat t])]⟩
/-- Behind some times. -/
structure SrtI (now : Int) (l : List Fr) (s : List Nat) : Prop where
  fr : ∀ f ∈ l, f = sfr now f.tm ∧ f.tm < 4294967296
  so : l.Pairwise fun f g => f.tm < g.tm
  ln : l.length = s.length
  mm : ∀ t, (∃ f ∈ l, f.tm = t) ↔ t ∈ s
  nd : s.Nodup
def srtB (l : List Fr) : Bu := ⟨100, 100, 1000, l, -1, 0, 0, 0⟩
theorem sfr_ok {now : Int} {t : Nat} (ht : t < 4294967296) (h0 : 0 ≤ now) (h1 : now ≤ 1000000) : (sfr now t).Ok :=
  ⟨ht, by simp [sfr], by simp [sfr], by show -1099511627776 ≤ now; omega, by show now ≤ 1099511627776; omega, by simp [sfr], by simp [sfr], by simp [sfr]⟩
theorem srt_sizes {now : Int} : ∀ {l : List Fr}, (∀ f ∈ l, f = sfr now f.tm) → pkts l = l.length ∧ bts l = l.length
  | [], _ => ⟨rfl, rfl⟩
  | f :: l, h => by
    obtain ⟨h1, h2⟩ := srt_sizes fun g hg => h g (List.mem_cons_of_mem _ hg)
    have hf := h f (List.mem_cons_self ..)
    have e1 : f.ps.length = 1 := by rw [hf]; rfl
    have e2 : sumP f.ps = 1 := by rw [hf]; rfl
    rw [pkts, bts, h1, h2, e1, e2, List.length_cons]
    omega
theorem srt_over {now : Int} {l : List Fr} (h : ∀ f ∈ l, f = sfr now f.tm) (hl : l.length ≤ 100) : overB (srtB l) = false := by
  obtain ⟨h1, h2⟩ := srt_sizes h
  unfold overB srtB
  dsimp only
  rw [h1, h2]
  exact decide_eq_false (by omega)
theorem srt_ok {now : Int} {l : List Fr} {s : List Nat} (h : SrtI now l s) (hs : s.length ≤ 100) (h0 : 0 ≤ now) (h1 : now ≤ 1000000) : (srtB l).Ok 0 := by
  have hl := h.ln
  refine ⟨⟨by simp [srtB], by simp [srtB], by simp [srtB], by simp [srtB], by simp [srtB], by simp [srtB]⟩, fun f hf => ?_, h.so, fun f hf => by show (-1 : Int) < f.tm; omega, by simp [srtB], by simp [srtB], by simp [srtB], by simp [srtB], by simp [srtB], by simp [srtB], by simp [srtB], by simp [srtB], srt_over (fun f hf => (h.fr f hf).1) (by omega)⟩
  rw [(h.fr f hf).1]
  exact sfr_ok (h.fr f hf).2 h0 h1
theorem srt_put_in {now : Int} {l : List Fr} {s : List Nat} (h : SrtI now l s) (hs : s.length ≤ 40) {t : Nat} (ht : t ∈ s) : putB (srtB l) t 0 1 [UInt8.ofNat t] now = (srtB l, 3, []) := by
  obtain ⟨f, hf, hft⟩ := (h.mm t).2 ht
  obtain ⟨h1, h2⟩ := mem_isF h.so hf hft
  have hl := h.ln
  have hp : putF f 0 1 [UInt8.ofNat t] = (f, 3) := by
    rw [(h.fr f hf).1]
    rfl
  unfold putB
  rw [if_neg (by show ¬ (t : Int) ≤ -1; omega), show badB 0 1 = false from rfl, if_neg (by decide)]
  have hfr : frameB (srtB l) t 1 now = srtB l := by unfold frameB; rw [if_pos (show isF (srtB l).l t = true from h1)]
  rw [hfr]
  have hpt : partB (srtB l) (atF (srtB l).l t) 0 1 [UInt8.ofNat t] = (srtB l, 3) := by
    unfold partB
    rw [show (srtB l).l = l from rfl, h2]
    dsimp only
    rw [hp]
    refine Prod.ext ?_ rfl
    show Bu.mk _ _ _ _ _ _ _ _ = Bu.mk _ _ _ _ _ _ _ _
    congr 1
    obtain ⟨hi, he⟩ := List.getElem?_eq_some_iff.1 h2
    rw [← he, List.set_getElem_self]
  rw [hpt]
  dsimp only
  generalize (srtB l).l.length = n
  cases n with
  | zero => rfl
  | succ n =>
    unfold evictB
    rw [if_neg (by rw [srt_over (fun f hf => (h.fr f hf).1) (by omega)]; decide)]
theorem srt_put_new {now : Int} {l : List Fr} {s : List Nat} (h : SrtI now l s) (hs : s.length ≤ 40) {t : Nat} (ht : t ∉ s) (h32 : t < 4294967296) :
    putB (srtB l) t 0 1 [UInt8.ofNat t] now = (srtB (l.take (atF l t) ++ sfr now t :: l.drop (atF l t)), 2, []) ∧ SrtI now (l.take (atF l t) ++ sfr now t :: l.drop (atF l t)) (s ++ [t]) := by
  have hn : isF l t = false := by
    cases hi : isF l t with
    | false => rfl
    | true => exact absurd ((h.mm t).1 (isF_mem hi)) ht
  have hle := atF_le l t
  have hl := h.ln
  have hm : ∀ f ∈ l.take (atF l t) ++ sfr now t :: l.drop (atF l t), f ∈ l ∨ f = sfr now t := fun f hf' => by
    rcases List.mem_append.1 hf' with h | h
    · exact .inl (List.mem_of_mem_take h)
    · rcases List.mem_cons.1 h with rfl | h
      · exact .inr rfl
      · exact .inl (List.mem_of_mem_drop h)
  have hin : ∀ f ∈ l, f ∈ l.take (atF l t) ++ sfr now t :: l.drop (atF l t) := fun f hf => by
    rw [← List.take_append_drop (atF l t) l] at hf
    rcases List.mem_append.1 hf with h | h
    · exact List.mem_append_left _ h
    · exact List.mem_append_right _ (List.mem_cons_of_mem _ h)
  have hfr2 : ∀ f ∈ l.take (atF l t) ++ sfr now t :: l.drop (atF l t), f = sfr now f.tm ∧ f.tm < 4294967296 := fun f hf => by
    rcases hm f hf with h1 | rfl
    · exact h.fr f h1
    · exact ⟨rfl, h32⟩
  have hlen : (l.take (atF l t) ++ sfr now t :: l.drop (atF l t)).length = l.length + 1 := mid_len _ _ _
  refine ⟨?_, hfr2, mid_so h.so hn _ rfl, by rw [hlen, List.length_append, hl]; rfl, fun u => ?_, List.nodup_append.2 ⟨h.nd, by simp, fun a ha b hb => by simp at hb; subst hb; exact fun e => ht (e ▸ ha)⟩⟩
  · unfold putB
    rw [if_neg (by show ¬ (t : Int) ≤ -1; omega), show badB 0 1 = false from rfl, if_neg (by decide)]
    have hfr : frameB (srtB l) t 1 now = srtB (l.take (atF l t) ++ newF t 1 now :: l.drop (atF l t)) := by unfold frameB; rw [if_neg (by rw [show (srtB l).l = l from rfl, hn]; decide)]; rfl
    rw [hfr]
    have hpt : partB (srtB (l.take (atF l t) ++ newF t 1 now :: l.drop (atF l t))) (atF (srtB l).l t) 0 1 [UInt8.ofNat t] = (srtB (l.take (atF l t) ++ sfr now t :: l.drop (atF l t)), 2) := by
      unfold partB
      rw [show (srtB l).l = l from rfl, show (srtB (l.take (atF l t) ++ newF t 1 now :: l.drop (atF l t))).l = l.take (atF l t) ++ newF t 1 now :: l.drop (atF l t) from rfl, mid_at _ _ _ hle]
      have hp : putF (newF t 1 now) 0 1 [UInt8.ofNat t] = (sfr now t, 2) := rfl
      dsimp only
      rw [hp]
      refine Prod.ext ?_ rfl
      show Bu.mk _ _ _ _ _ _ _ _ = Bu.mk _ _ _ _ _ _ _ _
      congr 1
      have hl1 : (l.take (atF l t)).length = atF l t := by rw [List.length_take]; omega
      rw [List.set_append_right _ _ (by omega), hl1, Nat.sub_self]
      rfl
    rw [hpt]
    dsimp only
    generalize (srtB (l.take (atF l t) ++ sfr now t :: l.drop (atF l t))).l.length = n
    cases n with
    | zero => rfl
    | succ n =>
      unfold evictB
      rw [if_neg (by rw [srt_over (fun f hf => (hfr2 f hf).1) (by omega)]; decide)]
  · rw [List.mem_append, List.mem_singleton, ← h.mm u]
    constructor
    · rintro ⟨f, hf, rfl⟩
      rcases hm f hf with h1 | rfl
      · exact .inl ⟨f, h1, rfl⟩
      · exact .inr rfl
    · rintro (⟨f, hf, rfl⟩ | rfl)
      · exact ⟨f, hin f hf, rfl⟩
      · exact ⟨sfr now u, by simp, rfl⟩
/-- Too early: nothing is played. -/
theorem srt_early {now : Int} {l : List Fr} {s : List Nat} (h : SrtI now l s) : playB (srtB l) (now + 4) 5 9 = (srtB l, [], []) := by
  have hp : playL (now + 4) 5 9 l (-1) = ⟨l, -1, [], []⟩ := by
    cases l with
    | nil => rfl
    | cons f l =>
      have hf : f.t0 = now := by rw [(h.fr f (List.mem_cons_self ..)).1]; rfl
      rw [playL, if_neg (fun q => by have := q.2; omega), if_neg (by omega)]
  unfold playB
  rw [show (srtB l).l = l from rfl, show (srtB l).hz = -1 from rfl, hp]
  rfl
/-- Then all is. -/
theorem srt_all {now : Int} : ∀ {l : List Fr} {hz : Int}, (∀ f ∈ l, f = sfr now f.tm) → ∃ h', playL (now + 5) 5 9 l hz = ⟨[], h', l.map fun f => (f.tm, [UInt8.ofNat f.tm]), []⟩
  | [], hz, _ => ⟨hz, rfl⟩
  | f :: l, hz, h => by
    have hf := h f (List.mem_cons_self ..)
    have hf0 : f.t0 = now := by rw [hf]; rfl
    have hfw : wholeF f = true := by rw [hf]; rfl
    have hfd : dataF f = [UInt8.ofNat f.tm] := by rw [hf]; rfl
    obtain ⟨h', e⟩ := srt_all (l := l) (hz := f.tm) fun g hg => h g (List.mem_cons_of_mem _ hg)
    refine ⟨h', ?_⟩
    rw [playL, if_pos ⟨hfw, by omega⟩, e, hfd]
    rfl
theorem srt_late {now : Int} {l : List Fr} {s : List Nat} (h : SrtI now l s) : ∃ b', playB (srtB l) (now + 5) 5 9 = (b', l.map (fun f => (f.tm, [UInt8.ofNat f.tm])), []) ∧ b'.l = [] := by
  obtain ⟨h', e⟩ := srt_all (l := l) (hz := -1) fun f hf => (h.fr f hf).1
  have hp : playB (srtB l) (now + 5) 5 9 = (⟨100, 100, 1000, [], h', 0 + ((l.map fun f => (f.tm, [UInt8.ofNat f.tm])).length : Nat), 0 + (([] : List Nat).length : Nat), 0⟩, l.map (fun f => (f.tm, [UInt8.ofNat f.tm])), []) := by
    unfold playB
    rw [show (srtB l).l = l from rfl, show (srtB l).hz = -1 from rfl, e]
    rfl
  exact ⟨_, hp, rfl⟩
end Go.Proofs.Ytekpaepkoeelfaa
