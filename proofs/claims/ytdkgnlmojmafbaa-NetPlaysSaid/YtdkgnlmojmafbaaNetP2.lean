
/- Package net: the paths of a net on which nothing is: as a contract of R. -/
import Derived.Test.YtdkgnlmojmafbaaNetP
import Derived.Test.YtdkgnlmojmafbaaNet3
namespace Go.Proofs.Ytdkgnlmojmafbaa
open Go.RowKit
set_option linter.unusedVariables false
set_option linter.unusedSimpArgs false

theorem args_stay {m : Mem} {w w' : World} {bs : List Nat} (hk : ∀ i, i < w.heap.size → w'.heap[i]? = w.heap[i]?) : ∀ {cs : List CA} {vs : List Value} {F : List Nat}, (∀ c ∈ cs, (∃ x, c = .val x) ∨ ∃ x, c = .hd x) → ArgsOk m w bs (cs.map .ca) vs F → ArgsOk m w' bs (cs.map .ca) vs F
  | [], _, _, _, h => by cases h; exact .nil
  | c :: cs, _, _, hc, h => by
    cases h with
    | cons h0 hs hd =>
      refine .cons ?_ (args_stay hk (fun c' h' => hc c' (by simp [h'])) hs) hd
      rcases hc c (by simp) with ⟨x, rfl⟩ | ⟨x, rfl⟩
      · exact h0
      · obtain ⟨h1, h2⟩ := h0
        exact ⟨h1.mono (Mem.le_refl _) fun b hb => ⟨hk b (h1.mem b hb).1, fun _ => rfl⟩, h2⟩
theorem cells_map {m : Mem} {w : World} {bs : List Nat} {x0 x1 : V} {cs : List CA} {vs : List Value} {F : List Nat} (h : ArgsOk m w bs ((([.val x0, .val x1, .hd (.mp [])] : List CA) ++ cs).map .ca) vs F) :
    ∃ r clock, vs[2]? = some (.map (some r)) ∧ w.heap[r]? = some (.map #[] clock) := by
  cases h with
  | cons h0 r0 _ =>
    cases r0 with
    | cons h1 r1 _ =>
      cases r1 with
      | cons h2 r2 _ =>
        obtain ⟨hg, _⟩ := h2
        obtain ⟨b, ents, clock, F1, rfl, k2, _, k4, _⟩ := mp_inv hg
        have he : ents = #[] := by
          apply Array.toList_inj.1
          cases hl : ents.toList with
          | nil => rfl
          | cons a l => rw [hl] at k4; simp at k4
        subst he
        exact ⟨b, clock, rfl, k2⟩
set_option maxRecDepth 100000 in
set_option maxHeartbeats 8000000 in
theorem net_paths0 (N : N28) (way : Int) (hm : N.m = []) : Spec Try.prog 29 [.ptr 0 0, .ca (.val (vi way))] [netO N] (.ca (.val (.sc (.slice none 0 0)))) [netO N] := by
  unfold netO
  rw [hm, show kvB 9 [] = [] from rfl]
  intro m w vals bs F G hh
  obtain ⟨hms, ar, ob, di⟩ := hh
  cases ar with
  | cons h0 r0 d0 =>
    cases r0 with
    | cons h1 r1 d1 =>
      cases r1
      obtain ⟨⟨b, hb, rfl⟩, rfl⟩ := h0
      obtain ⟨h1, rfl⟩ := h1
      have e1 := Rd.sc_eq h1
      subst e1
      cases ob with
      | cons o1 o2 o3 o4 o5 o6 =>
        cases o5
        rename_i b0 vs ty F0
        simp at hb
        subst hb
        obtain ⟨r, clock, k1, k2⟩ := cells_map (cs := [.val (vi N.sent), .val (vi N.lost), .val (vi N.taken), .val (vi N.twins), .val (vi N.turned), .val (vi N.forged)]) o3
        have hcell : w.cell? ⟨b0, 2, none⟩ = some (.map (some r)) := by simp [World.cell?, o1, k1]
        let Fn : Fence := { fn := fun _ => True }
        have hcall := (np_paths Fn 4 trivial trivial trivial trivial trivial trivial trivial trivial rfl (Nat.le_refl _) b0 r clock way w hcell k2).calls (fun k d hd => by cases hd)
        refine Calls.mono hcall ?_
        rintro e w' ⟨rfl, hB⟩
        have hlt : b0 < w.heap.size := (Array.getElem?_eq_some_iff.1 o1).1
        have hc : Chg Nothing w w' := (Chg.ofBelow hB).mono fun i hi h => by omega
        refine ⟨.slice none 0 0, m, [b0], [] ++ [], (b0 :: F0) ++ [], rfl, ⟨fun b i v h => ?_, .cons (F := []) (F' := []) ⟨Rd.sc _, rfl⟩ .nil (fun b hb => by simp at hb), .cons (by rw [hB.block b0 hlt]; exact o1) o2 (args_stay (fun i hi => hB.block i hi) (fun c hc => by
          simp at hc
          rcases hc with rfl | rfl | rfl | rfl | rfl | rfl | rfl | rfl | rfl
          · exact .inl ⟨_, rfl⟩
          · exact .inl ⟨_, rfl⟩
          · exact .inr ⟨_, rfl⟩
          · exact .inl ⟨_, rfl⟩
          · exact .inl ⟨_, rfl⟩
          · exact .inl ⟨_, rfl⟩
          · exact .inl ⟨_, rfl⟩
          · exact .inl ⟨_, rfl⟩
          · exact .inl ⟨_, rfl⟩) o3) o4 .nil (fun i hi => by simp), fun b hb => by simp at hb⟩, Mem.le_refl _, ?_, fun i b h => h, fun _ _ _ _ => rfl, fun b hb => .inl (by simpa using hb)⟩
        · have h1 := hms _ _ _ h
          rw [hB.cell (p := ⟨b, i, none⟩) (World.block_lt_of_cell? w _ h1)]
          exact h1
        · exact hc.mono fun i hi h => by simp [Nothing] at h
end Go.Proofs.Ytdkgnlmojmafbaa
