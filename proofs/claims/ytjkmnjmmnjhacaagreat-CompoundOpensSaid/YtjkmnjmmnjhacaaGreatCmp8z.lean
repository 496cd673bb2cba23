/- Layer 12: awake; CompoundParses, CompoundBursts; walked. -/
import Derived.Test.YtjkmnjmmnjhacaaGreatCmp7z
import Derived.Test.YtjkmnjmmnjhacaaGreatQCmp07z
import Derived.Test.YtjkmnjmmnjhacaaGreatQLaw07z
namespace Go.Proofs.YtjkmnjmmnjhacaaGreat
open Go.RowKit
set_option linter.unusedVariables false
set_option linter.unusedSimpArgs false

def aw1 : Pc := (0, 201, [0, 0, 0, 1])
def aw2 : Pc := (1, 202, [0, 0, 0, 1, 1, 1, 97, 0])
theorem aw1_eq : pieceR ⟨1, false, ⟨0, 0, 0, 0⟩, []⟩ = aw1 := by decide
theorem aw2_eq : namesP [⟨1, [97]⟩] = aw2 := by decide
theorem aw1_what : whatP aw1 = 1 := by
  have := (of_piece ⟨1, false, ⟨0, 0, 0, 0⟩, []⟩ ⟨by decide, ⟨by decide, by decide, by decide⟩, by simp⟩ (by decide)).1
  rw [aw1_eq] at this
  unfold whatP
  rw [if_pos this]
theorem aw2_names : namesE aw2 = 0 ∧ rawN aw2 = [⟨1, [97]⟩] := by
  have h : rawN aw2 = [⟨1, [97]⟩] := by rfl
  refine ⟨?_, h⟩
  unfold namesE justE
  rw [h, aw2_eq]
  simp [aw2]
theorem aw2_what : whatP aw2 = 2 := by
  obtain ⟨h1, h2⟩ := aw2_names
  have h3 : ofE aw2 ≠ 0 := fun h => by have := ofE_kind h; simp [aw2] at this
  unfold whatP
  rw [if_neg h3, if_pos ⟨h1, by unfold namesR; rw [if_pos h1, h2]; simp⟩]
theorem aw_zero : cmpE [aw1, aw2] = 0 := by
  rw [cmpE_zero]
  refine ⟨⟨by simp, by decide, ?_, aw2, by simp, aw2_what⟩, ?_, by decide⟩
  · rintro i ⟨hi, h⟩
    match i, hi, h with
    | 0, hi, h =>
      simp only [List.getElem_cons_zero, aw1_what] at h
      omega
    | 1, hi, h =>
      simp only [List.getElem_cons_succ, List.getElem_cons_zero, aw2_what] at h
      omega
    | i + 2, hi, _ =>
      simp only [List.length_cons, List.length_nil] at hi
      omega
  · intro p hp
    simp only [List.mem_cons, List.not_mem_nil, or_false] at hp
    rcases hp with rfl | rfl
    · rw [aw1_what]; decide
    · rw [aw2_what]; decide
theorem aw_len : (packC [aw1, aw2]).length = 36 := by
  unfold packC
  rw [if_pos aw_zero]
  unfold sealB
  rw [List.length_append, List.length_append, fieldB_len, List.length_append]
  have : (packP [aw1, aw2]).length = 20 := by decide
  rw [this]
  rfl
theorem cmpE_nil : cmpE [] = 1 := cmpE_form fun h => h.1 rfl
set_option maxRecDepth 100000 in
set_option maxHeartbeats 8000000 in
theorem awake12 : Spec Tryz.prog 8 [] [] (.ca (.val (vb true))) [] := by
  have c1 := report_piece ⟨1, false, ⟨0, 0, 0, 0⟩, []⟩ ⟨by decide, ⟨by decide, by decide, by decide⟩, by simp⟩ (by decide)
  rw [aw1_eq] at c1
  have c2 := notes_names [⟨1, [97]⟩] (by decide) (fun x hx => by simp only [List.mem_cons, List.not_mem_nil, or_false] at hx; subst hx; exact ⟨by decide, by decide⟩)
  rw [aw2_eq] at c2
  have hp : Pcs [aw1, aw2] := ⟨by decide, fun p hp => by
    simp only [List.mem_cons, List.not_mem_nil, or_false] at hp
    rcases hp with rfl | rfl
    · decide
    · decide⟩
  have c3 := cmp_pack [aw1, aw2] hp
  have hl := aw_len
  have c4 := cmp_parse (packC [aw1, aw2]) (by omega)
  rw [(pack_parse _ aw_zero).1] at c4
  have c5 := cmp_check [] ⟨by decide, fun p hp => by simp at hp⟩
  rw [cmpE_nil] at c5
  have hcm := pp_eq 1 1 202 202 [0, 0, 0, 1, 1, 1, 97, 0] [0, 0, 0, 1, 1, 1, 97, 0]
  rw [decide_eq_true ⟨rfl, rfl, rfl⟩] at hcm
  generalize packC [aw1, aw2] = s at *
  unfold aw1 aw2 at *
  simp only [List.map_cons, List.map_nil] at c3 c4 c5
  refine spec_of Tryz.func8 rfl Tryz.ntmps8 Tryz.results8 ⟨by decide, by simp⟩ fun C hC => ?_
  (repeat' ((first | refine sp_ ?_ | exact ex0 | refine call_u Tryz.call30 (c1) [] ex1 ?_ | refine call_u Tryz.call31 (c2) [] ex1 ?_ | refine call_u Tryz.call14 (c3) [] ex1 ?_ | refine call_u Tryz.call11 (c4) [] ex1 ?_ | refine call_u Tryz.call19 (c5) [] ex1 ?_ | (refine ret_s [] ?_; simp (decide := true) (disch := omega) only [go_sem, ↓reduceIte, ↓put_at]))))
  refine gcmpA_s _ _ _ (.inl rfl) (by simp (decide := true) (disch := omega) only [go_sem, ↓reduceIte, ↓put_at]) (by simp (decide := true) (disch := omega) only [go_sem, ↓reduceIte, ↓put_at]) (by simp (decide := true) (disch := omega) only [go_sem, ↓reduceIte, ↓put_at]) (by kernel_rfl) hcm ?_
  (repeat' ((first | refine sp_ ?_ | exact ex0 | refine call_u Tryz.call19 (c5) [] ex1 ?_ | (refine ret_s [] ?_; simp (decide := true) (disch := omega) only [go_sem, ↓reduceIte, ↓put_at]))))
theorem parse_pcs (t : List UInt8) (ht : t.length ≤ 1500) : Pcs (parseC t).2 := by
  have hno : Pcs [] := ⟨by simp, fun p hp => by simp at hp⟩
  have hok := splitP_ok t ht
  unfold parseC
  split
  · exact hno
  split
  · exact hno
  split
  · exact hno
  split
  · exact hno
  split
  · exact hno
  split
  · exact hno
  · exact hok.sub (by rw [List.length_dropLast]; omega) (fun p hp => (List.dropLast_sublist _).subset hp)
theorem seal_len (r : List UInt8) (h : sealOk r ((r.length : Int) - 4) = true) : (sealS r ((r.length : Int) - 4)).length = r.length := by
  unfold sealS
  rw [if_pos h]
  unfold sealOk at h
  rw [decide_eq_true_eq] at h
  unfold sealB
  rw [List.length_append, List.length_append, fieldB_len, List.length_take, List.length_drop]
  omega
set_option maxRecDepth 100000 in
set_option maxHeartbeats 8000000 in
theorem parses12_walk (s : List UInt8) (b : Bool) (hs : s.length ≤ maxLen) : Spec Tryz.prog 3 [.ca (.val (vs s)), .ca (.val (vb b))] [] (.ca (.val (vb true))) [] := by
  have ca := awake12
  have c0 := q_cut s 400 hs (by decide)
  rw [show (400 : Int).toNat = 400 from rfl] at c0
  have hl : (s.take 400).length ≤ 400 := by rw [List.length_take]; omega
  generalize s.take 400 = r at *
  have c1 := crc_seal r ((r.length : Int) - 4) (by omega)
  have hsl := seal_len r
  generalize sealS r ((r.length : Int) - 4) = t at *
  refine spec_of Tryz.func3 rfl Tryz.ntmps3 Tryz.results3 ⟨by decide, by simp⟩ fun C hC => ?_
  (repeat' ((fail_if_success (first | refine stop_at 5 ?_ | refine stop_l 5 ?_)); (first | refine sp_ ?_ | exact ex0 | refine call_u Tryz.call8 (ca) [] ex1 ?_ | refine call_u Tryz.call9 (c0) [] ex1 ?_ | refine call_u Tryz.call10 (c1) [] ex1 ?_ | (refine ret_s [] ?_; simp (decide := true) (disch := omega) only [go_sem, ↓reduceIte, ↓put_at]))))
  refine meet_s (α := {c : Bool // c = true → t.length = r.length}) (fun c => [(.s 0, .av (.val (vs r))), (.s 5, .av (.val (vs t))), (.s 26, .av (.val (vb c.1)))]) ?_ (fun c => ?_)
  · cases hok : sealOk r ((r.length : Int) - 4) with
    | false =>
      (repeat' ((first | refine sp_ ?_ | exact ex0 | (refine ret_s [] ?_; simp (decide := true) (disch := omega) only [go_sem, ↓reduceIte, ↓put_at]))))
      refine at_meet ⟨false, fun h => by cases h⟩ ?_
      simp (decide := true) (disch := omega) only [go_sem, ↓reduceIte, ↓put_at]
    | true =>
      have ht := hsl hok
      (repeat' ((first | refine sp_ ?_ | exact ex0 | (refine ret_s [] ?_; simp (decide := true) (disch := omega) only [go_sem, ↓reduceIte, ↓put_at]))))
      refine at_meet ⟨b, fun _ => ht⟩ ?_
      simp (decide := true) (disch := omega) only [go_sem, ↓reduceIte, ↓put_at]
  obtain ⟨c, hc⟩ := c
  (try dsimp only)
  clear c1 hsl c0
  cases c with
  | false =>
    have c2 := cmp_parse r (by omega)
    have c3 := ref_parse12 r (by omega)
    have hpc := parse_pcs r (by omega)
    obtain ⟨⟨E, L⟩, hE⟩ : ∃ x, x = parseC r := ⟨_, rfl⟩
    rw [← hE] at c2 c3 hpc
    dsimp only at c2 c3 hpc
    have c4 := law_is L L (by have := hpc.len; unfold maxLen; omega) (by have := hpc.len; unfold maxLen; omega)
    rw [decide_eq_true rfl] at c4
    by_cases h0 : E = 0
    · subst h0
      obtain ⟨h1, h2⟩ := parse_pack r L hE.symm
      have c5 := cmp_pack L hpc
      rw [h1] at c5
      (repeat' ((first | refine sp_ ?_ | exact ex0 | refine call_u Tryz.call11 (c2) [] ex1 ?_ | refine call_u Tryz.call12 (c3) [] ex1 ?_ | refine call_u Tryz.call13 (c4) [] ex1 ?_ | refine call_u Tryz.call14 (c5) [] ex1 ?_ | (refine ret_s [] ?_; simp (decide := true) (disch := omega) only [go_sem, ↓reduceIte, ↓put_at]))))
    · (repeat' ((first | refine sp_ ?_ | exact ex0 | refine call_u Tryz.call11 (c2) [] ex1 ?_ | refine call_u Tryz.call12 (c3) [] ex1 ?_ | refine call_u Tryz.call13 (c4) [] ex1 ?_ | (refine ret_s [] ?_; simp (decide := true) (disch := omega) only [go_sem, ↓reduceIte, ↓put_at]))))
  | true =>
    have htl := hc rfl
    have c2 := cmp_parse t (by omega)
    have c3 := ref_parse12 t (by omega)
    have hpc := parse_pcs t (by omega)
    obtain ⟨⟨E, L⟩, hE⟩ : ∃ x, x = parseC t := ⟨_, rfl⟩
    rw [← hE] at c2 c3 hpc
    dsimp only at c2 c3 hpc
    have c4 := law_is L L (by have := hpc.len; unfold maxLen; omega) (by have := hpc.len; unfold maxLen; omega)
    rw [decide_eq_true rfl] at c4
    by_cases h0 : E = 0
    · subst h0
      obtain ⟨h1, h2⟩ := parse_pack t L hE.symm
      have c5 := cmp_pack L hpc
      rw [h1] at c5
      (repeat' ((first | refine sp_ ?_ | exact ex0 | refine call_u Tryz.call11 (c2) [] ex1 ?_ | refine call_u Tryz.call12 (c3) [] ex1 ?_ | refine call_u Tryz.call13 (c4) [] ex1 ?_ | refine call_u Tryz.call14 (c5) [] ex1 ?_ | (refine ret_s [] ?_; simp (decide := true) (disch := omega) only [go_sem, ↓reduceIte, ↓put_at]))))
    · (repeat' ((first | refine sp_ ?_ | exact ex0 | refine call_u Tryz.call11 (c2) [] ex1 ?_ | refine call_u Tryz.call12 (c3) [] ex1 ?_ | refine call_u Tryz.call13 (c4) [] ex1 ?_ | (refine ret_s [] ?_; simp (decide := true) (disch := omega) only [go_sem, ↓reduceIte, ↓put_at]))))
set_option maxRecDepth 100000 in
set_option maxHeartbeats 8000000 in
theorem bursts12_walk (l : List Pc) (at' : Int) (m : Nat) (hm : m < 4294967296) (hl : l.length ≤ maxLen) (hb : ∀ p ∈ l, p.2.2.length ≤ maxLen) : Spec Tryz.prog 4 [.ca (.val (.lst 3 (l.map pcEl))), .ca (.val (vi at')), .ca (.val (vu m))] [] (.ca (.val (vb true))) [] := by
  have ca := awake12
  have c0 := law_few12 l hl hb
  have hq := fewP_ok l
  generalize fewP l = Q at *
  have c1 := ref_check12 Q hq
  have c2 := cmp_pack Q hq
  by_cases h0 : cmpE Q = 0
  · rw [h0] at c1
    obtain ⟨p1, p2, p3, p4⟩ := pack_parse Q h0
    generalize packC Q = s at *
    have c3 := crc_turn s at' m (by omega) hm
    have htl := turnS_len s at' m
    have htold := turn_told s at' m hm p2
    have hbn := burst_nil s (turnS s at' m) htl
    generalize turnS s at' m = t at *
    have c4 := cmp_parse t (by omega)
    have c5 := ref_burst s t (by omega) (by omega)
    by_cases ht : t = s
    · have hb0 := hbn.2 ht
      subst ht
      rw [hb0] at c5
      rw [p1] at c4
      have c6 := law_is Q Q (by have := hq.len; unfold maxLen; omega) (by have := hq.len; unfold maxLen; omega)
      rw [decide_eq_true rfl] at c6
      refine spec_of Tryz.func4 rfl Tryz.ntmps4 Tryz.results4 ⟨by decide, by simp⟩ fun C hC => ?_
      (repeat' ((first | refine sp_ ?_ | exact ex0 | refine call_u Tryz.call8 (ca) [] ex1 ?_ | refine call_u Tryz.call15 (c0) [] ex1 ?_ | refine call_u Tryz.call16 (c1) [] ex1 ?_ | refine call_u Tryz.call14 (c2) [] ex1 ?_ | refine call_u Tryz.call17 (c3) [] ex1 ?_ | refine call_u Tryz.call11 (c4) [] ex1 ?_ | refine call_u Tryz.call18 (c5) [] ex1 ?_ | refine call_u Tryz.call13 (c6) [] ex1 ?_ | (refine ret_s [] ?_; simp (decide := true) (disch := omega) only [go_sem, ↓reduceIte, ↓put_at]))))
    · have hr : rem t ≠ 0 := fun h => ht (htold h)
      have hbz : burstZ s t ≠ 0 := fun h => ht (hbn.1 h)
      have hpt : parseC t = (4, []) := by
        unfold parseC
        rw [if_neg (by omega), if_pos hr]
      rw [hpt] at c4
      simp only [List.map_nil] at c4
      generalize burstZ s t = z at *
      refine spec_of Tryz.func4 rfl Tryz.ntmps4 Tryz.results4 ⟨by decide, by simp⟩ fun C hC => ?_
      (repeat' ((first | refine sp_ ?_ | exact ex0 | refine call_u Tryz.call8 (ca) [] ex1 ?_ | refine call_u Tryz.call15 (c0) [] ex1 ?_ | refine call_u Tryz.call16 (c1) [] ex1 ?_ | refine call_u Tryz.call14 (c2) [] ex1 ?_ | refine call_u Tryz.call17 (c3) [] ex1 ?_ | refine call_u Tryz.call11 (c4) [] ex1 ?_ | refine call_u Tryz.call18 (c5) [] ex1 ?_ | (refine ret_s [] ?_; simp (decide := true) (disch := omega) only [go_sem, ↓reduceIte, ↓put_at]))))
  · have e : packC Q = [] := by unfold packC; rw [if_neg h0]
    rw [e] at c2
    generalize cmpE Q = z at *
    refine spec_of Tryz.func4 rfl Tryz.ntmps4 Tryz.results4 ⟨by decide, by simp⟩ fun C hC => ?_
    (repeat' ((first | refine sp_ ?_ | exact ex0 | refine call_u Tryz.call8 (ca) [] ex1 ?_ | refine call_u Tryz.call15 (c0) [] ex1 ?_ | refine call_u Tryz.call16 (c1) [] ex1 ?_ | refine call_u Tryz.call14 (c2) [] ex1 ?_ | (refine ret_s [] ?_; simp (decide := true) (disch := omega) only [go_sem, ↓reduceIte, ↓put_at]))))
theorem bursts12_walk' (l : List Pc) (at' m : Int) (hm : 0 ≤ m ∧ m < 4294967296) (hl : l.length ≤ maxLen) (hb : ∀ p ∈ l, p.2.2.length ≤ maxLen) : Spec Tryz.prog 4 [.ca (.val (.lst 3 (l.map pcEl))), .ca (.val (vi at')), .ca (.val (vu m))] [] (.ca (.val (vb true))) [] := by
  have := bursts12_walk l at' m.toNat (by omega) hl hb
  rwa [show ((m.toNat : Nat) : Int) = m by omega] at this
end Go.Proofs.YtjkmnjmmnjhacaaGreat

