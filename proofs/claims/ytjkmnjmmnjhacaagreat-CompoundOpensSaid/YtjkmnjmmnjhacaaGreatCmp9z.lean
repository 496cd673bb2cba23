/- Rules: a field of a value, guarded. -/
import Derived.Test.YtjkmnjmmnjhacaaGreatRPz
import Derived.Test.YtjkmnjmmnjhacaaGreatCmp8z
namespace Go.Proofs.YtjkmnjmmnjhacaaGreat
open Go.RowKit
set_option linter.unusedVariables false
set_option linter.unusedSimpArgs false

section
variable {P : Program} {ops : Array Oper} {C : Ctx} {E : Env} {σ : St} {a : Act} {w : World} {md : Bool} {K : St → List FP → Prop} {acc : List FP} {rest : List Oper}
theorem gfld_s {j : Nat} {g : Bool} {d : Tmp} {t : TypeId} {x : Operand} {f : Nat} {ty : TypeId} {pos : String} {af : Array Edge} (ft : TypeId) (off : Nat) (T : TI) (xs : List V) (y : V) (hf : fieldAt P t f = some (ft, off)) (hT : tiOf P ft = some T)
    (hd : ((ops[j]?).bind (·.dst)).isSome = true ∧ σ (.s (gslot ops j)) = .av (.val (.sc (.bool g)))) (hx : ev σ x = .val (.agg xs)) (hy : partT T off xs = some y)
    (k : exec P ops C md K rest (put σ (.s d) (.av (.val y))) ((.s (gslot ops j) :: rdl x, [.s d]) :: acc)) : Run P ops C md K (⟨some d, .field t x f, ty, pos, af, some (j, g)⟩ :: rest) σ acc :=
  run_cons (ok_guard hd.1 hd.2 (ok_fld hf hT hx hy _ _ _ rfl trivial ops ty pos af)) (exec_run k)
end
end Go.Proofs.YtjkmnjmmnjhacaaGreat

namespace Go.Proofs.YtjkmnjmmnjhacaaGreat
open Go.RowKit
set_option linter.unusedVariables false
set_option linter.unusedSimpArgs false

abbrev bagV (B : Bag12) : List V := [.lst 7 (B.reports.map r8El), .lst 2 (B.names.map n9El), .lst 2 (B.byes.map y9El), .lst 4 (B.apps.map a9El), .lst 3 (B.nacks.map n10El), .lst 2 (B.lines.map r11El), .lst 2 (B.ads.map s11El)]
noncomputable def openB (ps : List Pc) : Bag12 := if cmpE ps = 0 then bagOf ps else noBag
set_option maxRecDepth 100000 in
set_option maxHeartbeats 16000000 in
theorem cmp_open (ps : List Pc) (h : Pcs ps) : Spec Tryz.prog 21 [.ca (.val (.lst 3 (ps.map pcEl)))] [] (.ca (.val (.agg (bagV (openB ps))))) [] := by
  have cc := cmp_check ps h
  have hb := h.max
  obtain ⟨hl, hb0⟩ := h
  unfold openB
  by_cases h0 : cmpE ps = 0
  · rw [if_pos h0]
    rw [h0] at cc
    refine spec_of Tryz.func21 rfl Tryz.ntmps21 Tryz.results21 ⟨by decide, by simp⟩ fun C hC => ?_
    (repeat' ((fail_if_success (first | refine stop_at 4 ?_ | refine stop_l 4 ?_)); (first | refine sp_ ?_ | exact ex0 | refine call_u Tryz.call19 (cc) [] ex1 ?_ | (refine ret_s [] ?_; simp (decide := true) (disch := omega) only [go_sem, ↓reduceIte, ↓put_at]))))
    refine own_c (3, 0) 0 (3, 1) 71 7 ?_
    simp (decide := true) (disch := omega) only [go_sem, ↓reduceIte, ↓put_at]
    refine own_c (3, 0) 1 (3, 2) 83 2 ?_
    simp (decide := true) (disch := omega) only [go_sem, ↓reduceIte, ↓put_at]
    refine own_c (3, 0) 2 (3, 3) 91 2 ?_
    simp (decide := true) (disch := omega) only [go_sem, ↓reduceIte, ↓put_at]
    refine own_c (3, 0) 3 (3, 4) 47 4 ?_
    simp (decide := true) (disch := omega) only [go_sem, ↓reduceIte, ↓put_at]
    refine own_c (3, 0) 4 (3, 5) 85 3 ?_
    simp (decide := true) (disch := omega) only [go_sem, ↓reduceIte, ↓put_at]
    refine own_c (3, 0) 5 (3, 6) 75 2 ?_
    simp (decide := true) (disch := omega) only [go_sem, ↓reduceIte, ↓put_at]
    refine own_c (3, 0) 6 (3, 7) 88 2 ?_
    simp (decide := true) (disch := omega) only [go_sem, ↓reduceIte, ↓put_at]
    (repeat' ((fail_if_success (refine stop_reg 5 ?_)); (first | refine sp_ ?_ | exact ex0 | (refine ret_s [] ?_; simp (decide := true) (disch := omega) only [go_sem, ↓reduceIte, ↓put_at]))))
    refine loop_s (α := {j : Nat // j ≤ ps.length}) (fun j => [(.s 0, .av (.val (.lst 3 (ps.map pcEl)))), (.s 2, .av (.ptr (2, 0) 0 0)), (.o (2, 0), .num 7), (.c (2, 0) 0, .av (.val (.sc (.slice none 0 0)))), (.c (2, 0) 1, .av (.val (.sc (.slice none 0 0)))), (.c (2, 0) 2, .av (.val (.sc (.slice none 0 0)))), (.c (2, 0) 3, .av (.val (.sc (.slice none 0 0)))), (.c (2, 0) 4, .av (.val (.sc (.slice none 0 0)))), (.c (2, 0) 5, .av (.val (.sc (.slice none 0 0)))), (.c (2, 0) 6, .av (.val (.sc (.slice none 0 0)))), (.s 3, .av (.ptr (3, 0) 0 0)), (.o (3, 0), .num 7), (.c (3, 0) 0, .av (.own (3, 1) 0 71 7 ((bagOf (ps.take j.1)).reports.map r8El))), (.k (3, 1), .row 71 7 (bagOf (ps.take j.1)).reports.length), (.c (3, 0) 1, .av (.own (3, 2) 0 83 2 ((bagOf (ps.take j.1)).names.map n9El))), (.k (3, 2), .row 83 2 (bagOf (ps.take j.1)).names.length), (.c (3, 0) 2, .av (.own (3, 3) 0 91 2 ((bagOf (ps.take j.1)).byes.map y9El))), (.k (3, 3), .row 91 2 (bagOf (ps.take j.1)).byes.length), (.c (3, 0) 3, .av (.own (3, 4) 0 47 4 ((bagOf (ps.take j.1)).apps.map a9El))), (.k (3, 4), .row 47 4 (bagOf (ps.take j.1)).apps.length), (.c (3, 0) 4, .av (.own (3, 5) 0 85 3 ((bagOf (ps.take j.1)).nacks.map n10El))), (.k (3, 5), .row 85 3 (bagOf (ps.take j.1)).nacks.length), (.c (3, 0) 5, .av (.own (3, 6) 0 75 2 ((bagOf (ps.take j.1)).lines.map r11El))), (.k (3, 6), .row 75 2 (bagOf (ps.take j.1)).lines.length), (.c (3, 0) 6, .av (.own (3, 7) 0 88 2 ((bagOf (ps.take j.1)).ads.map s11El))), (.k (3, 7), .row 88 2 (bagOf (ps.take j.1)).ads.length), (.s 10, .av (.val (.lst 3 (ps.map pcEl)))), (.s 11, .av (.val (vi ps.length))), (.s 12, .av (.val (vi j.1)))]) (fun j => ps.length - j.1) ⟨0, Nat.zero_le _⟩ ?_ (fun j => ?_)
    · (try dsimp only)
      rw [List.take_zero, bag_zero]
      unfold noBag
      simp (decide := true) (disch := omega) only [go_sem, ↓reduceIte, ↓put_at]
    · obtain ⟨j, hj⟩ := j
      dsimp only at hj ⊢
      by_cases hlt : j < ps.length
      · have hge : (ps.map pcEl).getD j [] = pcEl ps[j] := by simp [hlt]
        have c := cmp_take (bagOf (ps.take j)) ps[j] (hb _ (List.getElem_mem hlt)) (bag_few _ (by rw [List.length_take]; omega))
        have hnx := bag_next ps j hlt
        generalize tookB (bagOf (ps.take j)) ps[j] = B2 at *
        generalize bagOf (ps.take j) = B at *
        (repeat' ((first | refine sp_ ?_ | exact ex0 | refine call_u Tryz.call44 (c) [(3, 0)] ex1 ?_ | (refine ret_s [] ?_; simp (decide := true) (disch := omega) only [go_sem, ↓reduceIte, ↓put_at]))))
        refine next_s (α := {j : Nat // j ≤ ps.length}) ⟨j + 1, hlt⟩ ⟨?_, by (try dsimp only); omega⟩
        (try dsimp only)
        rw [hnx]
        simp (decide := true) (disch := omega) only [go_sem, ↓reduceIte, ↓put_at]
      · obtain rfl : j = ps.length := by omega
        simp only [List.take_length]
        (repeat' ((first | refine sp_ ?_ | exact ex0 | (refine ret_s [] ?_; simp (decide := true) (disch := omega) only [go_sem, ↓reduceIte, ↓put_at]))))
  · rw [if_neg h0]
    unfold noBag
    generalize cmpE ps = E at *
    refine spec_of Tryz.func21 rfl Tryz.ntmps21 Tryz.results21 ⟨by decide, by simp⟩ fun C hC => ?_
    (repeat' ((first | refine sp_ ?_ | exact ex0 | refine call_u Tryz.call19 (cc) [] ex1 ?_ | (refine ret_s [] ?_; simp (decide := true) (disch := omega) only [go_sem, ↓reduceIte, ↓put_at]))))
theorem openB_err (ps : List Pc) (h : cmpE ps ≠ 0) : openB ps = noBag := by unfold openB; rw [if_neg h]
/-- A word of an application. -/
def wordP (z : Int) (n : List UInt8) : Pc := (z, 204, [0, 0, 0, 9] ++ n)
theorem word_app (z : Int) (b0 b1 b2 b3 : UInt8) (hz : 0 ≤ z ∧ z ≤ 31) : appP ⟨z, 9, [b0, b1, b2, b3], []⟩ = wordP z [b0, b1, b2, b3] := by
  rw [appP_yes ⟨z, 9, [b0, b1, b2, b3], []⟩ ⟨hz.1, hz.2, rfl, rfl, by simp⟩]
  have : puts' 4 [9] = [0, 0, 0, 9] := by decide
  dsimp only
  rw [this]
  rfl
theorem word_raw (z : Int) (b0 b1 b2 b3 : UInt8) : rawA (wordP z [b0, b1, b2, b3]) = ⟨z, 9, [b0, b1, b2, b3], []⟩ := by
  rfl
theorem word_say (z : Int) (b0 b1 b2 b3 : UInt8) (hz : 0 ≤ z ∧ z ≤ 31) : sayP (wordP z [b0, b1, b2, b3]) = 4 ∧ appR (wordP z [b0, b1, b2, b3]) = ⟨z, 9, [b0, b1, b2, b3], []⟩ ∧ mayP (wordP z [b0, b1, b2, b3]) = true := by
  have hE : appE (wordP z [b0, b1, b2, b3]) = 0 := by
    unfold appE justE
    rw [word_raw, word_app z b0 b1 b2 b3 hz]
    simp [wordP]
  have hk : (wordP z [b0, b1, b2, b3]).2.1 = 204 := rfl
  refine ⟨?_, ?_, ?_⟩
  · rcases sayP_cases (wordP z [b0, b1, b2, b3]) with ⟨h, h1⟩ | ⟨h, _, h1⟩ | ⟨h, _, _, h1⟩ | ⟨h, _⟩ | ⟨h, _, _, _, h4, _⟩ | ⟨h, _, _, _, h4, _⟩ | ⟨h, _, _, _, h4, _⟩ | ⟨h, _, _, _, h4, _⟩
    · have := ofE_kind h1; omega
    · have := (just_kind h1).1; omega
    · have := (just_kind h1).1; omega
    · exact h
    · exact absurd hE h4
    · exact absurd hE h4
    · exact absurd hE h4
    · exact absurd hE h4
  · unfold appR
    rw [if_pos hE, word_raw]
  · rw [mayP_iff]
    exact ⟨hz.1, hz.2, by rw [hk]; decide, by rw [hk]; decide, by simp [wordP], by simp [wordP]⟩
theorem more_what (z : Int) (hz : 0 ≤ z ∧ z ≤ 31) : whatP (wordP z [109, 111, 114, 101]) = 4 := by
  obtain ⟨h1, h2, _⟩ := word_say z 109 111 114 101 hz
  rw [whatP_eq, if_neg (by rw [h1, h2]; simp [csum]), h1]
theorem csum_what : whatP (wordP 0 [99, 115, 117, 109]) = 0 := by
  obtain ⟨h1, h2, _⟩ := word_say 0 99 115 117 109 (by decide)
  rw [whatP_eq, if_pos (.inr ⟨h1, by rw [h2]; rfl⟩)]
theorem more_facts (p0 : Pc) (ps : List Pc) (h : cmpE (p0 :: ps) = 0) (z : Int) (hz : 0 ≤ z ∧ z ≤ 31) :
    (cmpE (p0 :: wordP z [109, 111, 114, 101] :: ps) = 0 ∨ cmpE (p0 :: wordP z [109, 111, 114, 101] :: ps) = 3) ∧ cmpE (p0 :: wordP 0 [99, 115, 117, 109] :: ps) = 5 ∧
    (cmpE (p0 :: wordP z [109, 111, 114, 101] :: ps) = 0 → (openB (p0 :: wordP z [109, 111, 114, 101] :: ps)).apps.length = (openB (p0 :: ps)).apps.length + 1) := by
  obtain ⟨hf, hw, hl⟩ := cmpE_zero.1 h
  have w4 := more_what z hz
  have w0 := csum_what
  obtain ⟨s1, s2, s3⟩ := word_say z 109 111 114 101 hz
  obtain ⟨t1, t2, t3⟩ := word_say 0 99 115 117 109 (by decide)
  have f1 := ins_form p0 (wordP z [109, 111, 114, 101]) ps s3 (by omega) hf
  have f2 := ins_form p0 (wordP 0 [99, 115, 117, 109]) ps t3 (by omega) hf
  have hn : ¬ ∃ p ∈ p0 :: wordP z [109, 111, 114, 101] :: ps, whatP p = 0 := by
    rintro ⟨p, hp, h0⟩
    rcases List.mem_cons.1 hp with rfl | hp
    · exact hw _ (by simp) h0
    rcases List.mem_cons.1 hp with rfl | hp
    · omega
    · exact hw p (by simp [hp]) h0
  refine ⟨?_, ?_, fun h2 => ?_⟩
  · unfold cmpE
    rw [if_neg (fun h => h f1), if_neg hn]
    split
    · exact .inr rfl
    · exact .inl rfl
  · unfold cmpE
    rw [if_neg (fun h => h f2), if_pos ⟨_, by simp, w0⟩]
  · unfold openB
    rw [if_pos h2, if_pos h, bag_map, bag_map]
    dsimp only
    simp only [List.flatMap_cons, List.length_append]
    have hw1 : (if sayP (wordP z [109, 111, 114, 101]) = 4 ∧ (appR (wordP z [109, 111, 114, 101])).name ≠ csum then [appR (wordP z [109, 111, 114, 101])] else []).length = 1 := by
      rw [s1, s2, if_pos ⟨rfl, by simp [csum]⟩]
      rfl
    rw [hw1]
    omega
theorem openB_few (ps : List Pc) (h : ps.length ≤ 10000) : (openB ps).Few := by
  unfold openB
  split
  · exact bag_few ps h
  · exact ⟨by simp [noBag], by simp [noBag], by simp [noBag], by simp [noBag], by simp [noBag], by simp [noBag], by simp [noBag]⟩
theorem pc_rows (ps : List Pc) : (∀ r ∈ ps.map pcEl, r.length = 3) ∧ ∀ r ∈ ps.map pcEl, ∀ y ∈ r, oneV y = true := by
  constructor
  · intro r hr
    obtain ⟨x, _, rfl⟩ := List.mem_map.1 hr
    rfl
  · intro r hr y hy
    obtain ⟨x, _, rfl⟩ := List.mem_map.1 hr
    simp only [pcEl, List.mem_cons, List.not_mem_nil, or_false] at hy
    rcases hy with rfl | rfl | rfl
    · rfl
    · rfl
    · rfl
set_option maxRecDepth 100000 in
set_option maxHeartbeats 8000000 in
theorem law_bit12 (b : Bool) : Spec Tryz.prog 22 [.ca (.val (vb b))] [] (.ca (.val (vi (if b = true then 1 else 0)))) [] := by
  cases b with
  | true =>
    refine spec_of Tryz.func22 rfl Tryz.ntmps22 Tryz.results22 ⟨by decide, by simp⟩ fun C hC => ?_
    (repeat' ((first | refine sp_ ?_ | exact ex0 | (refine ret_s [] ?_; simp (decide := true) (disch := omega) only [go_sem, ↓reduceIte, ↓put_at]))))
  | false =>
    refine spec_of Tryz.func22 rfl Tryz.ntmps22 Tryz.results22 ⟨by decide, by simp⟩ fun C hC => ?_
    (repeat' ((first | refine sp_ ?_ | exact ex0 | (refine ret_s [] ?_; simp (decide := true) (disch := omega) only [go_sem, ↓reduceIte, ↓put_at]))))
set_option maxRecDepth 100000 in
set_option maxHeartbeats 16000000 in
theorem more12_walk (l : List Pc) (sub : Int) (hs : -9223372036854775808 ≤ sub ∧ sub ≤ 9223372036854775807) (hl : l.length ≤ maxLen) (hb : ∀ p ∈ l, p.2.2.length ≤ maxLen) : Spec Tryz.prog 5 [.ca (.val (.lst 3 (l.map pcEl))), .ca (.val (vi sub))] [] (.ca (.val (vb true))) [] := by
  have ca := awake12
  have c0 := law_few12 l hl hb
  have hq := fewP_ok l
  have hq8 : (fewP l).length ≤ 8 := by unfold fewP; rw [List.length_map, List.length_take]; omega
  generalize fewP l = Q at *
  have c1 := ref_check12 Q hq
  have c2 := cmp_check Q hq
  by_cases h0 : cmpE Q = 0
  · rw [h0] at c1 c2
    obtain ⟨p0, ps, rfl⟩ : ∃ p0 ps, Q = p0 :: ps := List.exists_cons_of_ne_nil (cmpE_zero.1 h0).1.1
    obtain ⟨m1, m2, m3⟩ := more_facts p0 ps h0 (sub % 32) ⟨by omega, by omega⟩
    have hb0 := hq.body p0 (by simp)
    have hlen := hq.len
    simp only [List.length_cons] at hlen
    have hp1 : ∀ q : Pc, q.2.2.length ≤ 100 → ps.length + 2 ≤ 10000 → Pcs (p0 :: q :: ps) := fun q h1 h2 => ⟨by simp only [List.length_cons]; omega, fun p hp => by
      rcases List.mem_cons.1 hp with rfl | hp
      · exact hb0
      rcases List.mem_cons.1 hp with rfl | hp
      · omega
      · exact hq.body p (by simp [hp])⟩
    have hps : ps.length + 2 ≤ 10000 := by
      have : (p0 :: ps).length ≤ 8 := hq8
      simp only [List.length_cons] at this
      omega
    have c3 := notes_app ⟨sub % 32, 9, [109, 111, 114, 101], []⟩ ⟨by show (0 : Int) ≤ 9 ∧ (9 : Int) < 4294967296; decide, by show (4 : Nat) ≤ maxLen; decide, by show (0 : Nat) ≤ maxLen; decide⟩
    rw [word_app (sub % 32) 109 111 114 101 ⟨by omega, by omega⟩] at c3
    have c5 := notes_app ⟨0, 9, [99, 115, 117, 109], []⟩ ⟨by decide, by decide, by decide⟩
    rw [word_app 0 99 115 117 109 (by decide)] at c5
    have c4 := cmp_check (p0 :: wordP (sub % 32) [109, 111, 114, 101] :: ps) (hp1 _ (by show (8 : Nat) ≤ 100; decide) hps)
    have c9 := cmp_check (p0 :: wordP 0 [99, 115, 117, 109] :: ps) (hp1 _ (by show (8 : Nat) ≤ 100; decide) hps)
    rw [m2] at c9
    have c6 := cmp_open (p0 :: wordP (sub % 32) [109, 111, 114, 101] :: ps) (hp1 _ (by show (8 : Nat) ≤ 100; decide) hps)
    have c7 := cmp_open (p0 :: ps) hq
    have f7 := (openB_few (p0 :: ps) (by simp only [List.length_cons]; omega)).apps
    have hB1 : cmpE (p0 :: wordP (sub % 32) [109, 111, 114, 101] :: ps) ≠ 0 → (openB (p0 :: wordP (sub % 32) [109, 111, 114, 101] :: ps)).apps.length = 0 := fun h => by rw [openB_err _ h]; rfl
    generalize openB (p0 :: wordP (sub % 32) [109, 111, 114, 101] :: ps) = B1 at *
    generalize openB (p0 :: ps) = B2 at *
    generalize cmpE (p0 :: wordP (sub % 32) [109, 111, 114, 101] :: ps) = e at *
    unfold wordP at c3 c4 c5 c6 c9
    simp only [List.map_cons, List.cons_append, List.nil_append] at c0 c1 c3 c4 c5 c6 c7 c9
    clear c2 hp1
    have htk : (ps.map pcEl).take (((ps.length : Int) + 1).toNat - 1) = ps.map pcEl := by
      have : ((ps.length : Int) + 1).toNat - 1 = ps.length := by omega
      rw [this]
      exact List.take_of_length_le (by rw [List.length_map]; omega)
    have hml : (ps.map pcEl).length = ps.length := List.length_map ..
    obtain ⟨r1, r2⟩ := pc_rows ps
    generalize ps.map pcEl = M at *
    rw [← hml] at htk
    rcases m1 with rfl | rfl
    · have hA := m3 rfl
      have c8 := law_bit12 true
      rw [if_pos rfl] at c8
      refine spec_of Tryz.func5 rfl Tryz.ntmps5 Tryz.results5 ⟨by decide, by simp⟩ fun C hC => ?_
      (repeat' ((first | refine sp_ ?_ | exact ex0 | refine call_u Tryz.call8 (ca) [] ex1 ?_ | refine call_u Tryz.call15 (c0) [] ex1 ?_ | refine call_u Tryz.call16 (c1) [] ex1 ?_ | refine call_u Tryz.call20 (c3) [] ex1 ?_ | refine call_u Tryz.call19 (c4) [] ex1 ?_ | refine call_u Tryz.call20 (c5) [] ex1 ?_ | refine call_u Tryz.call21 (c6) [] ex1 ?_ | refine call_u Tryz.call21 (c7) [] ex1 ?_ | refine call_u Tryz.call22 (c8) [] ex1 ?_ | refine call_u Tryz.call19 (c9) [] ex1 ?_ | (refine ret_s [] ?_; simp (decide := true) (disch := omega) only [go_sem, ↓reduceIte, ↓put_at]))))
      simp only [htk]
      refine ⟨⟨by omega, by omega, r1, r2⟩, ?_⟩
      (repeat' ((first | refine sp_ ?_ | exact ex0 | refine call_u Tryz.call8 (ca) [] ex1 ?_ | refine call_u Tryz.call15 (c0) [] ex1 ?_ | refine call_u Tryz.call16 (c1) [] ex1 ?_ | refine call_u Tryz.call20 (c3) [] ex1 ?_ | refine call_u Tryz.call19 (c4) [] ex1 ?_ | refine call_u Tryz.call20 (c5) [] ex1 ?_ | refine call_u Tryz.call21 (c6) [] ex1 ?_ | refine call_u Tryz.call21 (c7) [] ex1 ?_ | refine call_u Tryz.call22 (c8) [] ex1 ?_ | refine call_u Tryz.call19 (c9) [] ex1 ?_ | (refine ret_s [] ?_; simp (decide := true) (disch := omega) only [go_sem, ↓reduceIte, ↓put_at]))))
      simp only [htk]
      refine ⟨⟨by omega, by omega, r1, r2⟩, ?_⟩
      (repeat' ((first | refine sp_ ?_ | exact ex0 | refine call_u Tryz.call8 (ca) [] ex1 ?_ | refine call_u Tryz.call15 (c0) [] ex1 ?_ | refine call_u Tryz.call16 (c1) [] ex1 ?_ | refine call_u Tryz.call20 (c3) [] ex1 ?_ | refine call_u Tryz.call19 (c4) [] ex1 ?_ | refine call_u Tryz.call20 (c5) [] ex1 ?_ | refine call_u Tryz.call21 (c6) [] ex1 ?_ | refine call_u Tryz.call21 (c7) [] ex1 ?_ | refine call_u Tryz.call22 (c8) [] ex1 ?_ | refine call_u Tryz.call19 (c9) [] ex1 ?_ | (refine ret_s [] ?_; simp (decide := true) (disch := omega) only [go_sem, ↓reduceIte, ↓put_at]))))
      refine gfld_s 52 3 _ (bagV B1) (.lst 4 (B1.apps.map a9El)) (by kernel_rfl) ti52 (by simp (decide := true) (disch := omega) only [go_sem, ↓reduceIte, ↓put_at]) (by simp (decide := true) (disch := omega) only [go_sem, ↓reduceIte, ↓put_at]) rfl ?_
      (repeat' ((first | refine sp_ ?_ | exact ex0 | refine call_u Tryz.call8 (ca) [] ex1 ?_ | refine call_u Tryz.call15 (c0) [] ex1 ?_ | refine call_u Tryz.call16 (c1) [] ex1 ?_ | refine call_u Tryz.call20 (c3) [] ex1 ?_ | refine call_u Tryz.call19 (c4) [] ex1 ?_ | refine call_u Tryz.call20 (c5) [] ex1 ?_ | refine call_u Tryz.call21 (c6) [] ex1 ?_ | refine call_u Tryz.call21 (c7) [] ex1 ?_ | refine call_u Tryz.call22 (c8) [] ex1 ?_ | refine call_u Tryz.call19 (c9) [] ex1 ?_ | (refine ret_s [] ?_; simp (decide := true) (disch := omega) only [go_sem, ↓reduceIte, ↓put_at]))))
      refine gfld_s 52 3 _ (bagV B2) (.lst 4 (B2.apps.map a9El)) (by kernel_rfl) ti52 (by simp (decide := true) (disch := omega) only [go_sem, ↓reduceIte, ↓put_at]) (by simp (decide := true) (disch := omega) only [go_sem, ↓reduceIte, ↓put_at]) rfl ?_
      (repeat' ((first | refine sp_ ?_ | exact ex0 | refine call_u Tryz.call8 (ca) [] ex1 ?_ | refine call_u Tryz.call15 (c0) [] ex1 ?_ | refine call_u Tryz.call16 (c1) [] ex1 ?_ | refine call_u Tryz.call20 (c3) [] ex1 ?_ | refine call_u Tryz.call19 (c4) [] ex1 ?_ | refine call_u Tryz.call20 (c5) [] ex1 ?_ | refine call_u Tryz.call21 (c6) [] ex1 ?_ | refine call_u Tryz.call21 (c7) [] ex1 ?_ | refine call_u Tryz.call22 (c8) [] ex1 ?_ | refine call_u Tryz.call19 (c9) [] ex1 ?_ | (refine ret_s [] ?_; simp (decide := true) (disch := omega) only [go_sem, ↓reduceIte, ↓put_at]))))
    · have hA := hB1 (by decide)
      have c8 := law_bit12 false
      rw [if_neg (by decide)] at c8
      refine spec_of Tryz.func5 rfl Tryz.ntmps5 Tryz.results5 ⟨by decide, by simp⟩ fun C hC => ?_
      (repeat' ((first | refine sp_ ?_ | exact ex0 | refine call_u Tryz.call8 (ca) [] ex1 ?_ | refine call_u Tryz.call15 (c0) [] ex1 ?_ | refine call_u Tryz.call16 (c1) [] ex1 ?_ | refine call_u Tryz.call20 (c3) [] ex1 ?_ | refine call_u Tryz.call19 (c4) [] ex1 ?_ | refine call_u Tryz.call20 (c5) [] ex1 ?_ | refine call_u Tryz.call21 (c6) [] ex1 ?_ | refine call_u Tryz.call21 (c7) [] ex1 ?_ | refine call_u Tryz.call22 (c8) [] ex1 ?_ | refine call_u Tryz.call19 (c9) [] ex1 ?_ | (refine ret_s [] ?_; simp (decide := true) (disch := omega) only [go_sem, ↓reduceIte, ↓put_at]))))
      simp only [htk]
      refine ⟨⟨by omega, by omega, r1, r2⟩, ?_⟩
      (repeat' ((first | refine sp_ ?_ | exact ex0 | refine call_u Tryz.call8 (ca) [] ex1 ?_ | refine call_u Tryz.call15 (c0) [] ex1 ?_ | refine call_u Tryz.call16 (c1) [] ex1 ?_ | refine call_u Tryz.call20 (c3) [] ex1 ?_ | refine call_u Tryz.call19 (c4) [] ex1 ?_ | refine call_u Tryz.call20 (c5) [] ex1 ?_ | refine call_u Tryz.call21 (c6) [] ex1 ?_ | refine call_u Tryz.call21 (c7) [] ex1 ?_ | refine call_u Tryz.call22 (c8) [] ex1 ?_ | refine call_u Tryz.call19 (c9) [] ex1 ?_ | (refine ret_s [] ?_; simp (decide := true) (disch := omega) only [go_sem, ↓reduceIte, ↓put_at]))))
      simp only [htk]
      refine ⟨⟨by omega, by omega, r1, r2⟩, ?_⟩
      (repeat' ((first | refine sp_ ?_ | exact ex0 | refine call_u Tryz.call8 (ca) [] ex1 ?_ | refine call_u Tryz.call15 (c0) [] ex1 ?_ | refine call_u Tryz.call16 (c1) [] ex1 ?_ | refine call_u Tryz.call20 (c3) [] ex1 ?_ | refine call_u Tryz.call19 (c4) [] ex1 ?_ | refine call_u Tryz.call20 (c5) [] ex1 ?_ | refine call_u Tryz.call21 (c6) [] ex1 ?_ | refine call_u Tryz.call21 (c7) [] ex1 ?_ | refine call_u Tryz.call22 (c8) [] ex1 ?_ | refine call_u Tryz.call19 (c9) [] ex1 ?_ | (refine ret_s [] ?_; simp (decide := true) (disch := omega) only [go_sem, ↓reduceIte, ↓put_at]))))
      refine gfld_s 52 3 _ (bagV B1) (.lst 4 (B1.apps.map a9El)) (by kernel_rfl) ti52 (by simp (decide := true) (disch := omega) only [go_sem, ↓reduceIte, ↓put_at]) (by simp (decide := true) (disch := omega) only [go_sem, ↓reduceIte, ↓put_at]) rfl ?_
      (repeat' ((first | refine sp_ ?_ | exact ex0 | refine call_u Tryz.call8 (ca) [] ex1 ?_ | refine call_u Tryz.call15 (c0) [] ex1 ?_ | refine call_u Tryz.call16 (c1) [] ex1 ?_ | refine call_u Tryz.call20 (c3) [] ex1 ?_ | refine call_u Tryz.call19 (c4) [] ex1 ?_ | refine call_u Tryz.call20 (c5) [] ex1 ?_ | refine call_u Tryz.call21 (c6) [] ex1 ?_ | refine call_u Tryz.call21 (c7) [] ex1 ?_ | refine call_u Tryz.call22 (c8) [] ex1 ?_ | refine call_u Tryz.call19 (c9) [] ex1 ?_ | (refine ret_s [] ?_; simp (decide := true) (disch := omega) only [go_sem, ↓reduceIte, ↓put_at]))))
      refine gfld_s 52 3 _ (bagV B2) (.lst 4 (B2.apps.map a9El)) (by kernel_rfl) ti52 (by simp (decide := true) (disch := omega) only [go_sem, ↓reduceIte, ↓put_at]) (by simp (decide := true) (disch := omega) only [go_sem, ↓reduceIte, ↓put_at]) rfl ?_
      (repeat' ((first | refine sp_ ?_ | exact ex0 | refine call_u Tryz.call8 (ca) [] ex1 ?_ | refine call_u Tryz.call15 (c0) [] ex1 ?_ | refine call_u Tryz.call16 (c1) [] ex1 ?_ | refine call_u Tryz.call20 (c3) [] ex1 ?_ | refine call_u Tryz.call19 (c4) [] ex1 ?_ | refine call_u Tryz.call20 (c5) [] ex1 ?_ | refine call_u Tryz.call21 (c6) [] ex1 ?_ | refine call_u Tryz.call21 (c7) [] ex1 ?_ | refine call_u Tryz.call22 (c8) [] ex1 ?_ | refine call_u Tryz.call19 (c9) [] ex1 ?_ | (refine ret_s [] ?_; simp (decide := true) (disch := omega) only [go_sem, ↓reduceIte, ↓put_at]))))
  · generalize cmpE Q = z at *
    refine spec_of Tryz.func5 rfl Tryz.ntmps5 Tryz.results5 ⟨by decide, by simp⟩ fun C hC => ?_
    (repeat' ((first | refine sp_ ?_ | exact ex0 | refine call_u Tryz.call8 (ca) [] ex1 ?_ | refine call_u Tryz.call15 (c0) [] ex1 ?_ | refine call_u Tryz.call16 (c1) [] ex1 ?_ | refine call_u Tryz.call19 (c2) [] ex1 ?_ | (refine ret_s [] ?_; simp (decide := true) (disch := omega) only [go_sem, ↓reduceIte, ↓put_at]))))
end Go.Proofs.YtjkmnjmmnjhacaaGreat

