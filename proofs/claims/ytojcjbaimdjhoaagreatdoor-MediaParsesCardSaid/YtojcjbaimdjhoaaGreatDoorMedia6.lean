
/- Layer 6: the document's Parse, walked; MediaParses. MediaParses, walked. -/
import Derived.Test.YtojcjbaimdjhoaaGreatDoorMedia3
import Derived.Test.YtojcjbaimdjhoaaGreatDoorCrc2
namespace Go.Proofs.YtojcjbaimdjhoaaGreatDoor
open Go.RowKit
set_option linter.unusedVariables false
set_option linter.unusedSimpArgs false

def is6 (m : M6) (s : List UInt8) : Bool := decide (may6 m = true ∧ s.length = m.data.length + 28 ∧ rem s = 0 ∧ plain6 m ((s.drop 24).take 4) = s)
def fld6 (p : P4) (a b : List UInt8) : M6 := ⟨p.src, p.seq, p.time, getN (a.take 1), getN (a.drop 1), getN (b.take 1), getN (b.drop 1), p.data⟩
def three6 (l : List E5) : Option (List UInt8 × List UInt8) :=
  match l with
  | [a, b, c] => if a.data.length = 3 ∧ b.data.length = 2 ∧ c.data.length = 4 then some (a.data, b.data) else none
  | _ => none
def rparse6 (p : P4) (l : List E5) (s : List UInt8) : M6 × Int :=
  match three6 l with
  | some (a, b) => if is6 (fld6 p a b) s = true then (fld6 p a b, 0) else (no6, 1)
  | none => (no6, 1)
theorem is6_pack (m : M6) (s : List UInt8) (h : is6 m s = true) : may6 m = true ∧ pack6 m = s ∧ ∃ F : List UInt8, F.length = 4 ∧ s = plain6 m F := by
  unfold is6 at h
  obtain ⟨h1, h2, h3, h4⟩ := of_decide_eq_true h
  have hF : ((s.drop 24).take 4).length = 4 := by rw [List.length_take, List.length_drop]; omega
  refine ⟨h1, ?_, _, hF, h4.symm⟩
  generalize (s.drop 24).take 4 = F at *
  unfold pack6
  rw [if_pos h1]
  have hs := sealB_rem (head6 m) m.data
  unfold sealB at hs ⊢
  unfold plain6 at h4
  rw [← h4] at h3
  rw [field_one (head6 m) m.data _ F (fieldB_len _ _) hF hs h3, h4]
theorem rd_same (s : List UInt8) (p : P4) (f : Int) (l : List E5) (hpo : p.Ok) (hp : parse4 s = (p, 0)) (hl : parse5 p.profile p.ext = (f, l, 0)) (hr : rem s = 0) :
    rparse6 p l s = if pack6 (rd6 p l) = s then (rd6 p l, 0) else (no6, 1) := by
  have key : ∀ m : M6, m.Ok → may6 m = true → pack6 m = s → ∃ F, F.length = 4 ∧ p = pk6 m F ∧ l = els6 m F ∧ s = plain6 m F := fun m mo mm hm => by
    have hps : pack6 m = sealB (head6 m) m.data := by unfold pack6; rw [if_pos mm]
    have hFl := fieldB_len (head6 m) m.data
    have hb : s = plain6 m (fieldB (head6 m) m.data) := by rw [← hm, hps]; rfl
    generalize fieldB (head6 m) m.data = F at *
    have hbody : s = body4 (pk6 m F) := by rw [hb, body6 m F hFl]; rfl
    have h4 := parse_pack (pk6 m F) (okp6 m F mo) (mayp6 m F hFl)
    rw [← hbody, hp] at h4
    have hpp : p = pk6 m F := congrArg Prod.fst h4
    have h5 : parse5 48862 (bytes5 1 (els6 m F)) = (1, els6 m F, 0) := by
      have := parse_pack5 1 (els6 m F) (by rw [packx6 m F hFl])
      rwa [packx6 m F hFl] at this
    have hpr : p.profile = 48862 := by rw [hpp]; rfl
    have hex : p.ext = bytes5 1 (els6 m F) := by rw [hpp]; rfl
    rw [hpr, hex, h5] at hl
    exact ⟨F, hFl, hpp, (congrArg (fun x => x.2.1) hl).symm, hb⟩
  have hfl : ∀ a b, a.length = 3 → b.length = 2 → (fld6 p a b).Ok := fun a b ha hb => by
    refine ⟨hpo.src, hpo.seq, hpo.time, ?_⟩
    unfold fld6
    dsimp only
    have h0 : (a.drop 1).length = 2 := by rw [List.length_drop]; omega
    have h1 := getN_lt (a.drop 1)
    rw [h0] at h1
    have h2 : (256 ^ 2 : Nat) = 65536 := by decide
    omega
  have hbk : ∀ (m : M6) (F : List UInt8), m.Ok → may6 m = true → three6 (els6 m F) = (if F.length = 4 then some (putZ m.path 1 ++ putZ m.pseq 2, putZ m.idx 1 ++ putZ m.cnt 1) else none) ∧ fld6 (pk6 m F) (putZ m.path 1 ++ putZ m.pseq 2) (putZ m.idx 1 ++ putZ m.cnt 1) = m := fun m F mo mm => by
    obtain ⟨⟨m1, m2⟩, ⟨m3, m4⟩, ⟨m5, m6⟩, m7⟩ := (may6_iff m).1 mm
    obtain ⟨o1, o2, o3, o4⟩ := mo
    refine ⟨by unfold els6 three6; simp only [List.length_append, putZ_length]; by_cases hF : F.length = 4 <;> simp [hF], ?_⟩
    have g1 : (getN (putZ m.path 1) : Int) = m.path := get_put _ 1 256 rfl (by omega)
    have g2 : (getN (putZ m.pseq 2) : Int) = m.pseq := get_put _ 2 65536 rfl (by omega)
    have g3 : (getN (putZ m.idx 1) : Int) = m.idx := get_put _ 1 256 rfl (by omega)
    have g4 : (getN (putZ m.cnt 1) : Int) = m.cnt := get_put _ 1 256 rfl (by omega)
    unfold fld6
    rw [List.take_left' (putZ_length _ 1), List.drop_left' (putZ_length _ 1), List.take_left' (putZ_length _ 1), List.drop_left' (putZ_length _ 1), g1, g2, g3, g4]
    rfl
  by_cases h : pack6 (rd6 p l) = s
  · rw [if_pos h]
    have mm : may6 (rd6 p l) = true := by
      cases hm : may6 (rd6 p l) with
      | true => rfl
      | false =>
        rw [(pack6_nil _).2 hm] at h
        rw [← h] at hp
        have h0 : (parse4 []).2 ≠ 0 := by decide
        rw [hp] at h0
        exact absurd rfl h0
    have mo := rd6_ok p l hpo
    obtain ⟨F, hF, e1, e2, e3⟩ := key _ mo mm h
    generalize rd6 p l = m at *
    obtain ⟨b1, b2⟩ := hbk m F mo mm
    rw [if_pos hF] at b1
    unfold rparse6
    rw [e2, b1]
    dsimp only
    rw [e1, b2]
    have hi : is6 m s = true := by
      unfold is6
      refine decide_eq_true ⟨mm, ?_, hr, ?_⟩
      · rw [e3, plain6_len m F hF]
      · have : (s.drop 24).take 4 = F := by
          rw [e3]; unfold plain6
          rw [List.append_assoc, List.drop_left' (head6_len m), List.take_left' hF]
        rw [this, e3]
    rw [if_pos hi]
  · rw [if_neg h]
    unfold rparse6
    cases h3 : three6 l with
    | none => rfl
    | some ab =>
      obtain ⟨a, b⟩ := ab
      dsimp only
      by_cases hi : is6 (fld6 p a b) s = true
      · exfalso
        have hab : a.length = 3 ∧ b.length = 2 := by
          unfold three6 at h3
          split at h3
          · split at h3
            · rename_i hc
              cases h3
              exact ⟨hc.1, hc.2.1⟩
            · cases h3
          · cases h3
        have mo := hfl a b hab.1 hab.2
        obtain ⟨mm, i2, F0, _, _⟩ := is6_pack _ _ hi
        obtain ⟨F, hF, e1, e2, e3⟩ := key _ mo mm i2
        generalize fld6 p a b = m at *
        apply h
        rw [e1, e2, rd6_back m F mo mm]
        exact i2
      · rw [if_neg hi]
set_option maxRecDepth 100000 in
set_option maxHeartbeats 4000000 in
theorem ref_plain6 (m : M6) (F : List UInt8) (ho : m.Ok) (hm : may6 m = true) (hF : F.length = 4) : Spec Tryz.prog 45 [.ca (.val (.agg (r6L m))), .ca (.val (vs F))] [] (.ca (.val (vs (plain6 m F)))) [] := by
  obtain ⟨⟨m1, m2⟩, ⟨m3, m4⟩, ⟨m5, m6⟩, m7⟩ := (may6_iff m).1 hm
  have k1 := q_put m.path 1 (by omega) (by omega)
  have k2 := q_put m.pseq 2 (by have := ho.pseq; omega) (by omega)
  have k3 := q_put m.idx 1 (by omega) (by omega)
  have k4 := q_put m.cnt 1 (by omega) (by omega)
  have k5 := ref_pack5 1 (els6 m F) (by unfold els6 maxLen; simp) (by
    have e : formOk 1 = 1 := rfl
    have := ext6_len m F hF
    unfold bytes5 at this
    rw [List.length_append] at this
    rw [e]; omega)
  rw [packx6 m F hF] at k5
  have k8 := ref_pack4 (pk6 m F) (okp6 m _ ho) (by
    have h1 := ext6_len m F hF
    have h2 : (pk6 m F).ext = bytes5 1 (els6 m F) := rfl
    rw [h2, h1]; decide) (Nat.zero_le _) (by
    have h2 : (pk6 m F).data = m.data := rfl
    rw [h2]; omega)
  have k9 : pack4 (pk6 m F) = plain6 m F := by
    unfold pack4
    rw [if_pos (mayp6 m F hF), body6 m F hF]
    rfl
  rw [k9] at k8
  have z1 := putZ_length m.path 1
  have z2 := putZ_length m.pseq 2
  have z3 := putZ_length m.idx 1
  have z4 := putZ_length m.cnt 1
  generalize plain6 m F = Q at *
  unfold pk6 at k8
  unfold els6 at k5 k8
  generalize bytes5 1 _ = X at *
  clear k9
  obtain ⟨sr, sq, tm, pa, ps, ix, ct, da⟩ := m
  dsimp only at *
  refine spec_of Tryz.func45 rfl Tryz.ntmps45 Tryz.results45 ⟨by decide, by simp⟩ fun C hC => ?_
  (repeat' ((first | refine aw_seq ?_ | refine aw_block ?_ | refine aw_reg hC (by kernel_rfl) ?_ | refine aw_regd hC Tryz.checked.mixed (by kernel_rfl) ?_ | refine chk_and (by kernel_rfl) ?_ | refine aw_skip ?_ | refine aw_if ?_ | refine And.intro (by first | omega | with_reducible assumption) ?_ | refine aw_exit ?_ | refine aw_ret ?_ | (simp (decide := true) (disch := omega) only [go_sem, ↓reduceIte, ↓put_at]) | refine call_u Tryz.call63 (k1) [] (by simp (decide := true) (disch := omega) only [go_sem, ↓reduceIte, ↓put_at]; first | done | assumption | omega) ?_ | refine call_u Tryz.call63 (k2) [] (by simp (decide := true) (disch := omega) only [go_sem, ↓reduceIte, ↓put_at]; first | done | assumption | omega) ?_ | refine call_u Tryz.call63 (k3) [] (by simp (decide := true) (disch := omega) only [go_sem, ↓reduceIte, ↓put_at]; first | done | assumption | omega) ?_ | refine call_u Tryz.call63 (k4) [] (by simp (decide := true) (disch := omega) only [go_sem, ↓reduceIte, ↓put_at]; first | done | assumption | omega) ?_ | refine call_u Tryz.call62 (k5) [] (by simp (decide := true) (disch := omega) only [go_sem, ↓reduceIte, ↓put_at]; first | done | assumption | omega) ?_ | refine call_u Tryz.call64 (k8) [] (by simp (decide := true) (disch := omega) only [go_sem, ↓reduceIte, ↓put_at]; first | done | assumption | omega) ?_ | refine condK_eq (fun h => ?_) (fun h => ?_) | refine condK_dec (fun h => ?_) (fun h => ?_) | refine condK_if (fun h => ?_) (fun h => ?_) | (refine ret_s [] ?_; simp (decide := true) (disch := omega) only [go_sem, ↓reduceIte, ↓put_at]))))
  have hmk : (ix == ct - 1) = decide (ix = ct - 1) := rfl
  simp only [hmk]
  (repeat' ((first | refine aw_seq ?_ | refine aw_block ?_ | refine aw_reg hC (by kernel_rfl) ?_ | refine aw_regd hC Tryz.checked.mixed (by kernel_rfl) ?_ | refine chk_and (by kernel_rfl) ?_ | refine aw_skip ?_ | refine aw_if ?_ | refine And.intro (by first | omega | with_reducible assumption) ?_ | refine aw_exit ?_ | refine aw_ret ?_ | (simp (decide := true) (disch := omega) only [go_sem, ↓reduceIte, ↓put_at]) | refine call_u Tryz.call64 (k8) [] (by simp (decide := true) (disch := omega) only [go_sem, ↓reduceIte, ↓put_at]; first | done | assumption | omega) ?_ | refine condK_eq (fun h => ?_) (fun h => ?_) | refine condK_dec (fun h => ?_) (fun h => ?_) | refine condK_if (fun h => ?_) (fun h => ?_) | (refine ret_s [] ?_; simp (decide := true) (disch := omega) only [go_sem, ↓reduceIte, ↓put_at]))))
set_option maxRecDepth 100000 in
set_option maxHeartbeats 4000000 in
theorem ref_is6 (m : M6) (s : List UInt8) (ho : m.Ok) (hl : m.data.length ≤ 1099511627776) (hs : s.length ≤ 1099511627776) : Spec Tryz.prog 24 [.ca (.val (.agg (r6L m))), .ca (.val (vs s))] [] (.ca (.val (vb (is6 m s)))) [] := by
  have c1 := ref_may6 m (by unfold maxLen; omega)
  have c2 := ref_rem2 s hs
  obtain ⟨A, hA⟩ : ∃ A, A = is6 m s := ⟨_, rfl⟩
  rw [← hA]
  unfold is6 at hA
  by_cases h1 : may6 m = true
  · by_cases h2 : s.length = m.data.length + 28
    · by_cases h3 : rem s = 0
      · have hF : ((s.drop 24).take 4).length = 4 := by rw [List.length_take, List.length_drop]; omega
        have c3 := ref_plain6 m ((s.drop 24).take 4) ho h1 hF
        have e1 : (s.take 28).drop 24 = (s.drop 24).take 4 := by rw [List.drop_take]
        rw [h1] at c1
        rw [h3] at c2
        generalize eF : (s.drop 24).take 4 = F at *
        by_cases h4 : plain6 m F = s
        · rw [decide_eq_true ⟨h1, h2, h3, h4⟩] at hA
          subst hA
          rw [h4] at c3
          have hb : (s == s) = true := beq_self_eq_true s
          obtain ⟨sr, sq, tm, pa, ps, ix, ct, da⟩ := m
          dsimp only at *
          refine spec_of Tryz.func24 rfl Tryz.ntmps24 Tryz.results24 ⟨by decide, by simp⟩ fun C hC => ?_
          (repeat' ((first | refine aw_seq ?_ | refine aw_block ?_ | refine aw_reg hC (by kernel_rfl) ?_ | refine aw_regd hC Tryz.checked.mixed (by kernel_rfl) ?_ | refine chk_and (by kernel_rfl) ?_ | refine aw_skip ?_ | refine aw_if ?_ | refine And.intro (by first | omega | with_reducible assumption) ?_ | refine aw_exit ?_ | refine aw_ret ?_ | (simp (decide := true) (disch := omega) only [go_sem, ↓reduceIte, ↓put_at]) | refine call_u Tryz.call44 (c1) [] (by simp (decide := true) (disch := omega) only [go_sem, ↓reduceIte, ↓put_at]; first | done | assumption | omega) ?_ | refine call_u Tryz.call20 (c2) [] (by simp (decide := true) (disch := omega) only [go_sem, ↓reduceIte, ↓put_at]; first | done | assumption | omega) ?_ | refine condK_eq (fun h => ?_) (fun h => ?_) | refine condK_dec (fun h => ?_) (fun h => ?_) | refine condK_if (fun h => ?_) (fun h => ?_) | (refine ret_s [] ?_; simp (decide := true) (disch := omega) only [go_sem, ↓reduceIte, ↓put_at]))))
          all_goals simp only [eF]
          all_goals (repeat' ((first | refine aw_seq ?_ | refine aw_block ?_ | refine aw_reg hC (by kernel_rfl) ?_ | refine aw_regd hC Tryz.checked.mixed (by kernel_rfl) ?_ | refine chk_and (by kernel_rfl) ?_ | refine aw_skip ?_ | refine aw_if ?_ | refine And.intro (by first | omega | with_reducible assumption) ?_ | refine aw_exit ?_ | refine aw_ret ?_ | (simp (decide := true) (disch := omega) only [go_sem, ↓reduceIte, ↓put_at]) | refine call_u Tryz.call45 (c3) [] (by simp (decide := true) (disch := omega) only [go_sem, ↓reduceIte, ↓put_at]; first | done | assumption | omega) ?_ | refine condK_eq (fun h => ?_) (fun h => ?_) | refine condK_dec (fun h => ?_) (fun h => ?_) | refine condK_if (fun h => ?_) (fun h => ?_) | (refine ret_s [] ?_; simp (decide := true) (disch := omega) only [go_sem, ↓reduceIte, ↓put_at]))))
          all_goals simp only [hb]
          all_goals (repeat' ((first | refine aw_seq ?_ | refine aw_block ?_ | refine aw_reg hC (by kernel_rfl) ?_ | refine aw_regd hC Tryz.checked.mixed (by kernel_rfl) ?_ | refine chk_and (by kernel_rfl) ?_ | refine aw_skip ?_ | refine aw_if ?_ | refine And.intro (by first | omega | with_reducible assumption) ?_ | refine aw_exit ?_ | refine aw_ret ?_ | (simp (decide := true) (disch := omega) only [go_sem, ↓reduceIte, ↓put_at]) | refine condK_eq (fun h => ?_) (fun h => ?_) | refine condK_dec (fun h => ?_) (fun h => ?_) | refine condK_if (fun h => ?_) (fun h => ?_) | (refine ret_s [] ?_; simp (decide := true) (disch := omega) only [go_sem, ↓reduceIte, ↓put_at]))))
        · rw [decide_eq_false (fun h => h4 h.2.2.2)] at hA
          subst hA
          have hb : (plain6 m F == s) = false := by simpa using h4
          generalize plain6 m F = Q at *
          obtain ⟨sr, sq, tm, pa, ps, ix, ct, da⟩ := m
          dsimp only at *
          refine spec_of Tryz.func24 rfl Tryz.ntmps24 Tryz.results24 ⟨by decide, by simp⟩ fun C hC => ?_
          (repeat' ((first | refine aw_seq ?_ | refine aw_block ?_ | refine aw_reg hC (by kernel_rfl) ?_ | refine aw_regd hC Tryz.checked.mixed (by kernel_rfl) ?_ | refine chk_and (by kernel_rfl) ?_ | refine aw_skip ?_ | refine aw_if ?_ | refine And.intro (by first | omega | with_reducible assumption) ?_ | refine aw_exit ?_ | refine aw_ret ?_ | (simp (decide := true) (disch := omega) only [go_sem, ↓reduceIte, ↓put_at]) | refine call_u Tryz.call44 (c1) [] (by simp (decide := true) (disch := omega) only [go_sem, ↓reduceIte, ↓put_at]; first | done | assumption | omega) ?_ | refine call_u Tryz.call20 (c2) [] (by simp (decide := true) (disch := omega) only [go_sem, ↓reduceIte, ↓put_at]; first | done | assumption | omega) ?_ | refine condK_eq (fun h => ?_) (fun h => ?_) | refine condK_dec (fun h => ?_) (fun h => ?_) | refine condK_if (fun h => ?_) (fun h => ?_) | (refine ret_s [] ?_; simp (decide := true) (disch := omega) only [go_sem, ↓reduceIte, ↓put_at]))))
          all_goals simp only [eF]
          all_goals (repeat' ((first | refine aw_seq ?_ | refine aw_block ?_ | refine aw_reg hC (by kernel_rfl) ?_ | refine aw_regd hC Tryz.checked.mixed (by kernel_rfl) ?_ | refine chk_and (by kernel_rfl) ?_ | refine aw_skip ?_ | refine aw_if ?_ | refine And.intro (by first | omega | with_reducible assumption) ?_ | refine aw_exit ?_ | refine aw_ret ?_ | (simp (decide := true) (disch := omega) only [go_sem, ↓reduceIte, ↓put_at]) | refine call_u Tryz.call45 (c3) [] (by simp (decide := true) (disch := omega) only [go_sem, ↓reduceIte, ↓put_at]; first | done | assumption | omega) ?_ | refine condK_eq (fun h => ?_) (fun h => ?_) | refine condK_dec (fun h => ?_) (fun h => ?_) | refine condK_if (fun h => ?_) (fun h => ?_) | (refine ret_s [] ?_; simp (decide := true) (disch := omega) only [go_sem, ↓reduceIte, ↓put_at]))))
          all_goals simp only [hb]
          all_goals (repeat' ((first | refine aw_seq ?_ | refine aw_block ?_ | refine aw_reg hC (by kernel_rfl) ?_ | refine aw_regd hC Tryz.checked.mixed (by kernel_rfl) ?_ | refine chk_and (by kernel_rfl) ?_ | refine aw_skip ?_ | refine aw_if ?_ | refine And.intro (by first | omega | with_reducible assumption) ?_ | refine aw_exit ?_ | refine aw_ret ?_ | (simp (decide := true) (disch := omega) only [go_sem, ↓reduceIte, ↓put_at]) | refine condK_eq (fun h => ?_) (fun h => ?_) | refine condK_dec (fun h => ?_) (fun h => ?_) | refine condK_if (fun h => ?_) (fun h => ?_) | (refine ret_s [] ?_; simp (decide := true) (disch := omega) only [go_sem, ↓reduceIte, ↓put_at]))))
      · rw [decide_eq_false (fun h => h3 h.2.2.1)] at hA
        subst hA
        rw [h1] at c1
        generalize rem s = R at *
        obtain ⟨sr, sq, tm, pa, ps, ix, ct, da⟩ := m
        dsimp only at *
        refine spec_of Tryz.func24 rfl Tryz.ntmps24 Tryz.results24 ⟨by decide, by simp⟩ fun C hC => ?_
        (repeat' ((first | refine aw_seq ?_ | refine aw_block ?_ | refine aw_reg hC (by kernel_rfl) ?_ | refine aw_regd hC Tryz.checked.mixed (by kernel_rfl) ?_ | refine chk_and (by kernel_rfl) ?_ | refine aw_skip ?_ | refine aw_if ?_ | refine And.intro (by first | omega | with_reducible assumption) ?_ | refine aw_exit ?_ | refine aw_ret ?_ | (simp (decide := true) (disch := omega) only [go_sem, ↓reduceIte, ↓put_at]) | refine call_u Tryz.call44 (c1) [] (by simp (decide := true) (disch := omega) only [go_sem, ↓reduceIte, ↓put_at]; first | done | assumption | omega) ?_ | refine call_u Tryz.call20 (c2) [] (by simp (decide := true) (disch := omega) only [go_sem, ↓reduceIte, ↓put_at]; first | done | assumption | omega) ?_ | refine condK_eq (fun h => ?_) (fun h => ?_) | refine condK_dec (fun h => ?_) (fun h => ?_) | refine condK_if (fun h => ?_) (fun h => ?_) | (refine ret_s [] ?_; simp (decide := true) (disch := omega) only [go_sem, ↓reduceIte, ↓put_at]))))
    · rw [decide_eq_false (fun h => h2 h.2.1)] at hA
      subst hA
      rw [h1] at c1
      obtain ⟨sr, sq, tm, pa, ps, ix, ct, da⟩ := m
      dsimp only at *
      refine spec_of Tryz.func24 rfl Tryz.ntmps24 Tryz.results24 ⟨by decide, by simp⟩ fun C hC => ?_
      (repeat' ((first | refine aw_seq ?_ | refine aw_block ?_ | refine aw_reg hC (by kernel_rfl) ?_ | refine aw_regd hC Tryz.checked.mixed (by kernel_rfl) ?_ | refine chk_and (by kernel_rfl) ?_ | refine aw_skip ?_ | refine aw_if ?_ | refine And.intro (by first | omega | with_reducible assumption) ?_ | refine aw_exit ?_ | refine aw_ret ?_ | (simp (decide := true) (disch := omega) only [go_sem, ↓reduceIte, ↓put_at]) | refine call_u Tryz.call44 (c1) [] (by simp (decide := true) (disch := omega) only [go_sem, ↓reduceIte, ↓put_at]; first | done | assumption | omega) ?_ | refine call_u Tryz.call20 (c2) [] (by simp (decide := true) (disch := omega) only [go_sem, ↓reduceIte, ↓put_at]; first | done | assumption | omega) ?_ | refine condK_eq (fun h => ?_) (fun h => ?_) | refine condK_dec (fun h => ?_) (fun h => ?_) | refine condK_if (fun h => ?_) (fun h => ?_) | (refine ret_s [] ?_; simp (decide := true) (disch := omega) only [go_sem, ↓reduceIte, ↓put_at]))))
  · rw [decide_eq_false (fun h => h1 h.1)] at hA
    subst hA
    rw [Bool.not_eq_true] at h1
    rw [h1] at c1
    obtain ⟨sr, sq, tm, pa, ps, ix, ct, da⟩ := m
    dsimp only at *
    refine spec_of Tryz.func24 rfl Tryz.ntmps24 Tryz.results24 ⟨by decide, by simp⟩ fun C hC => ?_
    (repeat' ((first | refine aw_seq ?_ | refine aw_block ?_ | refine aw_reg hC (by kernel_rfl) ?_ | refine aw_regd hC Tryz.checked.mixed (by kernel_rfl) ?_ | refine chk_and (by kernel_rfl) ?_ | refine aw_skip ?_ | refine aw_if ?_ | refine And.intro (by first | omega | with_reducible assumption) ?_ | refine aw_exit ?_ | refine aw_ret ?_ | (simp (decide := true) (disch := omega) only [go_sem, ↓reduceIte, ↓put_at]) | refine call_u Tryz.call44 (c1) [] (by simp (decide := true) (disch := omega) only [go_sem, ↓reduceIte, ↓put_at]; first | done | assumption | omega) ?_ | refine call_u Tryz.call20 (c2) [] (by simp (decide := true) (disch := omega) only [go_sem, ↓reduceIte, ↓put_at]; first | done | assumption | omega) ?_ | refine condK_eq (fun h => ?_) (fun h => ?_) | refine condK_dec (fun h => ?_) (fun h => ?_) | refine condK_if (fun h => ?_) (fun h => ?_) | (refine ret_s [] ?_; simp (decide := true) (disch := omega) only [go_sem, ↓reduceIte, ↓put_at]))))
theorem list3 {α : Type} (l : List α) (h : l.length = 3) : ∃ a b c, l = [a, b, c] := by
  match l, h with
  | [a, b, c], _ => exact ⟨a, b, c, rfl⟩
set_option maxRecDepth 100000 in
set_option maxHeartbeats 8000000 in
theorem ref_parse6 (s : List UInt8) (hl : s.length ≤ 1099511627776) : Spec Tryz.prog 8 [.ca (.val (vs s))] [] (.ca (.val (.tup [.agg (r6L (parse6 s).1), vi (parse6 s).2]))) [] := by
  obtain ⟨R, hR⟩ : ∃ R, R = parse6 s := ⟨_, rfl⟩
  rw [← hR]
  unfold parse6 at hR
  by_cases h1 : 1500 < s.length
  · rw [if_pos h1] at hR
    subst hR
    unfold no6
    refine spec_of Tryz.func8 rfl Tryz.ntmps8 Tryz.results8 ⟨by decide, by simp⟩ fun C hC => ?_
    (repeat' ((first | refine aw_seq ?_ | refine aw_block ?_ | refine aw_reg hC (by kernel_rfl) ?_ | refine aw_regd hC Tryz.checked.mixed (by kernel_rfl) ?_ | refine chk_and (by kernel_rfl) ?_ | refine aw_skip ?_ | refine aw_if ?_ | refine And.intro (by first | omega | with_reducible assumption) ?_ | refine aw_exit ?_ | refine aw_ret ?_ | (simp (decide := true) (disch := omega) only [go_sem, ↓reduceIte, ↓put_at]) | refine condK_eq (fun h => ?_) (fun h => ?_) | refine condK_dec (fun h => ?_) (fun h => ?_) | refine condK_if (fun h => ?_) (fun h => ?_) | (refine ret_s [] ?_; simp (decide := true) (disch := omega) only [go_sem, ↓reduceIte, ↓put_at]))))
  rw [if_neg h1] at hR
  have c1 := ref_rem2 s hl
  by_cases h2 : rem s ≠ 0
  · rw [if_pos h2] at hR
    subst hR
    unfold no6
    generalize rem s = r at *
    refine spec_of Tryz.func8 rfl Tryz.ntmps8 Tryz.results8 ⟨by decide, by simp⟩ fun C hC => ?_
    (repeat' ((first | refine aw_seq ?_ | refine aw_block ?_ | refine aw_reg hC (by kernel_rfl) ?_ | refine aw_regd hC Tryz.checked.mixed (by kernel_rfl) ?_ | refine chk_and (by kernel_rfl) ?_ | refine aw_skip ?_ | refine aw_if ?_ | refine And.intro (by first | omega | with_reducible assumption) ?_ | refine aw_exit ?_ | refine aw_ret ?_ | (simp (decide := true) (disch := omega) only [go_sem, ↓reduceIte, ↓put_at]) | refine call_u Tryz.call20 (c1) [] (by simp (decide := true) (disch := omega) only [go_sem, ↓reduceIte, ↓put_at]; first | done | assumption | omega) ?_ | refine condK_eq (fun h => ?_) (fun h => ?_) | refine condK_dec (fun h => ?_) (fun h => ?_) | refine condK_if (fun h => ?_) (fun h => ?_) | (refine ret_s [] ?_; simp (decide := true) (disch := omega) only [go_sem, ↓reduceIte, ↓put_at]))))
  rw [if_neg h2] at hR
  have h2 : rem s = 0 := Classical.not_not.1 h2
  rw [h2] at c1
  have c2 := ref_parse4 s (by omega)
  have hpp : (parse4 s).2 = 0 → body4 (parse4 s).1 = s ∧ may4 (parse4 s).1 = true ∧ (parse4 s).1.Ok := fun h => pack_parse s (parse4 s).1 (by rw [← h]) (by omega)
  have hrd := fun f l => rd_same s (parse4 s).1 f l
  have hq : (parse4 s).2 = 0 → parse4 s = ((parse4 s).1, 0) := fun h => by rw [← h]
  generalize parse4 s = Q at *
  obtain ⟨p, e⟩ := Q
  dsimp only at *
  by_cases h3 : e ≠ 0
  · rw [if_pos h3] at hR
    subst hR
    unfold no6
    obtain ⟨mk, kd, sq, tm, sr, os, hx, pf, ex, da, pd⟩ := p
    refine spec_of Tryz.func8 rfl Tryz.ntmps8 Tryz.results8 ⟨by decide, by simp⟩ fun C hC => ?_
    (repeat' ((first | refine aw_seq ?_ | refine aw_block ?_ | refine aw_reg hC (by kernel_rfl) ?_ | refine aw_regd hC Tryz.checked.mixed (by kernel_rfl) ?_ | refine chk_and (by kernel_rfl) ?_ | refine aw_skip ?_ | refine aw_if ?_ | refine And.intro (by first | omega | with_reducible assumption) ?_ | refine aw_exit ?_ | refine aw_ret ?_ | (simp (decide := true) (disch := omega) only [go_sem, ↓reduceIte, ↓put_at]) | refine call_u Tryz.call20 (c1) [] (by simp (decide := true) (disch := omega) only [go_sem, ↓reduceIte, ↓put_at]; first | done | assumption | omega) ?_ | refine call_u Tryz.call21 (c2) [] (by simp (decide := true) (disch := omega) only [go_sem, ↓reduceIte, ↓put_at]; first | done | assumption | omega) ?_ | refine condK_eq (fun h => ?_) (fun h => ?_) | refine condK_dec (fun h => ?_) (fun h => ?_) | refine condK_if (fun h => ?_) (fun h => ?_) | (refine ret_s [] ?_; simp (decide := true) (disch := omega) only [go_sem, ↓reduceIte, ↓put_at]))))
  rw [if_neg h3] at hR
  have h3 : e = 0 := Classical.not_not.1 h3
  subst h3
  obtain ⟨hbody, hmay, hok⟩ := hpp rfl
  have hext : p.ext.length ≤ 262140 := by
    have := ((may4_iff p).1 hmay).2.2.2.2
    cases hx : p.hasExt with
    | true => rw [hx, if_pos rfl] at this; exact this.2
    | false => rw [hx, if_neg (by decide)] at this; rw [this.2]; simp
  have hdat : p.data.length ≤ 1500 := by
    have := body4_data p
    rw [hbody] at this
    omega
  by_cases h4 : p.hasExt = false
  · rw [if_pos h4] at hR
    subst hR
    unfold no6
    obtain ⟨mk, kd, sq, tm, sr, os, hx, pf, ex, da, pd⟩ := p
    dsimp only at h4
    subst h4
    refine spec_of Tryz.func8 rfl Tryz.ntmps8 Tryz.results8 ⟨by decide, by simp⟩ fun C hC => ?_
    (repeat' ((first | refine aw_seq ?_ | refine aw_block ?_ | refine aw_reg hC (by kernel_rfl) ?_ | refine aw_regd hC Tryz.checked.mixed (by kernel_rfl) ?_ | refine chk_and (by kernel_rfl) ?_ | refine aw_skip ?_ | refine aw_if ?_ | refine And.intro (by first | omega | with_reducible assumption) ?_ | refine aw_exit ?_ | refine aw_ret ?_ | (simp (decide := true) (disch := omega) only [go_sem, ↓reduceIte, ↓put_at]) | refine call_u Tryz.call20 (c1) [] (by simp (decide := true) (disch := omega) only [go_sem, ↓reduceIte, ↓put_at]; first | done | assumption | omega) ?_ | refine call_u Tryz.call21 (c2) [] (by simp (decide := true) (disch := omega) only [go_sem, ↓reduceIte, ↓put_at]; first | done | assumption | omega) ?_ | refine condK_eq (fun h => ?_) (fun h => ?_) | refine condK_dec (fun h => ?_) (fun h => ?_) | refine condK_if (fun h => ?_) (fun h => ?_) | (refine ret_s [] ?_; simp (decide := true) (disch := omega) only [go_sem, ↓reduceIte, ↓put_at]))))
  rw [if_neg h4] at hR
  have h4 : p.hasExt = true := by cases hx : p.hasExt with
    | true => rfl
    | false => exact absurd hx h4
  have c3 := ref_parse5 p.profile p.ext (by omega)
  have hrd := fun f l h => hrd f l hok rfl h h2
  generalize parse5 p.profile p.ext = X at *
  obtain ⟨f, l, g⟩ := X
  dsimp only at *
  by_cases h5 : g ≠ 0
  · rw [if_pos h5] at hR
    subst hR
    unfold no6
    obtain ⟨mk, kd, sq, tm, sr, os, hx, pf, ex, da, pd⟩ := p
    dsimp only at *
    subst h4
    refine spec_of Tryz.func8 rfl Tryz.ntmps8 Tryz.results8 ⟨by decide, by simp⟩ fun C hC => ?_
    (repeat' ((first | refine aw_seq ?_ | refine aw_block ?_ | refine aw_reg hC (by kernel_rfl) ?_ | refine aw_regd hC Tryz.checked.mixed (by kernel_rfl) ?_ | refine chk_and (by kernel_rfl) ?_ | refine aw_skip ?_ | refine aw_if ?_ | refine And.intro (by first | omega | with_reducible assumption) ?_ | refine aw_exit ?_ | refine aw_ret ?_ | (simp (decide := true) (disch := omega) only [go_sem, ↓reduceIte, ↓put_at]) | refine call_u Tryz.call20 (c1) [] (by simp (decide := true) (disch := omega) only [go_sem, ↓reduceIte, ↓put_at]; first | done | assumption | omega) ?_ | refine call_u Tryz.call21 (c2) [] (by simp (decide := true) (disch := omega) only [go_sem, ↓reduceIte, ↓put_at]; first | done | assumption | omega) ?_ | refine call_u Tryz.call22 (c3) [] (by simp (decide := true) (disch := omega) only [go_sem, ↓reduceIte, ↓put_at]; first | done | assumption | omega) ?_ | refine condK_eq (fun h => ?_) (fun h => ?_) | refine condK_dec (fun h => ?_) (fun h => ?_) | refine condK_if (fun h => ?_) (fun h => ?_) | (refine ret_s [] ?_; simp (decide := true) (disch := omega) only [go_sem, ↓reduceIte, ↓put_at]))))
  rw [if_neg h5] at hR
  have h5 : g = 0 := Classical.not_not.1 h5
  subst h5
  have hrd := hrd f l rfl
  rw [← hrd] at hR
  unfold rparse6 at hR
  by_cases h6 : l.length = 3
  · obtain ⟨A, B, C', rfl⟩ := list3 l h6
    unfold three6 at hR
    dsimp only at hR
    obtain ⟨i1, a⟩ := A
    obtain ⟨i2, b⟩ := B
    obtain ⟨i3, c⟩ := C'
    dsimp only at hR
    by_cases h7 : a.length = 3 ∧ b.length = 2 ∧ c.length = 4
    · rw [if_pos h7] at hR
      dsimp only at hR
      obtain ⟨g1, g2, g3⟩ := h7
      have k1 := q_get (a.take 1) (by rw [List.length_take]; omega)
      have k2 := q_get (a.drop 1) (by rw [List.length_drop]; omega)
      have k3 := q_get (b.take 1) (by rw [List.length_take]; omega)
      have k4 := q_get (b.drop 1) (by rw [List.length_drop]; omega)
      have mo : (fld6 p a b).Ok := by
        refine ⟨hok.src, hok.seq, hok.time, ?_⟩
        unfold fld6
        dsimp only
        have h0 : (a.drop 1).length = 2 := by rw [List.length_drop]; omega
        have h1 := getN_lt (a.drop 1)
        rw [h0] at h1
        have h2 : (256 ^ 2 : Nat) = 65536 := by decide
        omega
      have c5 := ref_is6 (fld6 p a b) s mo (by unfold fld6; dsimp only; omega) hl
      generalize is6 (fld6 p a b) s = I at *
      clear mo hrd
      unfold fld6 at c5 hR
      generalize getN (a.take 1) = n1 at *
      generalize getN (a.drop 1) = n2 at *
      generalize getN (b.take 1) = n3 at *
      generalize getN (b.drop 1) = n4 at *
      obtain ⟨mk, kd, sq, tm, sr, os, hx, pf, ex, da, pd⟩ := p
      dsimp only at *
      subst h4
      cases I with
      | true =>
        rw [if_pos rfl] at hR
        subst hR
        refine spec_of Tryz.func8 rfl Tryz.ntmps8 Tryz.results8 ⟨by decide, by simp⟩ fun C hC => ?_
        (repeat' ((first | refine aw_seq ?_ | refine aw_block ?_ | refine aw_reg hC (by kernel_rfl) ?_ | refine aw_regd hC Tryz.checked.mixed (by kernel_rfl) ?_ | refine chk_and (by kernel_rfl) ?_ | refine aw_skip ?_ | refine aw_if ?_ | refine And.intro (by first | omega | with_reducible assumption) ?_ | refine aw_exit ?_ | refine aw_ret ?_ | (simp (decide := true) (disch := omega) only [go_sem, ↓reduceIte, ↓put_at]) | refine call_u Tryz.call20 (c1) [] (by simp (decide := true) (disch := omega) only [go_sem, ↓reduceIte, ↓put_at]; first | done | assumption | omega) ?_ | refine call_u Tryz.call21 (c2) [] (by simp (decide := true) (disch := omega) only [go_sem, ↓reduceIte, ↓put_at]; first | done | assumption | omega) ?_ | refine call_u Tryz.call22 (c3) [] (by simp (decide := true) (disch := omega) only [go_sem, ↓reduceIte, ↓put_at]; first | done | assumption | omega) ?_ | refine call_u Tryz.call23 (k1) [] (by simp (decide := true) (disch := omega) only [go_sem, ↓reduceIte, ↓put_at]; first | done | assumption | omega) ?_ | refine call_u Tryz.call23 (k2) [] (by simp (decide := true) (disch := omega) only [go_sem, ↓reduceIte, ↓put_at]; first | done | assumption | omega) ?_ | refine call_u Tryz.call23 (k3) [] (by simp (decide := true) (disch := omega) only [go_sem, ↓reduceIte, ↓put_at]; first | done | assumption | omega) ?_ | refine call_u Tryz.call23 (k4) [] (by simp (decide := true) (disch := omega) only [go_sem, ↓reduceIte, ↓put_at]; first | done | assumption | omega) ?_ | refine call_u Tryz.call24 (c5) [] (by simp (decide := true) (disch := omega) only [go_sem, ↓reduceIte, ↓put_at]; first | done | assumption | omega) ?_ | refine condK_eq (fun h => ?_) (fun h => ?_) | refine condK_dec (fun h => ?_) (fun h => ?_) | refine condK_if (fun h => ?_) (fun h => ?_) | (refine ret_s [] ?_; simp (decide := true) (disch := omega) only [go_sem, ↓reduceIte, ↓put_at]))))
      | false =>
        rw [if_neg (by decide)] at hR
        subst hR
        unfold no6
        refine spec_of Tryz.func8 rfl Tryz.ntmps8 Tryz.results8 ⟨by decide, by simp⟩ fun C hC => ?_
        (repeat' ((first | refine aw_seq ?_ | refine aw_block ?_ | refine aw_reg hC (by kernel_rfl) ?_ | refine aw_regd hC Tryz.checked.mixed (by kernel_rfl) ?_ | refine chk_and (by kernel_rfl) ?_ | refine aw_skip ?_ | refine aw_if ?_ | refine And.intro (by first | omega | with_reducible assumption) ?_ | refine aw_exit ?_ | refine aw_ret ?_ | (simp (decide := true) (disch := omega) only [go_sem, ↓reduceIte, ↓put_at]) | refine call_u Tryz.call20 (c1) [] (by simp (decide := true) (disch := omega) only [go_sem, ↓reduceIte, ↓put_at]; first | done | assumption | omega) ?_ | refine call_u Tryz.call21 (c2) [] (by simp (decide := true) (disch := omega) only [go_sem, ↓reduceIte, ↓put_at]; first | done | assumption | omega) ?_ | refine call_u Tryz.call22 (c3) [] (by simp (decide := true) (disch := omega) only [go_sem, ↓reduceIte, ↓put_at]; first | done | assumption | omega) ?_ | refine call_u Tryz.call23 (k1) [] (by simp (decide := true) (disch := omega) only [go_sem, ↓reduceIte, ↓put_at]; first | done | assumption | omega) ?_ | refine call_u Tryz.call23 (k2) [] (by simp (decide := true) (disch := omega) only [go_sem, ↓reduceIte, ↓put_at]; first | done | assumption | omega) ?_ | refine call_u Tryz.call23 (k3) [] (by simp (decide := true) (disch := omega) only [go_sem, ↓reduceIte, ↓put_at]; first | done | assumption | omega) ?_ | refine call_u Tryz.call23 (k4) [] (by simp (decide := true) (disch := omega) only [go_sem, ↓reduceIte, ↓put_at]; first | done | assumption | omega) ?_ | refine call_u Tryz.call24 (c5) [] (by simp (decide := true) (disch := omega) only [go_sem, ↓reduceIte, ↓put_at]; first | done | assumption | omega) ?_ | refine condK_eq (fun h => ?_) (fun h => ?_) | refine condK_dec (fun h => ?_) (fun h => ?_) | refine condK_if (fun h => ?_) (fun h => ?_) | (refine ret_s [] ?_; simp (decide := true) (disch := omega) only [go_sem, ↓reduceIte, ↓put_at]))))
    · rw [if_neg h7] at hR
      dsimp only at hR
      subst hR
      unfold no6
      obtain ⟨mk, kd, sq, tm, sr, os, hx, pf, ex, da, pd⟩ := p
      dsimp only at *
      subst h4
      refine spec_of Tryz.func8 rfl Tryz.ntmps8 Tryz.results8 ⟨by decide, by simp⟩ fun C hC => ?_
      by_cases y1 : a.length = 3
      · by_cases y2 : b.length = 2
        · have y3 : c.length ≠ 4 := fun e => h7 ⟨y1, y2, e⟩
          (repeat' ((first | refine aw_seq ?_ | refine aw_block ?_ | refine aw_reg hC (by kernel_rfl) ?_ | refine aw_regd hC Tryz.checked.mixed (by kernel_rfl) ?_ | refine chk_and (by kernel_rfl) ?_ | refine aw_skip ?_ | refine aw_if ?_ | refine And.intro (by first | omega | with_reducible assumption) ?_ | refine aw_exit ?_ | refine aw_ret ?_ | (simp (decide := true) (disch := omega) only [go_sem, ↓reduceIte, ↓put_at]) | refine call_u Tryz.call20 (c1) [] (by simp (decide := true) (disch := omega) only [go_sem, ↓reduceIte, ↓put_at]; first | done | assumption | omega) ?_ | refine call_u Tryz.call21 (c2) [] (by simp (decide := true) (disch := omega) only [go_sem, ↓reduceIte, ↓put_at]; first | done | assumption | omega) ?_ | refine call_u Tryz.call22 (c3) [] (by simp (decide := true) (disch := omega) only [go_sem, ↓reduceIte, ↓put_at]; first | done | assumption | omega) ?_ | refine condK_eq (fun h => ?_) (fun h => ?_) | refine condK_dec (fun h => ?_) (fun h => ?_) | refine condK_if (fun h => ?_) (fun h => ?_) | (refine ret_s [] ?_; simp (decide := true) (disch := omega) only [go_sem, ↓reduceIte, ↓put_at]))))
        · (repeat' ((first | refine aw_seq ?_ | refine aw_block ?_ | refine aw_reg hC (by kernel_rfl) ?_ | refine aw_regd hC Tryz.checked.mixed (by kernel_rfl) ?_ | refine chk_and (by kernel_rfl) ?_ | refine aw_skip ?_ | refine aw_if ?_ | refine And.intro (by first | omega | with_reducible assumption) ?_ | refine aw_exit ?_ | refine aw_ret ?_ | (simp (decide := true) (disch := omega) only [go_sem, ↓reduceIte, ↓put_at]) | refine call_u Tryz.call20 (c1) [] (by simp (decide := true) (disch := omega) only [go_sem, ↓reduceIte, ↓put_at]; first | done | assumption | omega) ?_ | refine call_u Tryz.call21 (c2) [] (by simp (decide := true) (disch := omega) only [go_sem, ↓reduceIte, ↓put_at]; first | done | assumption | omega) ?_ | refine call_u Tryz.call22 (c3) [] (by simp (decide := true) (disch := omega) only [go_sem, ↓reduceIte, ↓put_at]; first | done | assumption | omega) ?_ | refine condK_eq (fun h => ?_) (fun h => ?_) | refine condK_dec (fun h => ?_) (fun h => ?_) | refine condK_if (fun h => ?_) (fun h => ?_) | (refine ret_s [] ?_; simp (decide := true) (disch := omega) only [go_sem, ↓reduceIte, ↓put_at]))))
      · (repeat' ((first | refine aw_seq ?_ | refine aw_block ?_ | refine aw_reg hC (by kernel_rfl) ?_ | refine aw_regd hC Tryz.checked.mixed (by kernel_rfl) ?_ | refine chk_and (by kernel_rfl) ?_ | refine aw_skip ?_ | refine aw_if ?_ | refine And.intro (by first | omega | with_reducible assumption) ?_ | refine aw_exit ?_ | refine aw_ret ?_ | (simp (decide := true) (disch := omega) only [go_sem, ↓reduceIte, ↓put_at]) | refine call_u Tryz.call20 (c1) [] (by simp (decide := true) (disch := omega) only [go_sem, ↓reduceIte, ↓put_at]; first | done | assumption | omega) ?_ | refine call_u Tryz.call21 (c2) [] (by simp (decide := true) (disch := omega) only [go_sem, ↓reduceIte, ↓put_at]; first | done | assumption | omega) ?_ | refine call_u Tryz.call22 (c3) [] (by simp (decide := true) (disch := omega) only [go_sem, ↓reduceIte, ↓put_at]; first | done | assumption | omega) ?_ | refine condK_eq (fun h => ?_) (fun h => ?_) | refine condK_dec (fun h => ?_) (fun h => ?_) | refine condK_if (fun h => ?_) (fun h => ?_) | (refine ret_s [] ?_; simp (decide := true) (disch := omega) only [go_sem, ↓reduceIte, ↓put_at]))))
  · have h7 : three6 l = none := by
      unfold three6
      split
      · exact absurd rfl h6
      · rfl
    rw [h7] at hR
    dsimp only at hR
    subst hR
    unfold no6
    obtain ⟨mk, kd, sq, tm, sr, os, hx, pf, ex, da, pd⟩ := p
    dsimp only at *
    subst h4
    refine spec_of Tryz.func8 rfl Tryz.ntmps8 Tryz.results8 ⟨by decide, by simp⟩ fun C hC => ?_
    (repeat' ((first | refine aw_seq ?_ | refine aw_block ?_ | refine aw_reg hC (by kernel_rfl) ?_ | refine aw_regd hC Tryz.checked.mixed (by kernel_rfl) ?_ | refine chk_and (by kernel_rfl) ?_ | refine aw_skip ?_ | refine aw_if ?_ | refine And.intro (by first | omega | with_reducible assumption) ?_ | refine aw_exit ?_ | refine aw_ret ?_ | (simp (decide := true) (disch := omega) only [go_sem, ↓reduceIte, ↓put_at]) | refine call_u Tryz.call20 (c1) [] (by simp (decide := true) (disch := omega) only [go_sem, ↓reduceIte, ↓put_at]; first | done | assumption | omega) ?_ | refine call_u Tryz.call21 (c2) [] (by simp (decide := true) (disch := omega) only [go_sem, ↓reduceIte, ↓put_at]; first | done | assumption | omega) ?_ | refine call_u Tryz.call22 (c3) [] (by simp (decide := true) (disch := omega) only [go_sem, ↓reduceIte, ↓put_at]; first | done | assumption | omega) ?_ | refine condK_eq (fun h => ?_) (fun h => ?_) | refine condK_dec (fun h => ?_) (fun h => ?_) | refine condK_if (fun h => ?_) (fun h => ?_) | (refine ret_s [] ?_; simp (decide := true) (disch := omega) only [go_sem, ↓reduceIte, ↓put_at]))))
end Go.Proofs.YtojcjbaimdjhoaaGreatDoor
namespace Go.Proofs.YtojcjbaimdjhoaaGreatDoor
open Go.RowKit
set_option linter.unusedVariables false
set_option linter.unusedSimpArgs false

set_option maxRecDepth 100000 in
theorem eqr6_ (a1 b1 : Int) (a2 b2 : Int) (a3 b3 : Int) (a4 b4 : Int) (a5 b5 : Int) (a6 b6 : Int) (a7 b7 : Int) (a8 b8 : List UInt8) (w : World) : (binOp .eql 38 (.agg [.int .i64 a1, .int .i64 a2, .int .i64 a3, .int .i64 a4, .int .i64 a5, .int .i64 a6, .int .i64 a7, str a8].toArray) (.agg [.int .i64 b1, .int .i64 b2, .int .i64 b3, .int .i64 b4, .int .i64 b5, .int .i64 b6, .int .i64 b7, str b8].toArray)).run Tryz.prog w = .ok (.bool (decide (a1 = b1 ∧ a2 = b2 ∧ a3 = b3 ∧ a4 = b4 ∧ a5 = b5 ∧ a6 = b6 ∧ a7 = b7 ∧ a8 = b8))) w := by
  by_cases h1 : a1 = b1
  · by_cases h2 : a2 = b2
    · by_cases h3 : a3 = b3
      · by_cases h4 : a4 = b4
        · by_cases h5 : a5 = b5
          · by_cases h6 : a6 = b6
            · by_cases h7 : a7 = b7
              · by_cases h8 : a8 = b8
                · subst h1 h2 h3 h4 h5 h6 h7 h8; simp [go_sem]
                · have e : (a8 == b8) = false := by simpa using h8
                  simp [go_sem, h1, h2, h3, h4, h5, h6, h7, h8, e]
              · simp [go_sem, h1, h2, h3, h4, h5, h6, h7]
            · simp [go_sem, h1, h2, h3, h4, h5, h6]
          · simp [go_sem, h1, h2, h3, h4, h5]
        · simp [go_sem, h1, h2, h3, h4]
      · simp [go_sem, h1, h2, h3]
    · simp [go_sem, h1, h2]
  · simp [go_sem, h1]
theorem parse6_ok (s : List UInt8) (hl : s.length ≤ 1099511627776) : (parse6 s).1.Ok ∧ ((parse6 s).2 = 0 → pack6 (parse6 s).1 = s) ∧ (parse6 s).1.data.length ≤ 1500 := by
  have hno : M6.Ok no6 := ⟨by decide, by decide, by decide, by decide⟩
  have hnd : no6.data.length ≤ 1500 := by decide
  unfold parse6
  split
  · exact ⟨hno, (fun h => by cases h), hnd⟩
  · rename_i h1
    split
    · exact ⟨hno, (fun h => by cases h), hnd⟩
    · split
      · rename_i h3; exact ⟨hno, (fun h => absurd h h3), hnd⟩
      · rename_i h3
        have h3 : (parse4 s).2 = 0 := Classical.not_not.1 h3
        obtain ⟨hbody, hmay, hok⟩ := pack_parse s (parse4 s).1 (by rw [← h3]) (by omega)
        split
        · exact ⟨hno, (fun h => by cases h), hnd⟩
        · split
          · rename_i h5; exact ⟨hno, (fun h => absurd h h5), hnd⟩
          · split
            · rename_i h6
              refine ⟨rd6_ok _ _ hok, fun _ => h6, ?_⟩
              have := body4_data (parse4 s).1
              rw [hbody] at this
              show (parse4 s).1.data.length ≤ 1500
              omega
            · exact ⟨hno, (fun h => by cases h), hnd⟩
def inS (s : List UInt8) (a : Int) (b : Bool) : List UInt8 := if b = true ∧ sealOk (s.take 200) (a % 32) = true then sealS (s.take 200) (a % 32) else s.take 200
theorem sealS_len (s : List UInt8) (a : Int) (h : sealOk s a = true) : (sealS s a).length = s.length := by
  have h2 := of_decide_eq_true h
  unfold sealS
  rw [if_pos h, sealB_len, List.length_take, List.length_drop]
  omega
theorem q_parses_tail (S : List UInt8) (hS : S.length ≤ 200) : ∃ m : M6, ∃ e : Int, m = (parse6 S).1 ∧ e = (parse6 S).2 := ⟨_, _, rfl, rfl⟩
set_option maxRecDepth 100000 in
set_option maxHeartbeats 8000000 in
theorem q_parses6 (s : List UInt8) (a : Int) (b : Bool) (hl : s.length ≤ maxLen) : Spec Tryz.prog 3 [.ca (.val (vs s)), .ca (.val (vi a)), .ca (.val (vb b))] [] (.ca (.val (vb true))) [] := by
  have c1 := q_cut s 200 hl (by decide)
  rw [show (200 : Int).toNat = 200 from rfl] at c1
  have hz : (s.take 200).length ≤ 200 := by rw [List.length_take]; omega
  have c2 := crc_seal (s.take 200) (a % 32) (by omega)
  have hsl := sealS_len (s.take 200) (a % 32)
  have fin : ∀ S : List UInt8, S.length ≤ 200 → True := fun _ _ => trivial
  obtain ⟨S, hS⟩ : ∃ S, S = inS s a b := ⟨_, rfl⟩
  have hSl : S.length ≤ 200 := by
    rw [hS]; unfold inS
    split
    · rename_i h; rw [hsl h.2]; exact hz
    · exact hz
  have c3 := media_parse S (by omega)
  have c4 := ref_parse6 S (by omega)
  obtain ⟨mo, mp, md⟩ := parse6_ok S (by omega)
  have c5 := law_told6 (parse6 S).1 mo
  have c6 := media_pack (parse6 S).1 mo (by unfold maxLen; omega)
  generalize parse6 S = R at *
  obtain ⟨m, e⟩ := R
  dsimp only at *
  generalize pack6 m = P at *
  unfold inS at hS
  generalize sealS (s.take 200) (a % 32) = T at *
  generalize sealOk (s.take 200) (a % 32) = o at *
  generalize s.take 200 = s2 at *
  obtain ⟨sr, sq, tm, pa, ps, ix, ct, da⟩ := m
  clear mo md hsl fin
  by_cases he : e = 0
  · have hP := mp he
    subst hP
    have hb : (P == P) = true := beq_self_eq_true P
    cases b
    all_goals cases o
    all_goals simp only [Bool.false_eq_true, false_and, and_false, and_self, if_true, if_false] at hS
    all_goals subst hS
    all_goals refine spec_of Tryz.func3 rfl Tryz.ntmps3 Tryz.results3 ⟨by decide, by simp⟩ fun C hC => ?_
    all_goals (repeat' ((first | refine aw_seq ?_ | refine aw_block ?_ | refine aw_reg hC (by kernel_rfl) ?_ | refine aw_regd hC Tryz.checked.mixed (by kernel_rfl) ?_ | refine chk_and (by kernel_rfl) ?_ | refine aw_skip ?_ | refine aw_if ?_ | refine And.intro (by first | omega | with_reducible assumption) ?_ | refine aw_exit ?_ | refine aw_ret ?_ | (simp (decide := true) (disch := omega) only [go_sem, ↓reduceIte, ↓put_at]) | refine call_u Tryz.call4 (law_awake6) [] (by simp (decide := true) (disch := omega) only [go_sem, ↓reduceIte, ↓put_at]; first | done | assumption | omega) ?_ | refine call_u Tryz.call5 (c1) [] (by simp (decide := true) (disch := omega) only [go_sem, ↓reduceIte, ↓put_at]; first | done | assumption | omega) ?_ | refine call_u Tryz.call6 (c2) [] (by simp (decide := true) (disch := omega) only [go_sem, ↓reduceIte, ↓put_at]; first | done | assumption | omega) ?_ | refine call_u Tryz.call7 (c3) [] (by simp (decide := true) (disch := omega) only [go_sem, ↓reduceIte, ↓put_at]; first | done | assumption | omega) ?_ | refine call_u Tryz.call8 (c4) [] (by simp (decide := true) (disch := omega) only [go_sem, ↓reduceIte, ↓put_at]; first | done | assumption | omega) ?_ | refine call_u Tryz.call9 (c5) [] (by simp (decide := true) (disch := omega) only [go_sem, ↓reduceIte, ↓put_at]; first | done | assumption | omega) ?_ | refine condK_eq (fun h => ?_) (fun h => ?_) | refine condK_dec (fun h => ?_) (fun h => ?_) | refine condK_if (fun h => ?_) (fun h => ?_) | (refine ret_s [] ?_; simp (decide := true) (disch := omega) only [go_sem, ↓reduceIte, ↓put_at]))))
    all_goals refine gcmpA_s _ _ _ (.inl rfl) (by simp (decide := true) (disch := omega) only [go_sem, ↓reduceIte, ↓put_at]) (by simp (decide := true) (disch := omega) only [go_sem, ↓reduceIte, ↓put_at]) (by simp (decide := true) (disch := omega) only [go_sem, ↓reduceIte, ↓put_at]) (by kernel_rfl) (eqr6_ sr sr sq sq tm tm pa pa ps ps ix ix ct ct da da) ?_
    all_goals simp only [and_self, decide_true]
    all_goals (repeat' ((first | refine aw_seq ?_ | refine aw_block ?_ | refine aw_reg hC (by kernel_rfl) ?_ | refine aw_regd hC Tryz.checked.mixed (by kernel_rfl) ?_ | refine chk_and (by kernel_rfl) ?_ | refine aw_skip ?_ | refine aw_if ?_ | refine And.intro (by first | omega | with_reducible assumption) ?_ | refine aw_exit ?_ | refine aw_ret ?_ | (simp (decide := true) (disch := omega) only [go_sem, ↓reduceIte, ↓put_at]) | refine call_u Tryz.call10 (c6) [] (by simp (decide := true) (disch := omega) only [go_sem, ↓reduceIte, ↓put_at]; first | done | assumption | omega) ?_ | refine condK_eq (fun h => ?_) (fun h => ?_) | refine condK_dec (fun h => ?_) (fun h => ?_) | refine condK_if (fun h => ?_) (fun h => ?_) | (refine ret_s [] ?_; simp (decide := true) (disch := omega) only [go_sem, ↓reduceIte, ↓put_at]))))
    all_goals simp only [hb]
    all_goals (repeat' ((first | refine aw_seq ?_ | refine aw_block ?_ | refine aw_reg hC (by kernel_rfl) ?_ | refine aw_regd hC Tryz.checked.mixed (by kernel_rfl) ?_ | refine chk_and (by kernel_rfl) ?_ | refine aw_skip ?_ | refine aw_if ?_ | refine And.intro (by first | omega | with_reducible assumption) ?_ | refine aw_exit ?_ | refine aw_ret ?_ | (simp (decide := true) (disch := omega) only [go_sem, ↓reduceIte, ↓put_at]) | refine condK_eq (fun h => ?_) (fun h => ?_) | refine condK_dec (fun h => ?_) (fun h => ?_) | refine condK_if (fun h => ?_) (fun h => ?_) | (refine ret_s [] ?_; simp (decide := true) (disch := omega) only [go_sem, ↓reduceIte, ↓put_at]))))
  · cases b
    all_goals cases o
    all_goals simp only [Bool.false_eq_true, false_and, and_false, and_self, if_true, if_false] at hS
    all_goals subst hS
    all_goals refine spec_of Tryz.func3 rfl Tryz.ntmps3 Tryz.results3 ⟨by decide, by simp⟩ fun C hC => ?_
    all_goals (repeat' ((first | refine aw_seq ?_ | refine aw_block ?_ | refine aw_reg hC (by kernel_rfl) ?_ | refine aw_regd hC Tryz.checked.mixed (by kernel_rfl) ?_ | refine chk_and (by kernel_rfl) ?_ | refine aw_skip ?_ | refine aw_if ?_ | refine And.intro (by first | omega | with_reducible assumption) ?_ | refine aw_exit ?_ | refine aw_ret ?_ | (simp (decide := true) (disch := omega) only [go_sem, ↓reduceIte, ↓put_at]) | refine call_u Tryz.call4 (law_awake6) [] (by simp (decide := true) (disch := omega) only [go_sem, ↓reduceIte, ↓put_at]; first | done | assumption | omega) ?_ | refine call_u Tryz.call5 (c1) [] (by simp (decide := true) (disch := omega) only [go_sem, ↓reduceIte, ↓put_at]; first | done | assumption | omega) ?_ | refine call_u Tryz.call6 (c2) [] (by simp (decide := true) (disch := omega) only [go_sem, ↓reduceIte, ↓put_at]; first | done | assumption | omega) ?_ | refine call_u Tryz.call7 (c3) [] (by simp (decide := true) (disch := omega) only [go_sem, ↓reduceIte, ↓put_at]; first | done | assumption | omega) ?_ | refine call_u Tryz.call8 (c4) [] (by simp (decide := true) (disch := omega) only [go_sem, ↓reduceIte, ↓put_at]; first | done | assumption | omega) ?_ | refine call_u Tryz.call9 (c5) [] (by simp (decide := true) (disch := omega) only [go_sem, ↓reduceIte, ↓put_at]; first | done | assumption | omega) ?_ | refine condK_eq (fun h => ?_) (fun h => ?_) | refine condK_dec (fun h => ?_) (fun h => ?_) | refine condK_if (fun h => ?_) (fun h => ?_) | (refine ret_s [] ?_; simp (decide := true) (disch := omega) only [go_sem, ↓reduceIte, ↓put_at]))))
    all_goals refine gcmpA_s _ _ _ (.inl rfl) (by simp (decide := true) (disch := omega) only [go_sem, ↓reduceIte, ↓put_at]) (by simp (decide := true) (disch := omega) only [go_sem, ↓reduceIte, ↓put_at]) (by simp (decide := true) (disch := omega) only [go_sem, ↓reduceIte, ↓put_at]) (by kernel_rfl) (eqr6_ sr sr sq sq tm tm pa pa ps ps ix ix ct ct da da) ?_
    all_goals simp only [and_self, decide_true]
    all_goals (repeat' ((first | refine aw_seq ?_ | refine aw_block ?_ | refine aw_reg hC (by kernel_rfl) ?_ | refine aw_regd hC Tryz.checked.mixed (by kernel_rfl) ?_ | refine chk_and (by kernel_rfl) ?_ | refine aw_skip ?_ | refine aw_if ?_ | refine And.intro (by first | omega | with_reducible assumption) ?_ | refine aw_exit ?_ | refine aw_ret ?_ | (simp (decide := true) (disch := omega) only [go_sem, ↓reduceIte, ↓put_at]) | refine call_u Tryz.call10 (c6) [] (by simp (decide := true) (disch := omega) only [go_sem, ↓reduceIte, ↓put_at]; first | done | assumption | omega) ?_ | refine condK_eq (fun h => ?_) (fun h => ?_) | refine condK_dec (fun h => ?_) (fun h => ?_) | refine condK_if (fun h => ?_) (fun h => ?_) | (refine ret_s [] ?_; simp (decide := true) (disch := omega) only [go_sem, ↓reduceIte, ↓put_at]))))
end Go.Proofs.YtojcjbaimdjhoaaGreatDoor
