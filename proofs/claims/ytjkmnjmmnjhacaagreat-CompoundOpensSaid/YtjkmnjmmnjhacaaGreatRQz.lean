/- The reference's reader of names. -/
import Derived.Test.YtjkmnjmmnjhacaaGreatNotesSz
import Derived.Test.YtjkmnjmmnjhacaaGreatNotesRz
import Derived.Test.YtjkmnjmmnjhacaaGreatRPz
namespace Go.Proofs.YtjkmnjmmnjhacaaGreat
open Go.RowKit
set_option linter.unusedVariables false
set_option linter.unusedSimpArgs false

theorem zer_els (k : Nat) : (zer k).map byteEl = List.replicate k [V.sc (.int .u8 0)] := by
  unfold zer
  rw [List.map_replicate]
  rfl
set_option maxRecDepth 100000 in
set_option maxHeartbeats 8000000 in
theorem ref_tonames9 (p : Pc) (hp : p.2.2.length ≤ 100000) : Spec Tryz.prog 49 [.ca (.val (pcV p))] [] (.ca (.val (.tup [.lst 2 ((namesR p).map zn9El), vi (namesE p)]))) [] := by
  rw [(namesE_ref p (by unfold maxLen; omega)).1, (namesE_ref p (by unfold maxLen; omega)).2]
  obtain ⟨E, hE⟩ : ∃ E, E = refNE p := ⟨_, rfl⟩
  obtain ⟨R, hR⟩ : ∃ R, R = refNR p := ⟨_, rfl⟩
  rw [← hE, ← hR]
  unfold refNR at hR
  rw [← hE] at hR
  unfold refNE at hE
  obtain ⟨n, k, b⟩ := p
  dsimp only at hp hE hR
  by_cases hk : k = 202
  · rw [if_neg (by simpa using hk)] at hE
    obtain ⟨S, hS⟩ : ∃ S, S = strN b.length b [] := ⟨_, rfl⟩
    rw [← hS] at hE hR
    have hnone : S = none → E = 1 ∧ R = [] := fun h => by
      subst h
      dsimp only at hE
      subst hE
      exact ⟨rfl, by rw [hR, if_neg (by decide)]⟩
    refine spec_of Tryz.func49 rfl Tryz.ntmps49 Tryz.results49 ⟨by decide, by simp⟩ fun C hC => ?_
    (repeat (first | refine sp_ ?_ | exact ex0))
    refine loop_s (α := {x : List UInt8 × List N9 // x.1.length + x.2.length ≤ b.length ∧ strN x.1.length x.1 x.2 = S}) (fun x => [(.s 1, .av (.ptr (1, 0) 0 0)), (.o (1, 0), .num 3), (.c (1, 0) 0, .av (.val (vi n))), (.c (1, 0) 1, .av (.val (vi k))), (.c (1, 0) 2, .av (.val (vs b))), (.s 2, .av (.val (.sc (.slice none 0 0)))), (.s 3, .av (.val (vi 0))), (.s 4, .av (.own (12, 0) 0 174 2 (x.1.2.map zn9El))), (.k (12, 0), .row 174 2 x.1.2.length), (.s 5, .av (.val (vs x.1.1)))]) (fun x => x.1.1.length) ⟨(b, []), by simp, hS.symm⟩ ?_ (fun x => ?_)
    · simp only [List.map_nil]
      simp (decide := true) (disch := omega) only [go_sem, ↓reduceIte, ↓put_at]
      rfl
    · obtain ⟨⟨s, acc⟩, hx1, hx2⟩ := x
      dsimp only at hx1 hx2 ⊢
      by_cases hs : s = []
      · have hSa : S = some acc := by rw [← hx2, hs]; rfl
        rw [hSa] at hE hR
        dsimp only [Option.getD_some] at hE hR
        have hb : (s == []) = true := by simpa using hs
        by_cases hc : (acc.length : Int) = n
        · by_cases h31 : acc.length ≤ 31
          · rw [if_pos ⟨hc, h31⟩] at hE
            clear hnone
            subst hE
            rw [if_pos rfl] at hR
            subst hR
            (repeat (first | refine sp_ ?_ | exact ex0))
            simp only [hb]
            (repeat (first | refine sp_ ?_ | exact ex0))
            (refine ret_s [] ?_; simp (decide := true) (disch := omega) only [go_sem, ↓reduceIte, ↓put_at])
          · rw [if_neg (fun h => h31 h.2)] at hE
            clear hnone
            subst hE
            rw [if_neg (by decide)] at hR
            subst hR
            (repeat (first | refine sp_ ?_ | exact ex0))
            simp only [hb]
            (repeat (first | refine sp_ ?_ | exact ex0))
            (refine ret_s [] ?_; simp (decide := true) (disch := omega) only [go_sem, ↓reduceIte, ↓put_at])
        · rw [if_neg (fun h => hc h.1)] at hE
          clear hnone
          subst hE
          rw [if_neg (by decide)] at hR
          subst hR
          (repeat (first | refine sp_ ?_ | exact ex0))
          simp only [hb]
          (repeat (first | refine sp_ ?_ | exact ex0))
          (refine ret_s [] ?_; simp (decide := true) (disch := omega) only [go_sem, ↓reduceIte, ↓put_at])
      have hb : (s == []) = false := by simpa using hs
      have hbad : ¬ okN s → E = 1 ∧ R = [] := fun h => hnone (by rw [← hx2, strN_bad s acc hs h])
      by_cases h8 : s.length < 8
      · obtain ⟨rfl, rfl⟩ := hbad (fun h => by have := h.1; omega)
        clear hE hR hnone hbad
        (repeat (first | refine sp_ ?_ | exact ex0))
        simp only [hb]
        (repeat (first | refine sp_ ?_ | exact ex0))
        (refine ret_s [] ?_; simp (decide := true) (disch := omega) only [go_sem, ↓reduceIte, ↓put_at])
      by_cases h4 : s.getD 4 0 = 1
      · have h4n : (s.getD 4 0).toNat = 1 := by rw [h4]; rfl
        have hv5 : (s.getD 5 0).toNat < 256 := UInt8.toNat_lt _
        obtain ⟨v, hv⟩ : ∃ v, v = (s.getD 5 0).toNat := ⟨_, rfl⟩
        rw [← hv] at hv5
        have hmn : min (s.length : Int) 6 = 6 := by omega
        have hD : (s.take 6 ++ zer (v + 1)).length = 7 + v := by rw [List.length_append, zer_len, List.length_take]; omega
        have hend : (fillB (s.take 6 ++ zer (v + 1))).length = endN v := by
          unfold fillB endN
          rw [List.length_append, hD, zer_len]
          unfold padN
          omega
        have c1 := ref_fill (s.take 6 ++ zer (v + 1)) (by omega)
        obtain ⟨F, hF⟩ : ∃ F, F = fillB (s.take 6 ++ zer (v + 1)) := ⟨_, rfl⟩
        rw [← hF] at c1 hend
        have hel : endN v ≤ 300 := by unfold endN padN; omega
        (repeat (first | refine sp_ ?_ | exact ex0))
        simp only [hb]
        (repeat (first | refine sp_ ?_ | exact ex0))
        rw [h4n]
        (repeat (first | refine sp_ ?_ | exact ex0))
        rw [← hv]
        (repeat (first | refine sp_ ?_ | exact ex0))
        refine mkS_s (v + 1) (.int .u8 0) (by simp (decide := true) (disch := omega) only [go_sem, ↓reduceIte, ↓put_at]) (by simp (decide := true) (disch := omega) only [go_sem, ↓reduceIte, ↓put_at]) (by omega) Tryz.underlying101 (by kernel_rfl) (by kernel_rfl) rfl ?_
        (repeat (first | refine sp_ ?_ | exact ex0))
        refine convBS_s (zer (v + 1)) (by rw [zer_els]; simp (decide := true) (disch := omega) only [go_sem, ↓reduceIte, ↓put_at]) (by simp (decide := true) (disch := omega) only [go_sem, ↓reduceIte, ↓put_at]) (by simp (decide := true) (disch := omega) only [go_sem, ↓reduceIte, ↓put_at]) ?_
        (repeat (first | refine sp_ ?_ | exact ex0))
        refine ⟨by rw [List.length_append] at hD; omega, ?_⟩
        (repeat (first | refine sp_ ?_ | exact ex0))
        refine call_s Tryz.call81 c1 [] ?_
        by_cases hv0 : v = 0
        · obtain ⟨rfl, rfl⟩ := hbad (fun h => h.2.2.1 (by omega))
          clear hE hR hnone hbad
          (repeat (first | refine sp_ ?_ | exact ex0))
          (refine ret_s [] ?_; simp (decide := true) (disch := omega) only [go_sem, ↓reduceIte, ↓put_at])
        by_cases hee : s.length < endN v
        · obtain ⟨rfl, rfl⟩ := hbad (fun h => by have := h.2.2.2.1; rw [← hv] at this; omega)
          clear hE hR hnone hbad
          (repeat (first | refine sp_ ?_ | exact ex0))
          (refine ret_s [] ?_; simp (decide := true) (disch := omega) only [go_sem, ↓reduceIte, ↓put_at])
        have hend6 : 6 + v < endN v := by unfold endN padN; omega
        (repeat (first | refine sp_ ?_ | exact ex0))
        refine loop_s (α := {i : Nat // (6 + v ≤ i ∧ i ≤ endN v) ∧ ∀ q, q < i → 6 + v ≤ q → s.getD q 0 = 0}) (fun i => [(.s 1, .av (.ptr (1, 0) 0 0)), (.o (1, 0), .num 3), (.c (1, 0) 0, .av (.val (vi n))), (.c (1, 0) 1, .av (.val (vi k))), (.c (1, 0) 2, .av (.val (vs b))), (.s 2, .av (.val (.sc (.slice none 0 0)))), (.s 3, .av (.val (vi 0))), (.s 4, .av (.own (12, 0) 0 174 2 (acc.map zn9El))), (.k (12, 0), .row 174 2 acc.length), (.s 5, .av (.val (vs s))), (.s 6, .av (.val (vi v))), (.s 7, .av (.val (vi (endN v)))), (.s 8, .av (.val (vi i.1)))]) (fun i => endN v - i.1) ⟨6 + v, ⟨Nat.le_refl _, by omega⟩, fun q h1 h2 => by omega⟩ ?_ (fun i => ?_)
        · simp (decide := true) (disch := omega) only [go_sem, ↓reduceIte, ↓put_at]
          exact ⟨by rw [hend], by omega⟩
        · obtain ⟨i, ⟨hi1, hi2⟩, hiz⟩ := i
          dsimp only at hi1 hi2 hiz ⊢
          by_cases hil : i < endN v
          · by_cases hz : s.getD i 0 = 0
            · have hzn : (s.getD i 0).toNat = 0 := by rw [hz]; rfl
              (repeat (first | refine sp_ ?_ | exact ex0))
              rw [hzn]
              (repeat (first | refine sp_ ?_ | exact ex0))
              refine next_s ⟨i + 1, ⟨by omega, hil⟩, fun q h1 h2 => by
                rcases Nat.lt_succ_iff_lt_or_eq.1 h1 with h | rfl
                · exact hiz q h h2
                · exact hz⟩ ⟨?_, by dsimp only; omega⟩
              simp (decide := true) (disch := omega) only [go_sem, ↓reduceIte, ↓put_at]
            · have hzn : (s.getD i 0).toNat ≠ 0 := fun h => hz (by apply UInt8.toNat_inj.1; rw [h]; rfl)
              obtain ⟨rfl, rfl⟩ := hbad (fun h => hz (h.2.2.2.2 i (by rw [← hv]; exact hil) (by rw [← hv]; exact hi1)))
              clear hE hR hnone hbad
              (repeat (first | refine sp_ ?_ | exact ex0))
              (refine ret_s [] ?_; simp (decide := true) (disch := omega) only [go_sem, ↓reduceIte, ↓put_at])
          · have hie : i = endN v := by omega
            subst hie
            have hok : okN s := ⟨by omega, h4, by rw [← hv]; exact hv0, by rw [← hv]; omega, fun q h1 h2 => by rw [← hv] at h1 h2; exact hiz q h1 h2⟩
            have hst := strN_step s acc hs hok
            rw [← hv] at hst
            have c2 := q_get (s.take 4) (by rw [List.length_take]; omega)
            have ev6 : (6 + (v : Int)).toNat = 6 + v := by omega
            have hit : itemN s = ⟨getN (s.take 4), (s.drop 6).take v⟩ := by unfold itemN; rw [← hv]
            have hdl : (s.drop (endN v)).length = s.length - endN v := List.length_drop
            have hal : (acc ++ [itemN s]).length = acc.length + 1 := by simp
            have hx3 : (s.drop (endN v)).length + (acc ++ [itemN s]).length ≤ b.length := by omega
            have hx4 : (s.drop (endN v)).length < s.length := by omega
            (repeat (first | refine sp_ ?_ | exact ex0))
            refine call_s Tryz.call74 c2 [] ?_
            (repeat (first | refine sp_ ?_ | exact ex0))
            refine next_s ⟨(s.drop (endN v), acc ++ [itemN s]), hx3, hst.symm.trans hx2⟩ ⟨?_, by dsimp only; exact hx4⟩
            dsimp only
            rw [hit]
            simp (decide := true) (disch := omega) only [go_sem, ↓reduceIte, ↓put_at]
            rw [List.map_append, ev6, Nat.add_sub_cancel_left]
            rfl
      · obtain ⟨rfl, rfl⟩ := hbad (fun h => h4 h.2.1)
        clear hE hR hnone hbad
        have h4n : (s.getD 4 0).toNat ≠ 1 := fun h => h4 (by apply UInt8.toNat_inj.1; rw [h]; rfl)
        (repeat (first | refine sp_ ?_ | exact ex0))
        simp only [hb]
        (repeat (first | refine sp_ ?_ | exact ex0))
        (refine ret_s [] ?_; simp (decide := true) (disch := omega) only [go_sem, ↓reduceIte, ↓put_at])
  · rw [if_pos hk] at hE
    subst hE
    rw [if_neg (by decide)] at hR
    subst hR
    refine spec_of Tryz.func49 rfl Tryz.ntmps49 Tryz.results49 ⟨by decide, by simp⟩ fun C hC => ?_
    (repeat (first | refine sp_ ?_ | exact ex0))
    (refine ret_s [] ?_; simp (decide := true) (disch := omega) only [go_sem, ↓reduceIte, ↓put_at])
end Go.Proofs.YtjkmnjmmnjhacaaGreat

namespace Go.Proofs.YtjkmnjmmnjhacaaGreat
open Go.RowKit
set_option linter.unusedVariables false
set_option linter.unusedSimpArgs false

theorem namesR_ok (p : Pc) (hp : p.2.2.length ≤ maxLen) : (∀ a ∈ namesR p, a.Ok) ∧ (namesR p).length ≤ 100000 := by
  unfold namesR
  have hlen : ∀ f x acc, (runN f x acc).length ≤ acc.length + f := by
    intro f
    induction f with
    | zero => intro x acc; simp [runN]
    | succ f ih =>
      intro x acc
      unfold runN
      split
      · omega
      · have := ih (nxN x) (acc ++ [rdN x])
        simp only [List.length_append, List.length_cons, List.length_nil] at this
        omega
  split
  · exact ⟨rawN_ok 32 (p.2.2, 0) [] hp (fun a h => by simp at h), by have := hlen 32 (p.2.2, 0) []; unfold rawN; simp only [List.length_nil] at this; omega⟩
  · exact ⟨fun a h => by simp at h, by simp⟩
theorem byeR_ok (p : Pc) (hp : p.2.2.length ≤ maxLen) : (byeR p).Ok ∧ (byeR p).srcs.length ≤ 100000 := by
  unfold byeR
  split
  · refine ⟨rawY_ok p hp, ?_⟩
    unfold rawY
    dsimp only
    rw [rdWs_len]
    unfold cnt32
    omega
  · exact ⟨⟨by simp, by simp, fun n h => by simp at h⟩, by simp⟩
theorem appR_ok (p : Pc) : 0 ≤ (appR p).src ∧ (appR p).src < 4294967296 := by
  unfold appR
  split
  · exact vl_lt 4 4294967296 _ (by decide)
  · exact ⟨by decide, by decide⟩
end Go.Proofs.YtjkmnjmmnjhacaaGreat

namespace Go.Proofs.YtjkmnjmmnjhacaaGreat
open Go.RowKit
set_option linter.unusedVariables false
set_option linter.unusedSimpArgs false

section
variable {P : Program} {ops : Array Oper} {C : Ctx} {E : Env} {σ : St} {a : Act} {w : World} {md : Bool} {K : St → List FP → Prop} {acc : List FP} {rest : List Oper} {Q : Exit → St → Prop}
theorem ok_taN2 {d : Tmp} {x : Operand} {xt at' : TypeId} (hc : concr P at' = true) (hx : missI at' (ev σ x)) (hz0 : (zeroOf P at').isSome = true) :
    StOk P C σ (some d) (.typeAssert x xt at' true) (some (True, rdl x, [(.s d, .av (.val (.tup [.any, .sc (.bool false)])))])) := by
  obtain ⟨z, hz⟩ := Option.isSome_iff_exists.1 hz0
  refine ok_pure fun _ ty pos af E σ' a w hr hg => ?_
  have h := ev_ok hg x
  rw [ev_congr hr] at h
  obtain ⟨dd, h1, h2⟩ := concr_some hc
  have hzr : (zeroValue at').run P w = .ok z w := by
    unfold zeroOf at hz
    obtain ⟨i, hi, hz⟩ := Option.bind_eq_some_iff.1 hz
    simp [zeroValue, typeInfo, hi, hz]
  refine ⟨.tuple #[z, .bool false], ?_, .tup _ _ rfl fun i hi => ?_⟩
  · have key : ∀ v, (v = .nilIface ∨ ∃ t u, v = .iface t u ∧ t ≠ at') → (Instr.typeAssert v xt at' true).run P w = .ok (.tuple #[z, .bool false]) w := fun v hv => by
      unfold Instr.typeAssert
      simp only [Sem.run_bind, run_underlying h1, Result.andThen_ok]
      rcases hv with rfl | ⟨t, u, rfl, hne⟩ <;> cases dd <;> first | exact absurd rfl (h2 _) | (simp [hzr, hne]; done) | (simp [hzr]; done)
    have hv : a.eval x = .nilIface ∨ ∃ t u, a.eval x = .iface t u ∧ t ≠ at' := by
      cases he : ev σ x with
      | val X =>
        rw [he] at h hx
        cases X with
        | sc u => exact .inl ((Rd.sc_eq h).trans hx)
        | ifc t y =>
          have h : Rd E.m (.ifc t y) (a.eval x) := h
          generalize a.eval x = v at h
          cases h with
          | ifc _ _ u hu => exact .inr ⟨t, u, rfl, hx⟩
        | _ => exact hx.elim
      | _ => rw [he] at hx; exact hx.elim
    simp [execOp, key _ hv]
  · have : i = 0 ∨ i = 1 := by simp at hi; omega
    rcases this with rfl | rfl
    · exact Rd.any _
    · exact Rd.sc _
theorem taN2_s {d : Tmp} {x : Operand} {xt at' : TypeId} {ty : TypeId} {pos : String} {af : Array Edge} (hc : concr P at' = true) (hx : missI at' (ev σ x)) (hz : (zeroOf P at').isSome = true)
    (k : exec P ops C md K rest (put σ (.s d) (.av (.val (.tup [.any, .sc (.bool false)])))) ((rdl x, [.s d]) :: acc)) : Run P ops C md K (⟨some d, .typeAssert x xt at' true, ty, pos, af, none⟩ :: rest) σ acc :=
  run_any (ok_taN2 hc hx hz) rfl trivial k
end
end Go.Proofs.YtjkmnjmmnjhacaaGreat

