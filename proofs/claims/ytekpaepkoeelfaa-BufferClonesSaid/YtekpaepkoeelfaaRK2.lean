
/- A slice of texts made with make. -/
import Derived.Test.YtekpaepkoeelfaaRB
import Derived.Test.YtekpaepkoeelfaaRP
namespace Go.Proofs.Ytekpaepkoeelfaa
open Go.RowKit
set_option linter.unusedVariables false
set_option linter.unusedSimpArgs false

section
variable {P : Program} {ops : Array Oper} {C : Ctx} {E : Env} {σ : St} {a : Act} {w : World} {md : Bool} {K : St → List FP → Prop} {acc : List FP} {rest : List Oper}
theorem ok_mkS16 {d : Tmp} {t e : TypeId} {x y : Operand} {n : Nat} {z : Value} (hx : ev σ x = .val (.sc (.int .i64 n))) (hy : ev σ y = .val (.sc (.int .i64 n))) (hn : n ≤ 16777216) (ht : P.underlying t = some (.slice e))
    (hi1 : (P.info? e).map (fun i => (i.size, i.bytes)) = some (1, 16)) (hi2 : (P.info? e).bind (·.zero) = some z) (hz : z.cells = #[z]) :
    StOk P C σ (some d) (.makeSlice t x y) (some (True, .q (d, 0) :: (rdl x ++ rdl y), [(.q (d, 0), .num (gq σ (d, 0) + 1)), (.k (d, 0), .row e 1 n)] ++ [(.s d, .av (.own (d, 0) (gq σ (d, 0) + 1) e 1 (List.replicate n [.sc z])))])) := by
  obtain ⟨G, hG⟩ : ∃ G, gq σ (d, 0) = G := ⟨_, rfl⟩
  rw [hG]
  refine ok_value (W0 := [(.q (d, 0), .num (G + 1)), (.k (d, 0), .row e 1 n)]) fun _ ty pos af E σ' a w hr hg hd => ?_
  have hr1 : ∀ l ∈ rdl x, σ' l = σ l := fun l hl => hr l (List.mem_cons_of_mem _ (List.mem_append_left _ hl))
  have hr2 : ∀ l ∈ rdl y, σ' l = σ l := fun l hl => hr l (List.mem_cons_of_mem _ (List.mem_append_right _ hl))
  have hq := hr (.q (d, 0)) (by simp)
  have vx : a.eval x = .int .i64 n := by
    have := ev_ok hg x
    rw [ev_congr hr1, hx] at this
    exact Rd.sc_eq this
  have vy : a.eval y = .int .i64 n := by
    have := ev_ok hg y
    rw [ev_congr hr2, hy] at this
    exact Rd.sc_eq this
  cases hinfo : P.info? e with
  | none => rw [hinfo] at hi1; cases hi1
  | some i =>
    rw [hinfo] at hi1 hi2
    simp only [Option.map_some, Option.some.injEq, Prod.mk.injEq] at hi1
    simp only [Option.bind_some] at hi2
    obtain ⟨w', hrun, hown, hgr⟩ := run_make_full (P := P) (w := w) 0 t e i z 1 ht hinfo hi2 hi1.1 .i64 .i64 n (by rw [hi1.2]; omega) (by unfold maxLen; omega) (Nat.zero_le _)
    have hcells : (madeCells z.cells (n * 1)).toList = List.replicate n z := by
      apply List.ext_getElem
      · simp [madeCells]
      · intro j h1 h2
        simp only [madeCells, hz]
        simp [Nat.mod_one]
    rw [hcells] at hown
    have hch : Chg (fun b => (Value.slice (some ⟨w.heap.size, 0, none⟩) n n).ownBlock = some b) w w' := by
      have hr := run_makeSlice (P := P) w t e i z ht hinfo hi2 .i64 .i64 n n (by omega) (Int.le_refl _) (by rw [hi1.1]; omega) (by rw [hi1.2]; omega) (by omega)
      rw [hrun] at hr
      injection hr with _ hw
      rw [hw]
      exact (Chg.refl _ _).alloc _
    obtain ⟨E', g1, g2, _, g3, g4, g5⟩ := hg.row (d, 0) G (G + 1) (by rw [gq_of hq]; exact hG) e 1 n (.slice (some ⟨w.heap.size, 0, none⟩) n n) w' (List.replicate n z) (.inr rfl)
      (fun b hb => .inl (by cases hb; exact Nat.le_refl _)) hown hch
    refine ⟨_, w', E', ?_, g1, g5 (List.replicate n [.sc z]) (by simp) (rd_row hown (by simp) (fun i hi => by simp) g3 (fun i j hi hj => ?_))⟩
    · simp only [execOp, vx, vy, Sem.run_bind, hrun, Result.andThen_ok, Sem.run_pure]
    · simp only [List.length_replicate] at hi
      simp only [List.getElem_replicate, List.length_cons, List.length_nil] at hj ⊢
      obtain rfl : j = 0 := by omega
      exact ⟨z, by simp [hi], by simp; exact Rd.sc z⟩
theorem mkS16_s {d : Tmp} {t e : TypeId} {x y : Operand} {ty : TypeId} {pos : String} {af : Array Edge} (n : Nat) (z : Value) (hx : ev σ x = .val (.sc (.int .i64 n))) (hy : ev σ y = .val (.sc (.int .i64 n))) (hn : n ≤ 16777216) (ht : P.underlying t = some (.slice e))
    (hi1 : (P.info? e).map (fun i => (i.size, i.bytes)) = some (1, 16)) (hi2 : (P.info? e).bind (·.zero) = some z) (hz : z.cells = #[z])
    (k : exec P ops C md K rest (puts σ [(.q (d, 0), .num (gq σ (d, 0) + 1)), (.k (d, 0), .row e 1 n), (.s d, .av (.own (d, 0) (gq σ (d, 0) + 1) e 1 (List.replicate n [.sc z])))]) ((.q (d, 0) :: (rdl x ++ rdl y), [.q (d, 0), .k (d, 0), .s d]) :: acc)) :
    Run P ops C md K (⟨some d, .makeSlice t x y, ty, pos, af, none⟩ :: rest) σ acc :=
  run_any (ok_mkS16 hx hy hn ht hi1 hi2 hz) rfl trivial k
end
end Go.Proofs.Ytekpaepkoeelfaa
