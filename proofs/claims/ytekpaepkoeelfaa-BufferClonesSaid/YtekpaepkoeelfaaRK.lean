
/- Library functions of texts and numbers, by contracts of the shelf. Slices made with all their elements 0. A slice compared with nil. -/
import Derived.Test.YtekpaepkoeelfaaRH
import Derived.Laws.OwnMore
import Derived.Lib.SliceRun
import Derived.WalkSpells
namespace Go.Proofs.Ytekpaepkoeelfaa
open Go.RowKit
set_option linter.unusedVariables false
set_option linter.unusedSimpArgs false

theorem spec_lib {P : Program} {K : FuncId} {us : List Value} {u : Value} (h : ∀ w, Calls P K us.toArray w fun e w' => e = .returned u ∧ Below w.heap.size w w') :
    Spec P K (us.map fun v => .ca (.val (.sc v))) [] (.ca (.val (.sc u))) [] := by
  have : (us.map fun v => (Arg.ca (.val (.sc v)))) = (us.map V.sc).map fun x => .ca (.val x) := by simp
  rw [this]
  refine spec_vals fun m w vals hm hl hv => ?_
  have hv : vals = us := by
    apply List.ext_getElem (by simpa using hl)
    intro j h1 h2
    exact Rd.sc_eq (hv j (.sc us[j]) vals[j] (by rw [List.getElem?_map, List.getElem?_eq_getElem h2]; rfl) (List.getElem?_eq_getElem h1))
  subst hv
  refine (h w).mono ?_
  rintro e w' ⟨rfl, hb⟩
  have hc : Chg Nothing w w' := (Chg.ofBelow hb).mono fun i hi h => by omega
  exact ⟨u, m, rfl, Rd.sc u, Mem.le_refl m, fun b i v h1 => (hc.cell (World.block_lt_of_cell? w _ (hm b i v h1)) id).trans (hm b i v h1), hc, fun b i _ => rfl⟩
end Go.Proofs.Ytekpaepkoeelfaa
namespace Go.Proofs.Ytekpaepkoeelfaa
open Go.RowKit
set_option linter.unusedVariables false
set_option linter.unusedSimpArgs false

theorem nodup_len : ∀ (n : Nat) (s : List Nat), s.Nodup → (∀ i ∈ s, i < n) → s.length ≤ n
  | 0, s, _, h => by
    cases s with
    | nil => simp
    | cons a s => exact absurd (h a (by simp)) (by omega)
  | n + 1, s, hn, h => by
    by_cases hm : n ∈ s
    · have h1 := nodup_len n (s.erase n) (hn.erase n) (fun i hi => by
        have h2 := (hn.mem_erase_iff).1 hi
        have h3 := h i h2.2
        have h4 := h2.1
        omega)
      rw [List.length_erase_of_mem hm] at h1
      omega
    · have h1 := nodup_len n s hn (fun i hi => by
        have h2 := h i hi
        have h3 : i ≠ n := fun e => hm (e ▸ hi)
        omega)
      omega
theorem nodup_snoc {s : List Nat} {i : Nat} (hn : s.Nodup) (hi : i ∉ s) : (s ++ [i]).Nodup := List.nodup_append.2 ⟨hn, by simp, fun a ha b hb => by simp at hb; subst hb; exact fun e => hi (e ▸ ha)⟩
section
variable {P : Program} {ops : Array Oper} {C : Ctx} {md : Bool} {σ : St} {K : St → List FP → Prop} {acc : List FP} {rest : List Oper}
theorem ok_mkS {d : Tmp} {t e : TypeId} {x y : Operand} {n : Nat} {z : Value} (hx : ev σ x = .val (.sc (.int .i64 n))) (hy : ev σ y = .val (.sc (.int .i64 n))) (hn : n ≤ 16777216) (ht : P.underlying t = some (.slice e))
    (hi1 : (P.info? e).map (fun i => (i.size, i.bytes)) = some (1, 1)) (hi2 : (P.info? e).bind (·.zero) = some z) (hz : z.cells = #[z]) :
    StOk P C σ (some d) (.makeSlice t x y) (some (True, .q (d, 0) :: (rdl x ++ rdl y), [(.q (d, 0), .num (gq σ (d, 0) + 1)), (.k (d, 0), .row e 1 n)] ++ [(.s d, .av (.own (d, 0) (gq σ (d, 0) + 1) e 1 (List.replicate n [.sc z])))])) := by
  obtain ⟨G, hG⟩ : ∃ G, gq σ (d, 0) = G := ⟨_, rfl⟩
  rw [hG]
  refine ok_value (W0 := [(.q (d, 0), .num (G + 1)), (.k (d, 0), .row e 1 n)]) fun _ ty pos af E σ' a w hr hg hd => ?_
  have hr1 : ∀ l ∈ rdl x, σ' l = σ l := fun l hl => hr l (List.mem_cons_of_mem _ (List.mem_append_left _ hl))
  have hr2 : ∀ l ∈ rdl y, σ' l = σ l := fun l hl => hr l (List.mem_cons_of_mem _ (List.mem_append_right _ hl))
  have hq := hr (.q (d, 0)) (by simp)
  have vx : a.eval x = .int .i64 n := by
    have := ev_ok hg x
    rw [ev_congr hr1, hx] at this
    exact Rd.sc_eq this
  have vy : a.eval y = .int .i64 n := by
    have := ev_ok hg y
    rw [ev_congr hr2, hy] at this
    exact Rd.sc_eq this
  cases hinfo : P.info? e with
  | none => rw [hinfo] at hi1; cases hi1
  | some i =>
    rw [hinfo] at hi1 hi2
    simp only [Option.map_some, Option.some.injEq, Prod.mk.injEq] at hi1
    simp only [Option.bind_some] at hi2
    obtain ⟨w', hrun, hown, hgr⟩ := run_make_full (P := P) (w := w) 0 t e i z 1 ht hinfo hi2 hi1.1 .i64 .i64 n (by rw [hi1.2]; omega) (by unfold maxLen; omega) (Nat.zero_le _)
    have hcells : (madeCells z.cells (n * 1)).toList = List.replicate n z := by
      apply List.ext_getElem
      · simp [madeCells]
      · intro j h1 h2
        simp only [madeCells, hz]
        simp [Nat.mod_one]
    rw [hcells] at hown
    have hch : Chg (fun b => (Value.slice (some ⟨w.heap.size, 0, none⟩) n n).ownBlock = some b) w w' := by
      have hr := run_makeSlice (P := P) w t e i z ht hinfo hi2 .i64 .i64 n n (by omega) (Int.le_refl _) (by rw [hi1.1]; omega) (by rw [hi1.2]; omega) (by omega)
      rw [hrun] at hr
      injection hr with _ hw
      rw [hw]
      exact (Chg.refl _ _).alloc _
    obtain ⟨E', g1, g2, _, g3, g4, g5⟩ := hg.row (d, 0) G (G + 1) (by rw [gq_of hq]; exact hG) e 1 n (.slice (some ⟨w.heap.size, 0, none⟩) n n) w' (List.replicate n z) (.inr rfl)
      (fun b hb => .inl (by cases hb; exact Nat.le_refl _)) hown hch
    refine ⟨_, w', E', ?_, g1, g5 (List.replicate n [.sc z]) (by simp) (rd_row hown (by simp) (fun i hi => by simp) g3 (fun i j hi hj => ?_))⟩
    · simp only [execOp, vx, vy, Sem.run_bind, hrun, Result.andThen_ok, Sem.run_pure]
    · simp only [List.length_replicate] at hi
      simp only [List.getElem_replicate, List.length_cons, List.length_nil] at hj ⊢
      obtain rfl : j = 0 := by omega
      exact ⟨z, by simp [hi], by simp; exact Rd.sc z⟩
theorem stepU_mkS {d : Tmp} {t : TypeId} {x y : Operand} : stepU P σ (some d) (.makeSlice t x y) = none := rfl
attribute [go_sem] stepU_mkS
theorem mkS_s {d : Tmp} {t e : TypeId} {x y : Operand} {ty : TypeId} {pos : String} {af : Array Edge} (n : Nat) (z : Value) (hx : ev σ x = .val (.sc (.int .i64 n))) (hy : ev σ y = .val (.sc (.int .i64 n))) (hn : n ≤ 16777216) (ht : P.underlying t = some (.slice e))
    (hi1 : (P.info? e).map (fun i => (i.size, i.bytes)) = some (1, 1)) (hi2 : (P.info? e).bind (·.zero) = some z) (hz : z.cells = #[z])
    (k : exec P ops C md K rest (puts σ [(.q (d, 0), .num (gq σ (d, 0) + 1)), (.k (d, 0), .row e 1 n), (.s d, .av (.own (d, 0) (gq σ (d, 0) + 1) e 1 (List.replicate n [.sc z])))]) ((.q (d, 0) :: (rdl x ++ rdl y), [.q (d, 0), .k (d, 0), .s d]) :: acc)) :
    Run P ops C md K (⟨some d, .makeSlice t x y, ty, pos, af, none⟩ :: rest) σ acc :=
  run_any (ok_mkS hx hy hn ht hi1 hi2 hz) rfl trivial k
/-- What comes next in a map: names of the iterator and of the map, what was met, what the map holds. -/
theorem nxt_s {d : Tmp} {x : Operand} {ty : TypeId} {pos : String} {af : Array Edge} (o k : Id) (s : List Nat) (kvs : List (Value × T)) (h : ev σ x = .ptr o (gg σ o) 0 ∧ σ (.o o) = .itr k (gg σ k) s ∧ σ (.r k) = .tree (.mp kvs))
    (k1 : ∀ (i : Nat) (p : Value × T), kvs[i]? = some p → i ∉ s → exec P ops C true K rest (puts σ [(.o o, .non), (.o o, .itr k (gg σ k) (s ++ [i])), (.s d, .av (.val (.tup [.sc (.bool true), .sc p.1, gotV .any (some p.2)])))]) ((rdl x ++ [.g o, .o o, .g k, .r k], [.o o, .o o, .s d]) :: acc))
    (k2 : (∀ i, i < kvs.length → i ∈ s) → exec P ops C true K rest (puts σ [(.s d, .av (.val (.tup [.sc (.bool false)])))]) ((rdl x ++ [.g o, .o o, .g k, .r k], [.s d]) :: acc)) :
    Run P ops C true K (⟨some d, .next x false, ty, pos, af, none⟩ :: rest) σ acc :=
  run_next rfl h.1 rfl h.2.1 rfl h.2.2 k1 k2
end
end Go.Proofs.Ytekpaepkoeelfaa
namespace Go.Proofs.Ytekpaepkoeelfaa
open Go.RowKit
set_option linter.unusedVariables false
set_option linter.unusedSimpArgs false

section
variable {P : Program} {ops : Array Oper} {C : Ctx} {σ : St} {K : St → List FP → Prop} {acc : List FP} {rest : List Oper}
theorem guard_slice {op : BinOp} {t : TypeId} {x y : Operand} {a : Option Addr} {n c : Nat} {u : Value} (w : World) : (eqGuard op t x y (.slice a n c) u).run P w = .ok () w := by
  unfold eqGuard
  cases op <;> simp
theorem rd_slice {m : Mem} {sz : Nat} {es : List (List V)} {v : Value} (h : Rd m (.lst sz es) v) : ∃ a n c, v = .slice a n c ∧ (a.isNone = true → es = []) := by
  cases h with
  | nil A c => exact ⟨_, _, _, rfl, fun _ => rfl⟩
  | lst => exact ⟨_, _, _, rfl, fun h => by cases h⟩
/-- A slice is nil, then it is without elements, or it is not. -/
theorem nil_s {d : Tmp} {t t' : TypeId} {x : Operand} {n c : Nat} {ty : TypeId} {pos : String} {af : Array Edge} (sz : Nat) (es : List (List V)) (hx : plain (ev σ x) = .lst sz es) (ht : (tiOf P t).map (·.sh) = some .slice)
    (k : ∀ b : Bool, (b = true → es = []) → exec P ops C true K rest (put σ (.s d) (.av (.val (.sc (.bool b))))) ((rdl x, [.s d]) :: acc)) :
    Run P ops C true K (⟨some d, .binOp .eql t x (.const (.slice none n c)) t', ty, pos, af, none⟩ :: rest) σ acc :=
  .alt (L := rdl x) (Ws := fun W => ∃ b : Bool, (b = true → es = []) ∧ W = [(.s d, .av (.val (.sc (.bool b))))]) rfl (fun E σ' a w Kt Q hd hr0 hg hK => by
      rw [if_pos (by simp [Region.wanted])]
      have hr := rds_all hr0
      have hv := ev_ok hg x
      rw [ev_congr hr] at hv
      have hv := plain_ok hv
      rw [hx] at hv
      obtain ⟨A, n', c', h1, h2⟩ := rd_slice hv
      obtain ⟨e, he⟩ := sh_slice ht
      show Oper.upon _ _ _ _ _ _
      have hrun : (execOp a.eval ⟨some d, .binOp .eql t x (.const (.slice none n c)) t', ty, pos, af, none⟩).run P w = .ok (.value (.bool A.isNone)) w := by
        have hc : a.eval (.const (.slice none n c)) = .slice none n c := rfl
        simp only [execOp, h1, hc, Sem.run_bind, guard_slice, Result.andThen_ok, Lib.run_eql_slice_nil w t e A n' c' n c he, Sem.run_pure]
      rw [hrun]
      exact hK _ _ _ E ⟨A.isNone, h2, rfl⟩ (hg.slot d _ _ (hd d rfl) (Rd.sc _))) fun W hW => by
    obtain ⟨b, h1, rfl⟩ := hW
    exact exec_run (k b h1)
/-- The same where it is asked whether it isn't nil. -/
theorem notnil_s {d : Tmp} {t t' : TypeId} {x : Operand} {n c : Nat} {ty : TypeId} {pos : String} {af : Array Edge} (sz : Nat) (es : List (List V)) (hx : plain (ev σ x) = .lst sz es) (ht : (tiOf P t).map (·.sh) = some .slice)
    (k : ∀ b : Bool, (b = false → es = []) → exec P ops C true K rest (put σ (.s d) (.av (.val (.sc (.bool b))))) ((rdl x, [.s d]) :: acc)) :
    Run P ops C true K (⟨some d, .binOp .neq t x (.const (.slice none n c)) t', ty, pos, af, none⟩ :: rest) σ acc :=
  .alt (L := rdl x) (Ws := fun W => ∃ b : Bool, (b = false → es = []) ∧ W = [(.s d, .av (.val (.sc (.bool b))))]) rfl (fun E σ' a w Kt Q hd hr0 hg hK => by
      rw [if_pos (by simp [Region.wanted])]
      have hr := rds_all hr0
      have hv := ev_ok hg x
      rw [ev_congr hr] at hv
      have hv := plain_ok hv
      rw [hx] at hv
      obtain ⟨A, n', c', h1, h2⟩ := rd_slice hv
      obtain ⟨e, he⟩ := sh_slice ht
      show Oper.upon _ _ _ _ _ _
      have hrun : (execOp a.eval ⟨some d, .binOp .neq t x (.const (.slice none n c)) t', ty, pos, af, none⟩).run P w = .ok (.value (.bool (!A.isNone))) w := by
        have hc : a.eval (.const (.slice none n c)) = .slice none n c := rfl
        simp only [execOp, h1, hc, Sem.run_bind, guard_slice, Result.andThen_ok, run_neq_slice_nil_any w t e A n' c' n c he, Sem.run_pure]
      rw [hrun]
      exact hK _ _ _ E ⟨!A.isNone, fun h => h2 (by simpa using h), rfl⟩ (hg.slot d _ _ (hd d rfl) (Rd.sc _))) fun W hW => by
    obtain ⟨b, h1, rfl⟩ := hW
    exact exec_run (k b h1)
end

/-! ### Rows that change: made, read as a text, taken, let go -/
section
variable {P : Program} {ops : Array Oper} {C : Ctx} {E : Env} {σ : St} {a : Act} {w : World} {md : Bool} {K : St → List FP → Prop} {acc : List FP} {rest : List Oper} {Q : Exit → St → Prop}
theorem made_get (z : Array Value) (sz n i j : Nat) (hz : z.size = sz) (hi : i < n) (hj : j < sz) : (madeCells z (n * sz)).toList[i * sz + j]? = z.toList[j]? := by
  subst hz
  have h1 : i * z.size + j < n * z.size := by
    have : (i + 1) * z.size ≤ n * z.size := Nat.mul_le_mul_right _ hi
    rw [Nat.add_mul] at this; omega
  have h2 : (i * z.size + j) % z.size = j := by rw [Nat.mul_comm, Nat.mul_add_mod, Nat.mod_eq_of_lt hj]
  simp [madeCells, h1, h2, hj]
theorem ok_mkT {d : Tmp} {t e : TypeId} {x y : Operand} {n : Nat} {T : TI} (hx : ev σ x = .val (.sc (.int .i64 n))) (hy : ev σ y = .val (.sc (.int .i64 n))) (ht : P.underlying t = some (.slice e)) (hte : tiOf P e = some T)
    (hT : T.zok = true ∧ T.zero.length = T.size) (hn : T.bytes * n ≤ 281474976710656 ∧ n ≤ 9223372036854775807) :
    StOk P C σ (some d) (.makeSlice t x y) (some (True, [.h (d, 1), .g (d, 1)] ++ (rdl x ++ rdl y), treeW σ (d, 1) (.rw e T.size (List.replicate n (T.zero.map .sc))) ++ [(.s d, .av (.ref (d, 1) (gh σ (d, 1) + 1)))])) := by
  refine ok_value (W0 := treeW σ (d, 1) (.rw e T.size (List.replicate n (T.zero.map .sc)))) fun _ ty pos af E σ' a w hr hg hd => ?_
  obtain ⟨h1, h2⟩ := mem_l hr
  obtain ⟨h2, h3⟩ := mem_l h2
  have vx : a.eval x = .int .i64 n := by
    have := ev_ok hg x
    rw [ev_congr h2, hx] at this
    exact Rd.sc_eq this
  have vy : a.eval y = .int .i64 n := by
    have := ev_ok hg y
    rw [ev_congr h3, hy] at this
    exact Rd.sc_eq this
  obtain ⟨ie, de, hie, hde, hsz, hby, _, _, _, _, _, _, _, hz, _, _, _, hzk⟩ := tiOf_some hte
  rw [hT.1] at hzk
  obtain ⟨zv, hzv⟩ := Option.isSome_iff_exists.1 hzk.symm
  have hz : T.zero = zv.cells.toList := by rw [hzv] at hz; exact hz
  have hzs : zv.cells.size = T.size := by rw [← hT.2, hz]; simp
  obtain ⟨w', hrun, hown, hgr⟩ := run_make_full (P := P) (w := w) 0 t e ie zv T.size ht hie hzv hsz.symm .i64 .i64 n (by rw [← hby]; exact hn.1) (by unfold maxLen; omega) (Nat.zero_le _)
  have hl : (List.replicate n (T.zero.map V.sc)).length = n := by simp
  have hch : Chg (fun b => (Value.slice (some ⟨w.heap.size, 0, none⟩) n n).ownBlock = some b) w w' := (Chg.refl _ _).grown hgr (fun k h => by cases h)
  obtain ⟨E', g1, g2⟩ := hg.treeAt (d, 1) (by simp) (e := e) (sz := T.size) (es := List.replicate n (T.zero.map V.sc)) (v := .slice (some ⟨w.heap.size, 0, none⟩) n n) hch (fun b hb => by cases hb; exact Nat.le_refl _) (by rw [hl]; exact hown)
    (fun r h => by rw [(List.mem_replicate.1 h).2, List.length_map, hT.2]) (fun i j hi hj => by
      simp only [List.length_replicate] at hi
      simp only [List.getElem_replicate] at hj ⊢
      have hj2 : j < T.zero.length := by simpa using hj
      have hj3 : j < T.size := by rw [← hT.2]; exact hj2
      refine ⟨T.zero[j], ?_, by simp; exact Rd.sc _⟩
      rw [made_get _ _ _ _ _ hzs hi hj3, ← hz, List.getElem?_eq_getElem hj2])
  have e0 : treeW σ (d, 1) (.rw e T.size (List.replicate n (T.zero.map .sc))) = treeW σ' (d, 1) (.rw e T.size (List.replicate n (T.zero.map .sc))) := by unfold treeW; rw [gh_of (h1 (.h (d, 1)) (by simp)), gg_of (h1 (.g (d, 1)) (by simp))]
  have e1 : gh σ (d, 1) = gh σ' (d, 1) := (gh_of (h1 (.h (d, 1)) (by simp))).symm
  rw [e0, e1]
  exact ⟨_, w', E', by simp only [execOp, vx, vy, Sem.run_bind, hrun, Result.andThen_ok, Sem.run_pure], g1, g2⟩
/-- A row made that will change. -/
theorem mkT_s {d : Tmp} {t e : TypeId} {x y : Operand} {ty : TypeId} {pos : String} {af : Array Edge} (n : Nat) (T : TI) (hx : ev σ x = .val (.sc (.int .i64 n))) (hy : ev σ y = .val (.sc (.int .i64 n))) (ht : P.underlying t = some (.slice e)) (hte : tiOf P e = some T)
    (hT : T.zok = true ∧ T.zero.length = T.size) (hn : T.bytes * n ≤ 281474976710656 ∧ n ≤ 9223372036854775807)
    (k : exec P ops C md K rest (puts σ (treeW σ (d, 1) (.rw e T.size (List.replicate n (T.zero.map .sc))) ++ [(.s d, .av (.ref (d, 1) (gh σ (d, 1) + 1)))])) (([.h (d, 1), .g (d, 1)] ++ (rdl x ++ rdl y), locs (treeW σ (d, 1) (.rw e T.size (List.replicate n (T.zero.map .sc))) ++ [(.s d, .av (.ref (d, 1) (gh σ (d, 1) + 1)))])) :: acc)) :
    Run P ops C md K (⟨some d, .makeSlice t x y, ty, pos, af, none⟩ :: rest) σ acc :=
  run_any (ok_mkT hx hy ht hte hT hn) rfl trivial k
/-- A row that changes, as it is now: read. -/
theorem tree_lst (hg : Gm C E σ a w) {k : Id} {e : TypeId} {sz : Nat} {es : List (List V)} (hr : σ (.r k) = .tree (.rw e sz es)) :
    ∃ (m' : Mem) (us : List Value), E.m.le m' ∧ (∀ b i v, m' b i = some v → w.cell? ⟨b, i, none⟩ = some v) ∧ Rd m' (.lst sz es) (E.bv k) ∧ (∀ b i, (E.bv k).ownBlock ≠ some b → m' b i = E.m b i) ∧ w.ownsRow 0 e sz (E.bv k) es.length us ∧ (∀ b, (E.bv k).ownBlock = some b → ∀ i, m' b i = us[i]?) := by
  obtain ⟨us, q1, q2, q3, q4, q5⟩ := tree_row hg hr
  obtain ⟨m', hm'⟩ : ∃ m' : Mem, m' = fun b i => if (E.bv k).ownBlock = some b then us[i]? else E.m b i := ⟨_, rfl⟩
  have e1 : ∀ b, (E.bv k).ownBlock = some b → ∀ i, m' b i = us[i]? := fun b h i => by rw [hm']; simp only; rw [if_pos h]
  have e2 : ∀ b i, (E.bv k).ownBlock ≠ some b → m' b i = E.m b i := fun b i h => by rw [hm']; simp only; rw [if_neg h]
  have hle : E.m.le m' := fun b i v h => by
    by_cases hb : (E.bv k).ownBlock = some b
    · rw [q4 b hb i] at h; cases h
    · rw [e2 b i hb]; exact h
  refine ⟨m', us, hle, fun b i v h => ?_, rd_row q1 rfl (fun i h => q2 _ (List.getElem_mem h)) (fun b i u h1 h2 => by rw [e1 b h1]; exact h2) (fun i j hi hj => by
    obtain ⟨u, h1, h2⟩ := q3 i j hi hj
    exact ⟨u, h1, h2.mono hle⟩), e2, q1, e1⟩
  by_cases hb : (E.bv k).ownBlock = some b
  · rw [e1 b hb] at h
    have := q1.cells (g := b) hb i v h
    rwa [addr_add, Nat.zero_add] at this
  · rw [e2 b i hb] at h
    exact hg.ms _ _ _ h
theorem ok_convTS {d : Tmp} {s t : TypeId} {x : Operand} {l : List UInt8} {k : Id} {g : Nat} {e : TypeId} (hx : ev σ x = .ref k g) (hrk : σ (.r k) = .tree (.rw e 1 (l.map byteEl))) :
    StOk P C σ (some d) (.convert s t x) (some (gh σ k = g ∧ (tiOf P s).map (·.sh) = some .slice ∧ ((tiOf P s).bind fun T => tiOf P T.elem).map (·.sh) = some (.int .u8) ∧ (tiOf P t).map (·.sh) = some .str, [.h k, .r k] ++ rdl x, [(.s d, .av (.val (.sc (str l))))])) := by
  refine ok_pure fun hc ty pos af E σ' a w hr hg => ⟨_, ?_, Rd.sc _⟩
  obtain ⟨c0, c1, c2, c3⟩ := hc
  obtain ⟨h1, h2⟩ := mem_l hr
  cases hs : tiOf P s with
  | none => rw [hs] at c1; cases c1
  | some T =>
    rw [hs] at c1 c2
    simp at c1 c2
    obtain ⟨it, dt, _, hdt, _, _, _, hsl, _⟩ := tiOf_some hs
    have hsl := hsl c1
    subst hsl
    have hel : P.underlying T.elem = some (.int .u8) := by
      obtain ⟨U, hU, hsh⟩ := c2
      obtain ⟨iu, du, _, hdu, _, _, _, _, _, _, hk, _⟩ := tiOf_some hU
      rw [hdu, hk _ hsh]
    have hv := ev_ok hg x
    rw [ev_congr h2, hx] at hv
    have hv := hv.2 (by rw [gh_of (h1 (.h k) (by simp))]; exact c0.symm)
    obtain ⟨m', us, _, hms, hrd, _⟩ := tree_lst hg (by rw [h1 (.r k) (by simp)]; exact hrk)
    rw [← hv] at hrd
    obtain ⟨A, cap, h2, h3, h4, h5, xs, h6, h7, h8⟩ := rd_cells hrd
    have key : (Conv.bytesToString (a.eval x)).run P w = .ok (str l) w := by
      rw [h2]
      cases A with
      | none =>
        have hn : l = [] := by
          have := h4 rfl
          simp at h3
          exact List.eq_nil_of_length_eq_zero (by omega)
        subst hn
        simp [Conv.bytesToString]; rfl
      | some A =>
        have hxs : xs = l.map fun b => Value.int .u8 b.toNat := by
          apply List.ext_getElem?
          intro i
          by_cases hi : i < l.length
          · obtain ⟨u, hu, hru⟩ := h7 i 0 (by simpa using hi) (by simp [byteEl])
            simp at hu
            have he : ((l.map byteEl)[i]'(by simpa using hi))[0]'(by simp [byteEl]) = V.sc (.int .u8 (l[i]).toNat) := by simp [byteEl]
            rw [he] at hru
            rw [hu, Rd.sc_eq hru]
            simp [hi]
          · have hl0 : xs.length ≤ i := by rw [h6]; simp; omega
            rw [List.getElem?_eq_none hl0, List.getElem?_eq_none (by simpa using Nat.le_of_not_lt hi)]
        have hll : xs.length = l.length := by rw [hxs]; simp
        have hload := run_loadCells_list (P := P) w A xs (fun j v hj => by
          obtain ⟨b, o, q1, q2⟩ := h8 j v hj
          cases q1
          rw [addr_add]; exact hms _ _ _ q2)
        rw [hll] at hload
        rw [List.length_map]
        rw [run_bytesToString w _ _ _ (l.map fun b => (b.toNat : Int)) (by rw [hload, hxs, List.map_map]; rfl)]
        have := fold_bytes l []
        rw [List.nil_append] at this
        exact congrArg (fun s => Result.ok (Value.string s) w) this
    rw [h2] at key
    simp only [List.length_map] at key
    simp [execOp, h2, convert, run_underlying hdt, run_underlying hel, run_underlying (sh_str c3), key]
/-- A row of bytes that changes, read as a text. -/
theorem convTS_s {d : Tmp} {s t : TypeId} {x : Operand} {ty : TypeId} {pos : String} {af : Array Edge} (l : List UInt8) (k : Id) (e : TypeId) (hx : ev σ x = .ref k (gh σ k)) (hr : σ (.r k) = .tree (.rw e 1 (l.map byteEl)))
    (hc : (tiOf P s).map (·.sh) = some .slice ∧ ((tiOf P s).bind fun T => tiOf P T.elem).map (·.sh) = some (.int .u8) ∧ (tiOf P t).map (·.sh) = some .str)
    (h : exec P ops C md K rest (put σ (.s d) (.av (.val (.sc (str l))))) (([.h k, .r k] ++ rdl x, [.s d]) :: acc)) : Run P ops C md K (⟨some d, .convert s t x, ty, pos, af, none⟩ :: rest) σ acc :=
  run_any (ok_convTS hx hr) rfl ⟨rfl, hc⟩ h

/-- What is known of a place is known in another way. -/
theorem aw_know {c : Code} (l : Pl) (x y : AV) (W : List (Pl × X)) (hl : (∃ t, l = .s t) ∨ ∃ o i, l = .c o i) (hx : σ l = .av x) (hW : ∀ p ∈ W, p.1 ≠ l)
    (hE : ∀ E a w, Gm C E σ a w → ∃ E', Gm C E' (puts σ W) a w ∧ ∀ v, RdA E' (puts σ W) x v → RdA E' (puts σ W) y v) (h : AW P C c (puts σ (W ++ [(l, .av y)])) Q) : AW P C c σ Q := by
  intro E a w hg
  have hll : ∀ o, l ≠ .g o ∧ l ≠ .q o ∧ l ≠ .k o ∧ l ≠ .o o ∧ l ≠ .h o ∧ l ≠ .r o ∧ l ≠ .l o := fun o => by
    rcases hl with ⟨t, rfl⟩ | ⟨o', i, rfl⟩ <;> refine ⟨?_, ?_, ?_, ?_, ?_, ?_, ?_⟩ <;> (intro e; cases e)
  obtain ⟨E', g1, g2⟩ := hE E a w hg
  have hnl : l ∉ locs W := fun h => by
    obtain ⟨p, hp, he⟩ := List.mem_map.1 h
    exact hW p hp he
  have h1 : puts σ W l = .av x := (puts_out W σ l hnl).trans hx
  have h2 := Gm.know g1 l x y hll h1 g2
  rw [puts_append] at h
  exact h E' a w h2
theorem aw_tre {c : Code} (l : Pl) (k : Id) (e : TypeId) (sz : Nat) (hk : k.2 ≠ 0) (hl : (∃ t, l = .s t) ∨ ∃ o i, l = .c o i) (hx : σ l = .av (.val (.sc (.slice none 0 0))))
    (h : AW P C c (puts σ (treeW σ k (.rw e sz []) ++ [(l, .av (.ref k (gh σ k + 1)))])) Q) : AW P C c σ Q := by
  refine aw_know l _ _ (treeW σ k (.rw e sz [])) hl hx (fun p hp e => ?_) (fun E a w hg => ?_) h
  · rcases hl with ⟨t, rfl⟩ | ⟨o', i, rfl⟩ <;> (simp [treeW] at hp; rcases hp with rfl | rfl | rfl | rfl | rfl <;> cases e)
  · obtain ⟨E', g1, _, _, _, _, g6⟩ := hg.gainTree k (.rw e sz []) (.slice none 0 0) [] (fun y h => by cases h)
      (by have := rw_mk (m := E.m) (w := w) (e := e) (sz := sz) (es := []) (v := .slice none 0 0) (us := []) (World.ownsRow_nil _ _ _ _) (fun r h => by cases h) (fun i j hi => by simp at hi) (fun b hb => by cases hb); exact this) (fun b hb => by cases hb) hk
    exact ⟨E', g1, fun v hv => by rw [Rd.sc_eq hv]; exact g6.toA⟩
/-- A slot, a cell without a row: a row that will change. -/
theorem tre_s {c : Code} (t : Nat) (k : Id) (e : TypeId) (sz : Nat) (hk : k.2 ≠ 0) (h : σ (.s t) = .av (.val (.sc (.slice none 0 0))) ∧ AW P C c (puts σ (treeW σ k (.rw e sz []) ++ [(.s t, .av (.ref k (gh σ k + 1)))])) Q) : AW P C c σ Q :=
  aw_tre (.s t) k e sz hk (.inl ⟨t, rfl⟩) h.1 h.2
theorem tre_c {c : Code} (o : Id) (i : Nat) (k : Id) (e : TypeId) (sz : Nat) (hk : k.2 ≠ 0) (h : σ (.c o i) = .av (.val (.sc (.slice none 0 0))) ∧ AW P C c (puts σ (treeW σ k (.rw e sz []) ++ [(.c o i, .av (.ref k (gh σ k + 1)))])) Q) : AW P C c σ Q :=
  aw_tre (.c o i) k e sz hk (.inr ⟨o, i, rfl⟩) h.1 h.2
/-- A row that changes does so no more. -/
theorem Gm.freeze (hg : Gm C E σ a w) (k kk : Id) {e : TypeId} {sz : Nat} {es : List (List V)} (hr : σ (.r k) = .tree (.rw e sz es)) :
    ∃ E', Gm C E' (puts σ [(.r k, .non), (.l k, .non), (.q kk, .num (gq σ kk + 1)), (.k kk, .row e sz es.length)]) a w ∧
      ∀ v, RdA E' (puts σ [(.r k, .non), (.l k, .non), (.q kk, .num (gq σ kk + 1)), (.k kk, .row e sz es.length)]) (.ref k (gh σ k)) v → RdA E' (puts σ [(.r k, .non), (.l k, .non), (.q kk, .num (gq σ kk + 1)), (.k kk, .row e sz es.length)]) (.own kk (gq σ kk + 1) e sz es) v := by
  obtain ⟨m', us, hle, hms, hrd, hne, hown, hin⟩ := tree_lst hg hr
  obtain ⟨_, _, _, _, _, q5⟩ := tree_row hg hr
  have q : ∀ l, puts σ [(.r k, .non), (.l k, .non)] l = if l = .l k then .non else if l = .r k then .non else σ l := fun l => by
    show put (put σ (.r k) _) (.l k) _ l = _
    unfold put; rfl
  obtain ⟨σ1, hσ1⟩ : ∃ s, s = puts σ [(.r k, .non), (.l k, .non)] := ⟨_, rfl⟩
  rw [← hσ1] at q
  obtain ⟨g1, g2, g3⟩ := hg.drop σ1 (fun t => by rw [q]; simp) (fun o i => by rw [q]; simp) (fun o => by rw [q]; simp) (fun o n h => by rw [q] at h; simpa using h) (fun k' e sz T h => by rw [q] at h; simpa using h) (fun k' => .inl (by rw [q]; simp))
    (fun k' x h => by rw [q] at h; by_cases e : k' = k <;> simp [e] at h; exact h) (fun k' i y h => by rw [q] at h; by_cases e : k' = k <;> simp [e] at h; exact h) (fun k' => by rw [q]; simp) (fun o k' g s h => by rw [q] at h; simpa using h)
  have hfree : ∀ b, (E.bv k).ownBlock = some b → ¬ LiveB E σ1 b := fun b hb ⟨t, ht⟩ => by
    have h1 := g3 t b ht
    have h2 : HoB E σ (.r k) b := ⟨_, hr, by rw [q5, hb]; simp⟩
    have h3 := hg.ho_inj h1 h2
    subst h3
    obtain ⟨x, h4, _⟩ := ht
    rw [q] at h4; simp at h4
  have hdd : ∀ b, (E.bv k).ownBlock = some b → C.D b ∨ C.w0.heap.size ≤ b := fun b hb => hg.tr.dd k _ b hr (by rw [q5, hb]; simp)
  have g4 := g1.turn (fun b => (E.bv k).ownBlock = some b) w m' (Chg.refl _ _) hle hms hdd (fun b hl hb => hfree b hb hl) (fun b mb n bs l h hb => by
    obtain ⟨cur, h2⟩ := own_block hown hb
    rw [h2] at h; cases h) (fun b i _ h => hne b i h)
  obtain ⟨E', g5, g6, g7, g8, g9, g10⟩ := g4.gainRow kk (gq σ1 kk + 1) (by omega) e sz es.length (E.bv k) us hown (fun b hb => ⟨fun i => hin b hb i, hdd b hb, fun ⟨t, ht⟩ => hfree b hb ⟨t, by cases t <;> exact ht⟩⟩)
  have eq1 : gq σ1 kk = gq σ kk := gq_of (by rw [q]; simp)
  have e0 : puts σ [(.r k, .non), (.l k, .non), (.q kk, .num (gq σ kk + 1)), (.k kk, .row e sz es.length)] = puts σ1 [(.q kk, .num (gq σ1 kk + 1)), (.k kk, .row e sz es.length)] := by
    rw [eq1, hσ1]; rfl
  rw [e0]
  refine ⟨E', g5, fun v hv => ?_⟩
  have hgh : gh (puts σ1 [(.q kk, .num (gq σ1 kk + 1)), (.k kk, .row e sz es.length)]) k = gh σ k := gh_of (by
    show put (put σ1 (.q kk) (.num (gq σ1 kk + 1))) (.k kk) (.row e sz es.length) (.h k) = _
    rw [put_ne _ _ (by simp), put_ne _ _ (by simp), q]; simp)
  have h1 := hv.2 hgh.symm
  have h2 : E'.bv k = E.bv k := (g6.h k).2 (by rw [hgh]; exact gh_of (by rw [q]; simp))
  rw [h2] at h1
  rw [h1, ← eq1]
  exact g10 es rfl hrd
theorem aw_frz {c : Code} (l : Pl) (k kk : Id) (e : TypeId) (sz : Nat) (es : List (List V)) (hl : (∃ t, l = .s t) ∨ ∃ o i, l = .c o i) (hx : σ l = .av (.ref k (gh σ k))) (hr : σ (.r k) = .tree (.rw e sz es))
    (h : AW P C c (puts σ [(.r k, .non), (.l k, .non), (.q kk, .num (gq σ kk + 1)), (.k kk, .row e sz es.length), (l, .av (.own kk (gq σ kk + 1) e sz es))]) Q) : AW P C c σ Q :=
  aw_know l _ _ [(.r k, .non), (.l k, .non), (.q kk, .num (gq σ kk + 1)), (.k kk, .row e sz es.length)] hl hx (fun p hp e => by
    rcases hl with ⟨t, rfl⟩ | ⟨o', i, rfl⟩ <;> (simp at hp; rcases hp with rfl | rfl | rfl | rfl <;> cases e)) (fun E a w hg => hg.freeze k kk hr) h
theorem frz_s {c : Code} (t : Nat) (k kk : Id) (e : TypeId) (sz : Nat) (es : List (List V)) (h : (σ (.s t) = .av (.ref k (gh σ k)) ∧ σ (.r k) = .tree (.rw e sz es)) ∧ AW P C c (puts σ [(.r k, .non), (.l k, .non), (.q kk, .num (gq σ kk + 1)), (.k kk, .row e sz es.length), (.s t, .av (.own kk (gq σ kk + 1) e sz es))]) Q) : AW P C c σ Q :=
  aw_frz (.s t) k kk e sz es (.inl ⟨t, rfl⟩) h.1.1 h.1.2 h.2
theorem frz_c {c : Code} (o : Id) (i : Nat) (k kk : Id) (e : TypeId) (sz : Nat) (es : List (List V)) (h : (σ (.c o i) = .av (.ref k (gh σ k)) ∧ σ (.r k) = .tree (.rw e sz es)) ∧ AW P C c (puts σ [(.r k, .non), (.l k, .non), (.q kk, .num (gq σ kk + 1)), (.k kk, .row e sz es.length), (.c o i, .av (.own kk (gq σ kk + 1) e sz es))]) Q) : AW P C c σ Q :=
  aw_frz (.c o i) k kk e sz es (.inr ⟨o, i, rfl⟩) h.1.1 h.1.2 h.2
end
end Go.Proofs.Ytekpaepkoeelfaa
