/- The walk of PieceJoins. -/
import Derived.Test.YtiehcdcimllooaaPieceLaw
namespace Go.Proofs.Ytiehcdcimllooaa
open Go.RowKit
set_option linter.unusedVariables false
set_option linter.unusedSimpArgs false

theorem OwnTri.lt {w0 w : World} {t : TypeId} {v : Value} {ps : List Pc} (h : OwnTri w0 t v ps w) {k : Nat} (hk : v.ownBlock = some k) : k < w.heap.size := by
  rcases h.1.2 with ⟨rfl, _⟩ | ⟨g, cap, cur, rfl, _, hh, _⟩
  · cases hk
  · have : g = k := by simpa [Value.ownBlock] using hk
    subst this
    exact Blk.lt (t := t) hh
theorem OwnTri.ne {w0 w0' w : World} {t t' : TypeId} {v u : Value} {ps qs : List Pc} (h : OwnTri w0 t v ps w) (h' : OwnTri w0' t' u qs w) (hne : t' ≠ t) (k : Nat) (hk : u.ownBlock = some k) : ¬ v.ownBlock = some k := by
  rcases h'.1.2 with ⟨rfl, _⟩ | ⟨g, cap, cur, rfl, _, hh, _⟩
  · cases hk
  · have : g = k := by simpa [Value.ownBlock] using hk
    subst this
    exact own_blk_ne (t := t') h.1 hh (fun e => hne e.symm)
theorem OwnTri.alloc {w0 w : World} {t : TypeId} {v : Value} {ps : List Pc} (h : OwnTri w0 t v ps w) (o : Obj) : OwnTri w0 t v ps (w.alloc o) := h.chg ((Chg.refl Nothing _).alloc o) (fun _ _ => id)
theorem OwnTri.drew {w0 w : World} {t : TypeId} {v : Value} {ps : List Pc} (h : OwnTri w0 t v ps w) : OwnTri w0 t v ps w.drew := h.chg ((Chg.refl Nothing _).drew) (fun _ _ => id)

/-- What a push onto one row leaves. -/
structure Pushed (w0 w w' : World) (T : TypeId) (v v' : Value) (ps : List Pc) : Prop where
  own : OwnTri w0 T v' ps w'
  chg : Chg (fun k => v.ownBlock = some k) w w'
  keep : ∀ w0' T' u qs, T' ≠ T → OwnTri w0' T' u qs w → OwnTri w0' T' u qs w'
  same : ∀ w0' u qs, (∀ k, u.ownBlock = some k → ¬ v.ownBlock = some k) → OwnTri w0' T u qs w → OwnTri w0' T u qs w'
  blk : ∀ g T' cs, T' ≠ T → Blk w g T' cs → Blk w' g T' cs
  old : ∀ g cs, v.ownBlock ≠ some g → Blk w g T cs → Blk w' g T cs

theorem step_push {ops : Array Oper} {o : Oper} {a : Act} {w : World} {K : Act → World → Prop} {Q : Exit → Act → World → Prop} {E : Prop} (hgd : o.guard = none) (s x : Operand) (t : TypeId)
    (ho : o.op = .call { callee := .builtin .append, args := #[s, x], argTypes := #[t, t] })
    (T : TypeId) (i : TypeInfo) (ht : Try.prog.underlying t = some (.slice T)) (hi : Try.prog.info? T = some i) (hz : i.zero = some (.agg #[.int .i64 0, .int .i64 0, str []])) (hsize : i.size = 3) (hby : i.bytes = 32)
    (v : Value) (ps : List Pc) (w0 : World) (hv : a.eval s = v) (hown : OwnTri w0 T v ps w) (hw : w0.heap.size ≤ w.heap.size) (p0 p1 : Int) (q : List UInt8) (g : Nat) (hx : a.eval x = .slice (some ⟨g, 0, none⟩) 1 1) (hg : Blk w g T #[.int .i64 p0, .int .i64 p1, str q])
    (hl : ps.length ≤ 1000) (h : ∀ A c w', Pushed w0 w w' T v (.slice A (ps.length + 1) c) (ps ++ [(p0, p1, q)]) → K (a.put o.dst (.slice A (ps.length + 1) c)) w') :
    if Region.wanted o (yielded ops a.tmps) = true then Oper.wp Try.prog o a w K Q else E := by
  refine step_append_src w hgd s x t t ho T i _ 3 32 ht hi hz hsize hby rfl (by omega) v _ _ hv hown.1 _ 1 (triCells (p0, p1, q)) hx (Src.ofSlice _ ht _ 1 1 _ (by rfl) (World.news_of_block (cs := (triCells (p0, p1, q)).toArray) (t := T) (fr := (0, 0)) hg) (tri_one (p0, p1, q))) (by unfold maxLen; omega) (by omega) ?_
  intro A c w' hown2 hgrow hat _
  have hcg : Chg (fun k => v.ownBlock = some k) w w' := (Chg.refl _ _).grown hgrow (fun k hk _ => hk)
  exact h A c w' ⟨OwnTri.push (w := w) (wx := w) (h := hown) hw hown2 rfl hat, hcg, fun _ T' u qs hne hu => hu.chg hcg (hown.ne hu hne), fun _ u qs hne hu => hu.chg hcg hne, fun g' T' cs hne hb => hb.chg hcg (own_blk_ne hown.1 hb (fun e => hne e.symm)), fun g' cs hn hb => hb.chg hcg hn⟩
theorem packP_le (ps : List Pc) (h : ps.all mayP = true) (hl : ps.length ≤ 10) : (packP ps).length ≤ 17180131328 := by
  have := pack_len (may_bounds ps h).1 ps.length (by omega)
  rw [List.take_length] at this
  unfold packP
  rw [if_pos h]
  omega
theorem join_split (ps qs al : List Pc) (h1 : ps.all mayP = true) (h2 : qs.all mayP = true) (hal : al = ps ++ qs) : splitP (packP ps ++ packP qs) = (0, al) := by
  subst hal
  unfold packP
  rw [if_pos h1, if_pos h2, ← List.flatMap_append]
  exact split_pack _ (by rw [List.all_append, h1, h2]; rfl)
end Go.Proofs.Ytiehcdcimllooaa
