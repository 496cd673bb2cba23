/- What the walk asks of each type. By program. -/
import Derived.Test.YtkclmofjlmeolaaGreatDoorRDz
import Derived.Test.YtkclmofjlmeolaaGreatDoorRows
import Derived.KernelRfl
namespace Go.Proofs.YtkclmofjlmeolaaGreatDoor
set_option linter.unusedVariables false
theorem ti3 : tiOf Tryz.prog 3 = some { sh := Sh.int IntKind.i64, agg := false, size := 1, bytes := 8, zero := [Value.int IntKind.i64 (0)], elem := 0, fields := [], fok := true, zok := true } := by kernel_rfl
theorem ti4 : tiOf Tryz.prog 4 = some { sh := Sh.bool, agg := false, size := 1, bytes := 1, zero := [Value.bool false], elem := 0, fields := [], fok := true, zok := true } := by kernel_rfl
theorem ti5 : tiOf Tryz.prog 5 = some { sh := Sh.int IntKind.u8, agg := false, size := 1, bytes := 1, zero := [Value.int IntKind.u8 (0)], elem := 0, fields := [], fok := true, zok := true } := by kernel_rfl
theorem ti9 : tiOf Tryz.prog 9 = some { sh := Sh.str, agg := false, size := 1, bytes := 16, zero := [str []], elem := 0, fields := [], fok := true, zok := true } := by kernel_rfl
theorem ti22 : tiOf Tryz.prog 22 = some { sh := Sh.slice, agg := false, size := 1, bytes := 24, zero := [Value.slice none 0 0], elem := 3, fields := [], fok := true, zok := true } := by kernel_rfl
theorem ti23 : tiOf Tryz.prog 23 = some { sh := Sh.ptr, agg := false, size := 1, bytes := 8, zero := [Value.pointer none], elem := 58, fields := [], fok := true, zok := true } := by kernel_rfl
theorem ti26 : tiOf Tryz.prog 26 = some { sh := Sh.strct, agg := true, size := 3, bytes := 24, zero := [Value.int IntKind.i64 (0), Value.int IntKind.i64 (0), Value.int IntKind.i64 (0)], elem := 0, fields := [(0, 1, false), (1, 1, false), (2, 1, false)], fok := true, zok := true } := by kernel_rfl
theorem ti27 : tiOf Tryz.prog 27 = some { sh := Sh.slice, agg := false, size := 1, bytes := 24, zero := [Value.slice none 0 0], elem := 9, fields := [], fok := true, zok := true } := by kernel_rfl
theorem ti30 : tiOf Tryz.prog 30 = some { sh := Sh.int IntKind.u16, agg := false, size := 1, bytes := 2, zero := [Value.int IntKind.u16 (0)], elem := 0, fields := [], fok := true, zok := true } := by kernel_rfl
theorem ti31 : tiOf Tryz.prog 31 = some { sh := Sh.int IntKind.u32, agg := false, size := 1, bytes := 4, zero := [Value.int IntKind.u32 (0)], elem := 0, fields := [], fok := true, zok := true } := by kernel_rfl
theorem ti33 : tiOf Tryz.prog 33 = some { sh := Sh.strct, agg := true, size := 2, bytes := 16, zero := [Value.int IntKind.i64 (0), Value.int IntKind.u16 (0)], elem := 0, fields := [(0, 1, false), (1, 1, false)], fok := true, zok := true } := by kernel_rfl
theorem ti35 : tiOf Tryz.prog 35 = some { sh := Sh.strct, agg := true, size := 2, bytes := 16, zero := [Value.int IntKind.i64 (0), Value.int IntKind.i64 (0)], elem := 0, fields := [(0, 1, false), (1, 1, false)], fok := true, zok := true } := by kernel_rfl
theorem ti37 : tiOf Tryz.prog 37 = some { sh := Sh.strct, agg := true, size := 8, bytes := 64, zero := [Value.int IntKind.u32 (0), Value.int IntKind.u16 (0), Value.int IntKind.u32 (0), Value.int IntKind.i64 (0), Value.int IntKind.u16 (0), Value.int IntKind.i64 (0), Value.int IntKind.i64 (0), str []], elem := 0, fields := [(0, 1, false), (1, 1, false), (2, 1, false), (3, 2, true), (5, 2, true), (7, 1, false)], fok := true, zok := true } := by kernel_rfl
theorem ti39 : tiOf Tryz.prog 39 = some { sh := Sh.int IntKind.i64, agg := false, size := 1, bytes := 8, zero := [Value.int IntKind.i64 (0)], elem := 0, fields := [], fok := true, zok := true } := by kernel_rfl
theorem ti42 : tiOf Tryz.prog 42 = some { sh := Sh.slice, agg := false, size := 1, bytes := 24, zero := [Value.slice none 0 0], elem := 31, fields := [], fok := true, zok := true } := by kernel_rfl
theorem ti44 : tiOf Tryz.prog 44 = some { sh := Sh.strct, agg := true, size := 2, bytes := 32, zero := [Value.int IntKind.i64 (0), Value.slice none 0 0], elem := 0, fields := [(0, 1, false), (1, 1, false)], fok := true, zok := true } := by kernel_rfl
theorem ti47 : tiOf Tryz.prog 47 = some { sh := Sh.slice, agg := false, size := 1, bytes := 24, zero := [Value.slice none 0 0], elem := 51, fields := [], fok := true, zok := true } := by kernel_rfl
theorem ti51 : tiOf Tryz.prog 51 = some { sh := Sh.strct, agg := true, size := 2, bytes := 24, zero := [Value.int IntKind.u32 (0), str []], elem := 0, fields := [(0, 1, false), (1, 1, false)], fok := true, zok := true } := by kernel_rfl
theorem ti55 : tiOf Tryz.prog 55 = some { sh := Sh.strct, agg := true, size := 3, bytes := 24, zero := [Value.int IntKind.i64 (0), Value.int IntKind.i64 (0), Value.int IntKind.i64 (0)], elem := 0, fields := [(0, 1, false), (1, 1, false), (2, 1, false)], fok := true, zok := true } := by kernel_rfl
theorem ti56 : tiOf Tryz.prog 56 = some { sh := Sh.slice, agg := false, size := 1, bytes := 24, zero := [Value.slice none 0 0], elem := 83, fields := [], fok := true, zok := true } := by kernel_rfl
theorem ti58 : tiOf Tryz.prog 58 = some { sh := Sh.strct, agg := true, size := 11, bytes := 104, zero := [Value.int IntKind.i64 (0), Value.int IntKind.i64 (0), Value.int IntKind.i64 (0), Value.int IntKind.i64 (0), Value.int IntKind.i64 (0), Value.int IntKind.i64 (0), Value.slice none 0 0, Value.int IntKind.i64 (0), Value.int IntKind.i64 (0), Value.int IntKind.i64 (0), Value.int IntKind.i64 (0)], elem := 0, fields := [(0, 3, true), (3, 3, true), (6, 1, false), (7, 1, false), (8, 1, false), (9, 1, false), (10, 1, false)], fok := true, zok := true } := by kernel_rfl
theorem ti60 : tiOf Tryz.prog 60 = some { sh := Sh.slice, agg := false, size := 1, bytes := 24, zero := [Value.slice none 0 0], elem := 5, fields := [], fok := true, zok := true } := by kernel_rfl
theorem ti62 : tiOf Tryz.prog 62 = some { sh := Sh.strct, agg := true, size := 1, bytes := 24, zero := [Value.slice none 0 0], elem := 0, fields := [(0, 1, false)], fok := true, zok := true } := by kernel_rfl
theorem ti66 : tiOf Tryz.prog 66 = some { sh := Sh.strct, agg := true, size := 9, bytes := 88, zero := [Value.bool false, Value.int IntKind.i64 (0), Value.int IntKind.u16 (0), Value.int IntKind.u32 (0), Value.int IntKind.u32 (0), Value.slice none 0 0, Value.bool false, Value.int IntKind.i64 (0), str []], elem := 0, fields := [(0, 1, false), (1, 1, false), (2, 1, false), (3, 1, false), (4, 1, false), (5, 1, false), (6, 1, false), (7, 1, false), (8, 1, false)], fok := true, zok := true } := by kernel_rfl
theorem ti71 : tiOf Tryz.prog 71 = some { sh := Sh.strct, agg := true, size := 2, bytes := 24, zero := [Value.int IntKind.i64 (0), str []], elem := 0, fields := [(0, 1, false), (1, 1, false)], fok := true, zok := true } := by kernel_rfl
theorem ti75 : tiOf Tryz.prog 75 = some { sh := Sh.strct, agg := true, size := 11, bytes := 112, zero := [Value.bool false, Value.int IntKind.i64 (0), Value.int IntKind.u16 (0), Value.int IntKind.u32 (0), Value.int IntKind.u32 (0), Value.slice none 0 0, Value.bool false, Value.int IntKind.i64 (0), str [], str [], Value.int IntKind.i64 (0)], elem := 0, fields := [(0, 9, true), (9, 1, false), (10, 1, false)], fok := true, zok := true } := by kernel_rfl
theorem ti79 : tiOf Tryz.prog 79 = some { sh := Sh.slice, agg := false, size := 1, bytes := 24, zero := [Value.slice none 0 0], elem := 71, fields := [], fok := true, zok := true } := by kernel_rfl
theorem ti83 : tiOf Tryz.prog 83 = some { sh := Sh.ptr, agg := false, size := 1, bytes := 8, zero := [Value.pointer none], elem := 117, fields := [], fok := true, zok := true } := by kernel_rfl
theorem ti98 : tiOf Tryz.prog 98 = some { sh := Sh.int IntKind.u64, agg := false, size := 1, bytes := 8, zero := [Value.int IntKind.u64 (0)], elem := 0, fields := [], fok := true, zok := true } := by kernel_rfl
theorem ti115 : tiOf Tryz.prog 115 = some { sh := Sh.map, agg := false, size := 1, bytes := 8, zero := [Value.map none], elem := 9, fields := [], fok := true, zok := true } := by kernel_rfl
theorem ti117 : tiOf Tryz.prog 117 = some { sh := Sh.strct, agg := true, size := 5, bytes := 40, zero := [Value.int IntKind.u32 (0), Value.int IntKind.i64 (0), Value.int IntKind.i64 (0), Value.map none, Value.int IntKind.i64 (0)], elem := 0, fields := [(0, 1, false), (1, 1, false), (2, 1, false), (3, 1, false), (4, 1, false)], fok := true, zok := true } := by kernel_rfl
theorem ti127 : tiOf Tryz.prog 127 = some { sh := Sh.other, agg := false, size := 1, bytes := 8, zero := [Value.nilFunc], elem := 0, fields := [], fok := true, zok := true } := by kernel_rfl
theorem ti128 : tiOf Tryz.prog 128 = some { sh := Sh.other, agg := false, size := 1, bytes := 8, zero := [Value.nilFunc], elem := 0, fields := [], fok := true, zok := true } := by kernel_rfl
theorem ti130 : tiOf Tryz.prog 130 = some { sh := Sh.strct, agg := true, size := 6, bytes := 48, zero := [Value.int IntKind.i64 (0), Value.int IntKind.i64 (0), Value.int IntKind.i64 (0), Value.int IntKind.i64 (0), Value.nilFunc, Value.nilFunc], elem := 0, fields := [(0, 1, false), (1, 1, false), (2, 1, false), (3, 1, false), (4, 1, false), (5, 1, false)], fok := true, zok := true } := by kernel_rfl
theorem ti142 : tiOf Tryz.prog 142 = some { sh := Sh.strct, agg := true, size := 2, bytes := 24, zero := [str [], Value.int IntKind.i64 (0)], elem := 0, fields := [(0, 1, false), (1, 1, false)], fok := true, zok := true } := by kernel_rfl
theorem mo115 : mapOf Tryz.prog 115 = some (3, 9) := by kernel_rfl
theorem zo9 : zeroOf Tryz.prog 9 = some (str []) := by kernel_rfl
theorem mo132 : mapOf Tryz.prog 132 = some (3, 130) := by kernel_rfl
theorem zo130 : zeroOf Tryz.prog 130 = some (.agg #[Value.int IntKind.i64 (0), Value.int IntKind.i64 (0), Value.int IntKind.i64 (0), Value.int IntKind.i64 (0), Value.nilFunc, Value.nilFunc]) := by kernel_rfl
attribute [go_sem] ti3 ti4 ti5 ti9 ti22 ti23 ti26 ti27 ti30 ti31 ti33 ti35 ti37 ti39 ti42 ti44 ti47 ti51 ti55 ti56 ti58 ti60 ti62 ti66 ti71 ti75 ti79 ti83 ti98 ti115 ti117 ti127 ti128 ti130 ti142 mo115 zo9 mo132 zo130
/-- What is left, held. -/
structure Hd_ (q : Prop) : Prop where
  out : q
theorem ex0 {p : Prop} (h : p := by simp (decide := true) (disch := omega) only [go_sem, ↓reduceIte, ↓put_at]; done) : p := h
theorem ex1 {p : Prop} (h : p := by simp (decide := true) (disch := omega) only [go_sem, ↓reduceIte, ↓put_at]; first | done | assumption | omega) : p := h
/-- A step of a walk. -/
theorem sp_ {p q : Prop} (k : q) (h : Hd_ q → p := by intro k; (first | refine aw_seq ?_ | refine aw_block ?_ | refine aw_reg hC (by kernel_rfl) ?_ | refine aw_regd hC Tryz.checked.mixed (by kernel_rfl) ?_ | refine chk_and (by kernel_rfl) ?_ | refine aw_skip ?_ | refine aw_if ?_ | refine And.intro (by first | omega | with_reducible assumption) ?_ | refine aw_exit ?_ | refine aw_ret ?_ | (simp (decide := true) (disch := omega) only [go_sem, ↓reduceIte, ↓put_at])); exact k.out; done) : p := h ⟨k⟩
end Go.Proofs.YtkclmofjlmeolaaGreatDoor

