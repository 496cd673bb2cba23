/- The reference of reports: May, Piece. -/
import Derived.Test.YthnbeodpckmjnaaGreatDoorQRefZz
import Derived.Test.YthnbeodpckmjnaaGreatDoorQRefZz
import Derived.Test.YthnbeodpckmjnaaGreatDoorQInz
import Derived.Test.YthnbeodpckmjnaaGreatDoorOpenz
import Derived.Shelf.Strings.Repeat
import Derived.Shelf.Strings.Trim
import Derived.Test.YthnbeodpckmjnaaGreatDoorProg
import Derived.Test.YthnbeodpckmjnaaGreatDoorRHz
import Derived.Laws.OwnMore
import Derived.Lib.SliceRun
import Derived.WalkSpells
namespace Go.Proofs.YthnbeodpckmjnaaGreatDoor
open Go.RowKit
set_option linter.unusedVariables false
set_option linter.unusedSimpArgs false

abbrev z8L (b : B8) : List V := [vi b.src, vi b.fr, vi b.lost, vi b.hi, vi b.ji, vi b.la, vi b.de]
def z8El (b : B8) : List V := z8L b
attribute [go_sem] z8El
attribute [go_sem] putZ_length
end Go.Proofs.YthnbeodpckmjnaaGreatDoor

namespace Go.Proofs.YthnbeodpckmjnaaGreatDoor
open Go.RowKit
set_option linter.unusedVariables false
set_option linter.unusedSimpArgs false

end Go.Proofs.YthnbeodpckmjnaaGreatDoor

namespace Go.Proofs.YthnbeodpckmjnaaGreatDoor
open Go.RowKit
set_option linter.unusedVariables false
set_option linter.unusedSimpArgs false

end Go.Proofs.YthnbeodpckmjnaaGreatDoor

namespace Go.Proofs.YthnbeodpckmjnaaGreatDoor
open Go.RowKit
set_option linter.unusedVariables false
set_option linter.unusedSimpArgs false

def zer (k : Nat) : List UInt8 := List.replicate k 0
/-- How many bytes 0 are laid behind n bytes: at least so many, and up to a multiple of 4. -/
def padN (n least : Nat) : Nat := least + (4 - (n + least) % 4) % 4
theorem padN_mod (n m least : Nat) (h : n % 4 = m % 4) : padN n least = padN m least := by unfold padN; omega
theorem padN_sum (n least : Nat) : (n + padN n least) % 4 = 0 := by unfold padN; omega
theorem zer_len (k : Nat) : (zer k).length = k := List.length_replicate ..
/-- Bytes 0 up to a multiple of 4. -/
def fillB (s : List UInt8) : List UInt8 := s ++ zer (padN s.length 0)
/-- Who a source is. -/
structure N9 where
  src : Int
  text : List UInt8
  deriving DecidableEq
def mayN (x : N9) : Bool := decide (1 ≤ x.text.length ∧ x.text.length ≤ 255)
def itemB (x : N9) : List UInt8 := puts' 4 [x.src] ++ puts' 1 [1, (x.text.length : Int)] ++ x.text ++ zer (padN (6 + x.text.length) 1)
theorem itemB_len (x : N9) : (itemB x).length = 6 + x.text.length + padN (6 + x.text.length) 1 := by
  unfold itemB
  simp only [List.length_append, puts'_length, zer_len, List.length_cons, List.length_nil]
theorem itemB_mod (x : N9) : (itemB x).length % 4 = 0 := by rw [itemB_len]; exact padN_sum _ _
def namesP (l : List N9) : Pc := if l.length ≤ 31 ∧ l.all mayN = true then ((l.length : Int), 202, l.flatMap itemB) else (0, 0, [])
theorem items_mod (l : List N9) : (l.flatMap itemB).length % 4 = 0 := by
  induction l with
  | nil => rfl
  | cons x l ih =>
    have := itemB_mod x
    rw [List.flatMap_cons, List.length_append]
    omega
theorem items_le (l : List N9) (h : l.all mayN = true) : (l.flatMap itemB).length ≤ 300 * l.length := by
  induction l with
  | nil => simp
  | cons x l ih =>
    simp only [List.all_cons, Bool.and_eq_true] at h
    have h1 := h.1
    unfold mayN at h1
    rw [decide_eq_true_eq] at h1
    have h2 := itemB_len x
    have h3 : padN (6 + x.text.length) 1 ≤ 4 := by unfold padN; omega
    have := ih h.2
    rw [List.flatMap_cons, List.length_append, List.length_cons]
    omega
/-- Who goes. -/
structure Y9 where
  reason : List UInt8
  srcs : List Int
  deriving DecidableEq
def mayY (b : Y9) : Bool := decide (b.srcs.length ≤ 31 ∧ b.reason.length ≤ 255)
def reasonB (r : List UInt8) : List UInt8 := if r = [] then [] else puts' 1 [(r.length : Int)] ++ r ++ zer (padN (1 + r.length) 0)
def byeP (b : Y9) : Pc := if mayY b = true then ((b.srcs.length : Int), 203, puts' 4 b.srcs ++ reasonB b.reason) else (0, 0, [])
/-- What an application says. -/
structure A9 where
  sub : Int
  src : Int
  name : List UInt8
  data : List UInt8
  deriving DecidableEq
def mayA (a : A9) : Bool := decide (0 ≤ a.sub ∧ a.sub ≤ 31 ∧ a.name.length = 4 ∧ a.data.length % 4 = 0 ∧ a.data.length ≤ 1024)
def appP (a : A9) : Pc := if mayA a = true then (a.sub, 204, puts' 4 [a.src] ++ a.name ++ a.data) else (0, 0, [])
end Go.Proofs.YthnbeodpckmjnaaGreatDoor

namespace Go.Proofs
open Go.Shelf
def Tryz.lays160_ren : Go.Shelf.Ren := ⟨fun | 160 => 86 | 232 => 112 | 231 => 111 | 227 => 113 | 234 => 115 | 233 => 114 | 236 => 117 | 235 => 116 | 228 => 131 | 271 => 134 | 151 => 133 | 197 => 132 | 120 => 137 | 152 => 136 | 260 => 135 | 137 => 138 | 119 => 139 | 224 => 140 | 225 => 141 | 217 => 142 | 266 => 143 | n => n, fun | 9 => 9 | 4 => 4 | 3 => 3 | 5 => 5 | 117 => 203 | 116 => 202 | 0 => 0 | 124 => 206 | 21 => 21 | 105 => 218 | 46 => 92 | 119 => 223 | 139 => 226 | 138 => 225 | n => n, fun | 3 => 1 | 4 => 2 | n => n⟩
theorem Tryz.lays160 : Go.Proofs.Lays.n160 Tryz.prog Tryz.lays160_ren := {
  mixed := by kernel_rfl
  f119 := Tryz.func139.trans (congrArg some (by kernel_rfl))
  f120 := Tryz.func137.trans (congrArg some (by kernel_rfl))
  f137 := Tryz.func138.trans (congrArg some (by kernel_rfl))
  f151 := Tryz.func133.trans (congrArg some (by kernel_rfl))
  f152 := Tryz.func136.trans (congrArg some (by kernel_rfl))
  f160 := Tryz.func86.trans (congrArg some (by kernel_rfl))
  f197 := Tryz.func132.trans (congrArg some (by kernel_rfl))
  f217 := Tryz.func142.trans (congrArg some (by kernel_rfl))
  f224 := Tryz.func140.trans (congrArg some (by kernel_rfl))
  f225 := Tryz.func141.trans (congrArg some (by kernel_rfl))
  f227 := Tryz.func113.trans (congrArg some (by kernel_rfl))
  f228 := Tryz.func131.trans (congrArg some (by kernel_rfl))
  f231 := Tryz.func111.trans (congrArg some (by kernel_rfl))
  f232 := Tryz.func112.trans (congrArg some (by kernel_rfl))
  f233 := Tryz.func114.trans (congrArg some (by kernel_rfl))
  f234 := Tryz.func115.trans (congrArg some (by kernel_rfl))
  f235 := Tryz.func116.trans (congrArg some (by kernel_rfl))
  f236 := Tryz.func117.trans (congrArg some (by kernel_rfl))
  f260 := Tryz.func135.trans (congrArg some (by kernel_rfl))
  f266 := Tryz.func143.trans (congrArg some (by kernel_rfl))
  f271 := Tryz.func134.trans (congrArg some (by kernel_rfl))
  t0 := Tryz.underlying0
  a0 := Tryz.isAgg0
  z0 := Tryz.sizeOf0
  v0 := Tryz.zeroValue0
  t3 := Tryz.underlying3
  a3 := Tryz.isAgg3
  z3 := Tryz.sizeOf3
  v3 := Tryz.zeroValue3
  t4 := Tryz.underlying4
  a4 := Tryz.isAgg4
  z4 := Tryz.sizeOf4
  v4 := Tryz.zeroValue4
  t5 := Tryz.underlying5
  a5 := Tryz.isAgg5
  z5 := Tryz.sizeOf5
  v5 := Tryz.zeroValue5
  t9 := Tryz.underlying9
  a9 := Tryz.isAgg9
  z9 := Tryz.sizeOf9
  v9 := Tryz.zeroValue9
  t21 := Tryz.underlying21
  a21 := Tryz.isAgg21
  z21 := Tryz.sizeOf21
  v21 := Tryz.zeroValue21
  t46 := Tryz.underlying92
  a46 := Tryz.isAgg92
  z46 := Tryz.sizeOf92
  v46 := Tryz.zeroValue92
  t105 := Tryz.underlying218
  a105 := Tryz.isAgg218
  z105 := Tryz.sizeOf218
  v105 := Tryz.zeroValue218
  t116 := Tryz.underlying202
  a116 := Tryz.isAgg202
  z116 := Tryz.sizeOf202
  t117 := Tryz.underlying203
  a117 := Tryz.isAgg203
  z117 := Tryz.sizeOf203
  v117 := Tryz.zeroValue203
  t119 := Tryz.underlying223
  a119 := Tryz.isAgg223
  z119 := Tryz.sizeOf223
  t124 := Tryz.underlying206
  a124 := Tryz.isAgg206
  z124 := Tryz.sizeOf206
  v124 := Tryz.zeroValue206
  t138 := Tryz.underlying225
  a138 := Tryz.isAgg225
  z138 := Tryz.sizeOf225
  v138 := Tryz.zeroValue225
  t139 := Tryz.underlying226
  a139 := Tryz.isAgg226
  z139 := Tryz.sizeOf226
  v139 := Tryz.zeroValue226
  g3 := by kernel_rfl
  g4 := by kernel_rfl }
open Go.RowKit in
theorem Tryz.strings_Trim_one (s : ByteArray) (c : UInt8) (hc : c.toNat < 128) (w : World) (hs : s.size ≤ 9223372036854775807) :
    Calls Tryz.prog 86 #[.string s, .string ⟨#[c]⟩] w fun e w' => e = .returned (.string ⟨(Lib.trimB s.data.toList c).toArray⟩) ∧ (w' = w ∨ w' = w.drew) := Any.strings_Trim_one Tryz.lays160 s c hc w hs
def Tryz.lays105_ren : Go.Shelf.Ren := ⟨fun | 105 => 39 | 212 => 63 | 99 => 64 | 165 => 65 | 166 => 66 | 170 => 67 | 169 => 68 | 263 => 95 | 264 => 96 | 206 => 97 | 240 => 98 | 241 => 99 | 276 => 120 | 277 => 121 | n => n, fun | 9 => 9 | 3 => 3 | 4 => 4 | 20 => 20 | 0 => 0 | 46 => 92 | 109 => 138 | 5 => 5 | 72 => 143 | 76 => 147 | 51 => 22 | 146 => 178 | 53 => 180 | 148 => 181 | 70 => 141 | 37 => 48 | 75 => 146 | 127 => 183 | 164 => 209 | 80 => 33 | n => n, fun | n => n⟩
theorem Tryz.lays105 : Go.Proofs.Lays.n105 Tryz.prog Tryz.lays105_ren := {
  mixed := by kernel_rfl
  f99 := Tryz.func64.trans (congrArg some (by kernel_rfl))
  f105 := Tryz.func39.trans (congrArg some (by kernel_rfl))
  f165 := Tryz.func65.trans (congrArg some (by kernel_rfl))
  f166 := Tryz.func66.trans (congrArg some (by kernel_rfl))
  f169 := Tryz.func68.trans (congrArg some (by kernel_rfl))
  f170 := Tryz.func67.trans (congrArg some (by kernel_rfl))
  f206 := Tryz.func97.trans (congrArg some (by kernel_rfl))
  f212 := Tryz.func63.trans (congrArg some (by kernel_rfl))
  f240 := Tryz.func98.trans (congrArg some (by kernel_rfl))
  f241 := Tryz.func99.trans (congrArg some (by kernel_rfl))
  f263 := Tryz.func95.trans (congrArg some (by kernel_rfl))
  f264 := Tryz.func96.trans (congrArg some (by kernel_rfl))
  f276 := Tryz.func120.trans (congrArg some (by kernel_rfl))
  f277 := Tryz.func121.trans (congrArg some (by kernel_rfl))
  t0 := Tryz.underlying0
  a0 := Tryz.isAgg0
  z0 := Tryz.sizeOf0
  v0 := Tryz.zeroValue0
  t3 := Tryz.underlying3
  a3 := Tryz.isAgg3
  z3 := Tryz.sizeOf3
  v3 := Tryz.zeroValue3
  t4 := Tryz.underlying4
  a4 := Tryz.isAgg4
  z4 := Tryz.sizeOf4
  v4 := Tryz.zeroValue4
  t5 := Tryz.underlying5
  a5 := Tryz.isAgg5
  z5 := Tryz.sizeOf5
  v5 := Tryz.zeroValue5
  t9 := Tryz.underlying9
  a9 := Tryz.isAgg9
  z9 := Tryz.sizeOf9
  v9 := Tryz.zeroValue9
  t20 := Tryz.underlying20
  a20 := Tryz.isAgg20
  z20 := Tryz.sizeOf20
  v20 := Tryz.zeroValue20
  t37 := Tryz.underlying48
  a37 := Tryz.isAgg48
  z37 := Tryz.sizeOf48
  v37 := Tryz.zeroValue48
  t46 := Tryz.underlying92
  a46 := Tryz.isAgg92
  z46 := Tryz.sizeOf92
  v46 := Tryz.zeroValue92
  t51 := Tryz.underlying22
  a51 := Tryz.isAgg22
  z51 := Tryz.sizeOf22
  v51 := Tryz.zeroValue22
  t53 := Tryz.underlying180
  a53 := Tryz.isAgg180
  z53 := Tryz.sizeOf180
  v53 := Tryz.zeroValue180
  t70 := Tryz.underlying141
  a70 := Tryz.isAgg141
  z70 := Tryz.sizeOf141
  v70 := Tryz.zeroValue141
  t72 := Tryz.underlying143
  a72 := Tryz.isAgg143
  z72 := Tryz.sizeOf143
  v72 := Tryz.zeroValue143
  t75 := Tryz.underlying146
  a75 := Tryz.isAgg146
  z75 := Tryz.sizeOf146
  v75 := Tryz.zeroValue146
  t76 := Tryz.underlying147
  a76 := Tryz.isAgg147
  z76 := Tryz.sizeOf147
  v76 := Tryz.zeroValue147
  t109 := Tryz.underlying138
  a109 := Tryz.isAgg138
  z109 := Tryz.sizeOf138
  v109 := Tryz.zeroValue138
  t127 := Tryz.underlying183
  a127 := Tryz.isAgg183
  z127 := Tryz.sizeOf183
  v127 := Tryz.zeroValue183
  t146 := Tryz.underlying178
  a146 := Tryz.isAgg178
  z146 := Tryz.sizeOf178
  v146 := Tryz.zeroValue178
  t148 := Tryz.underlying181
  a148 := Tryz.isAgg181
  z148 := Tryz.sizeOf181
  v148 := Tryz.zeroValue181
  t164 := Tryz.underlying209
  a164 := Tryz.isAgg209
  z164 := Tryz.sizeOf209
  v164 := Tryz.zeroValue209 }
theorem Tryz.Builder_Extra_105 : Builder.Extra Tryz.prog Tryz.lays105_ren := {
  sizeBuilder := by kernel_rfl
  liesBuilder := by kernel_rfl
  t5 := Tryz.underlying5
  a5 := Tryz.isAgg5
  z5 := Tryz.sizeOf5
  v5 := Tryz.zeroValue5
  infoByte := by kernel_rfl
  cellsByte := by kernel_rfl
  sizeByte := by kernel_rfl
  neB5 := by decide }
open Go.RowKit Go.Lib in
theorem Tryz.strings_Repeat (s : ByteArray) (c : Nat) (w : World) (hc : c ≤ 9223372036854775807) (hlen : s.size * c ≤ 140737488355328) :
    Calls Tryz.prog 39 #[.string s, .int .i64 c] w fun e w' => e = .returned (.string ⟨(Lib.repeatL s.data.toList c).toArray⟩) ∧ Below w.heap.size w w' := Any.strings_Repeat Tryz.lays105 Tryz.Builder_Extra_105 s c w hc hlen
end Go.Proofs

namespace Go.Proofs.YthnbeodpckmjnaaGreatDoor
open Go.RowKit
set_option linter.unusedVariables false
set_option linter.unusedSimpArgs false

theorem spec_lib {P : Program} {K : FuncId} {us : List Value} {u : Value} (h : ∀ w, Calls P K us.toArray w fun e w' => e = .returned u ∧ Below w.heap.size w w') :
    Spec P K (us.map fun v => .ca (.val (.sc v))) [] (.ca (.val (.sc u))) [] := by
  have : (us.map fun v => (Arg.ca (.val (.sc v)))) = (us.map V.sc).map fun x => .ca (.val x) := by simp
  rw [this]
  refine spec_vals fun m w vals hm hl hv => ?_
  have hv : vals = us := by
    apply List.ext_getElem (by simpa using hl)
    intro j h1 h2
    exact Rd.sc_eq (hv j (.sc us[j]) vals[j] (by rw [List.getElem?_map, List.getElem?_eq_getElem h2]; rfl) (List.getElem?_eq_getElem h1))
  subst hv
  refine (h w).mono ?_
  rintro e w' ⟨rfl, hb⟩
  have hc : Chg Nothing w w' := (Chg.ofBelow hb).mono fun i hi h => by omega
  exact ⟨u, m, rfl, Rd.sc u, Mem.le_refl m, fun b i v h1 => (hc.cell (World.block_lt_of_cell? w _ (hm b i v h1)) id).trans (hm b i v h1), hc, fun b i _ => rfl⟩
end Go.Proofs.YthnbeodpckmjnaaGreatDoor
namespace Go.Proofs.YthnbeodpckmjnaaGreatDoor
open Go.RowKit
set_option linter.unusedVariables false
set_option linter.unusedSimpArgs false

theorem nodup_len : ∀ (n : Nat) (s : List Nat), s.Nodup → (∀ i ∈ s, i < n) → s.length ≤ n
  | 0, s, _, h => by
    cases s with
    | nil => simp
    | cons a s => exact absurd (h a (by simp)) (by omega)
  | n + 1, s, hn, h => by
    by_cases hm : n ∈ s
    · have h1 := nodup_len n (s.erase n) (hn.erase n) (fun i hi => by
        have h2 := (hn.mem_erase_iff).1 hi
        have h3 := h i h2.2
        have h4 := h2.1
        omega)
      rw [List.length_erase_of_mem hm] at h1
      omega
    · have h1 := nodup_len n s hn (fun i hi => by
        have h2 := h i hi
        have h3 : i ≠ n := fun e => hm (e ▸ hi)
        omega)
      omega
theorem nodup_snoc {s : List Nat} {i : Nat} (hn : s.Nodup) (hi : i ∉ s) : (s ++ [i]).Nodup := List.nodup_append.2 ⟨hn, by simp, fun a ha b hb => by simp at hb; subst hb; exact fun e => hi (e ▸ ha)⟩
section
variable {P : Program} {ops : Array Oper} {C : Ctx} {md : Bool} {σ : St} {K : St → List FP → Prop} {acc : List FP} {rest : List Oper}
theorem stepU_mkS {d : Tmp} {t : TypeId} {x y : Operand} : stepU P σ (some d) (.makeSlice t x y) = none := rfl
attribute [go_sem] stepU_mkS
/-- What comes next in a map: names of the iterator and of the map, what was met, what the map holds. -/
theorem nxt_s {d : Tmp} {x : Operand} {ty : TypeId} {pos : String} {af : Array Edge} (o k : Id) (s : List Nat) (kvs : List (Value × T)) (h : ev σ x = .ptr o (gg σ o) 0 ∧ σ (.o o) = .itr k (gg σ k) s ∧ σ (.r k) = .tree (.mp kvs))
    (k1 : ∀ (i : Nat) (p : Value × T), kvs[i]? = some p → i ∉ s → exec P ops C true K rest (puts σ [(.o o, .non), (.o o, .itr k (gg σ k) (s ++ [i])), (.s d, .av (.val (.tup [.sc (.bool true), .sc p.1, gotV .any (some p.2)])))]) ((rdl x ++ [.g o, .o o, .g k, .r k], [.o o, .o o, .s d]) :: acc))
    (k2 : (∀ i, i < kvs.length → i ∈ s) → exec P ops C true K rest (puts σ [(.s d, .av (.val (.tup [.sc (.bool false)])))]) ((rdl x ++ [.g o, .o o, .g k, .r k], [.s d]) :: acc)) :
    Run P ops C true K (⟨some d, .next x false, ty, pos, af, none⟩ :: rest) σ acc :=
  run_next rfl h.1 rfl h.2.1 rfl h.2.2 k1 k2
end
end Go.Proofs.YthnbeodpckmjnaaGreatDoor
namespace Go.Proofs.YthnbeodpckmjnaaGreatDoor
open Go.RowKit
set_option linter.unusedVariables false
set_option linter.unusedSimpArgs false

section
variable {P : Program} {ops : Array Oper} {C : Ctx} {σ : St} {K : St → List FP → Prop} {acc : List FP} {rest : List Oper}
theorem guard_slice {op : BinOp} {t : TypeId} {x y : Operand} {a : Option Addr} {n c : Nat} {u : Value} (w : World) : (eqGuard op t x y (.slice a n c) u).run P w = .ok () w := by
  unfold eqGuard
  cases op <;> simp
theorem rd_slice {m : Mem} {sz : Nat} {es : List (List V)} {v : Value} (h : Rd m (.lst sz es) v) : ∃ a n c, v = .slice a n c ∧ (a.isNone = true → es = []) := by
  cases h with
  | nil A c => exact ⟨_, _, _, rfl, fun _ => rfl⟩
  | lst => exact ⟨_, _, _, rfl, fun h => by cases h⟩
/-- A slice is nil, then it is without elements, or it is not. -/
theorem nil_s {d : Tmp} {t t' : TypeId} {x : Operand} {n c : Nat} {ty : TypeId} {pos : String} {af : Array Edge} (sz : Nat) (es : List (List V)) (hx : plain (ev σ x) = .lst sz es) (ht : (tiOf P t).map (·.sh) = some .slice)
    (k : ∀ b : Bool, (b = true → es = []) → exec P ops C true K rest (put σ (.s d) (.av (.val (.sc (.bool b))))) ((rdl x, [.s d]) :: acc)) :
    Run P ops C true K (⟨some d, .binOp .eql t x (.const (.slice none n c)) t', ty, pos, af, none⟩ :: rest) σ acc :=
  .alt (L := rdl x) (Ws := fun W => ∃ b : Bool, (b = true → es = []) ∧ W = [(.s d, .av (.val (.sc (.bool b))))]) rfl (fun E σ' a w Kt Q hd hr0 hg hK => by
      rw [if_pos (by simp [Region.wanted])]
      have hr := rds_all hr0
      have hv := ev_ok hg x
      rw [ev_congr hr] at hv
      have hv := plain_ok hv
      rw [hx] at hv
      obtain ⟨A, n', c', h1, h2⟩ := rd_slice hv
      obtain ⟨e, he⟩ := sh_slice ht
      show Oper.upon _ _ _ _ _ _
      have hrun : (execOp a.eval ⟨some d, .binOp .eql t x (.const (.slice none n c)) t', ty, pos, af, none⟩).run P w = .ok (.value (.bool A.isNone)) w := by
        have hc : a.eval (.const (.slice none n c)) = .slice none n c := rfl
        simp only [execOp, h1, hc, Sem.run_bind, guard_slice, Result.andThen_ok, Lib.run_eql_slice_nil w t e A n' c' n c he, Sem.run_pure]
      rw [hrun]
      exact hK _ _ _ E ⟨A.isNone, h2, rfl⟩ (hg.slot d _ _ (hd d rfl) (Rd.sc _))) fun W hW => by
    obtain ⟨b, h1, rfl⟩ := hW
    exact exec_run (k b h1)
end

/-! ### Rows that change: made, read as a text, taken, let go -/
section
variable {P : Program} {ops : Array Oper} {C : Ctx} {E : Env} {σ : St} {a : Act} {w : World} {md : Bool} {K : St → List FP → Prop} {acc : List FP} {rest : List Oper} {Q : Exit → St → Prop}
end
end Go.Proofs.YthnbeodpckmjnaaGreatDoor

namespace Go.Proofs.YthnbeodpckmjnaaGreatDoor
open Go.RowKit
set_option linter.unusedVariables false
set_option linter.unusedSimpArgs false

theorem rep0 (c : Nat) (hc : c ≤ 1000) : Spec Tryz.prog 39 [.ca (.val (vs [0])), .ca (.val (vi c))] [] (.ca (.val (vs (zer c)))) [] := by
  have e : Lib.repeatL [0] c = zer c := by
    induction c with
    | zero => rfl
    | succ c ih => rw [Lib.repeatL, ih (by omega)]; rfl
  refine spec_lib (us := [str [0], .int .i64 c]) (u := str (zer c)) fun w => ?_
  have := Tryz.strings_Repeat ⟨#[0]⟩ c w (by omega) (by show 1 * c ≤ _; omega)
  rw [show ((⟨#[0]⟩ : ByteArray).data.toList) = [0] from rfl, e] at this
  exact this
set_option maxRecDepth 100000 in
set_option maxHeartbeats 8000000 in
theorem notes_pad (l : List UInt8) (k : Nat) (hk : k ≤ 1) (hl : l.length ≤ 1099511627776) : Spec Tryz.prog 126 [.ptr 0 0, .ca (.val (vi k))] [outO l] (.ca (.val (.tup []))) [outO (l ++ zer (padN l.length k))] := by
  have hp : padN l.length k ≤ 4 := by unfold padN; omega
  have hc := rep0 (padN l.length k) (by omega)
  have e : (k : Int) + (4 - ((l.length : Int) + k) % 4) % 4 = (padN l.length k : Int) := by unfold padN; omega
  refine spec_of Tryz.func126 rfl Tryz.ntmps126 Tryz.results126 ⟨by decide, by simp⟩ fun C hC => ?_
  (repeat (first | refine sp_ ?_ | exact ex0))
  refine call_s Tryz.call17 (out_bytes l (by omega)) [(1000, 0)] ?_
  (repeat (first | refine sp_ ?_ | exact ex0))
  refine call_s Tryz.call39 hc [] ?_
  (repeat (first | refine sp_ ?_ | exact ex0))
  have hz := zer_len (padN l.length k)
  (repeat (first | refine sp_ ?_ | exact ex0))
  refine call_s Tryz.call42 (out_raw l [zer (padN l.length k)] (by simp only [List.flatten_cons, List.flatten_nil, List.append_nil]; omega) (by simp)) [(1000, 0)] ?_
  (repeat (first | refine sp_ ?_ | exact ex0))
  (refine ret_s [] ?_; simp (decide := true) (disch := omega) only [go_sem, ↓reduceIte, ↓put_at])
  simp
abbrev n9L (x : N9) : List V := [vu x.src, vs x.text]
def n9El (x : N9) : List V := n9L x
abbrev zn9L (x : N9) : List V := [vi x.src, vs x.text]
def zn9El (x : N9) : List V := zn9L x
attribute [go_sem] n9El zn9El
def N9.Ok (x : N9) : Prop := (0 ≤ x.src ∧ x.src < 4294967296) ∧ x.text.length ≤ maxLen
set_option maxRecDepth 100000 in
set_option maxHeartbeats 4000000 in
theorem notes_names (l : List N9) (hl : l.length ≤ maxLen) (ho : ∀ x ∈ l, x.Ok) : Spec Tryz.prog 105 [.ca (.val (.lst 2 (l.map n9El)))] [] (.ca (.val (pcV (namesP l)))) [] := by
  unfold maxLen at hl
  obtain ⟨R, hR⟩ : ∃ R, R = namesP l := ⟨_, rfl⟩
  rw [← hR]
  unfold namesP at hR
  by_cases h31 : 31 < l.length
  · rw [if_neg (by omega)] at hR
    subst hR
    refine spec_of Tryz.func105 rfl Tryz.ntmps105 Tryz.results105 ⟨by decide, by simp⟩ fun C hC => ?_
    (repeat (first | refine sp_ ?_ | exact ex0))
    (refine ret_s [] ?_; simp (decide := true) (disch := omega) only [go_sem, ↓reduceIte, ↓put_at])
  refine spec_of Tryz.func105 rfl Tryz.ntmps105 Tryz.results105 ⟨by decide, by simp⟩ fun C hC => ?_
  (repeat (first | refine sp_ ?_ | exact ex0))
  refine own_c (3, 0) 0 (3, 1) 5 1 ?_
  simp (decide := true) (disch := omega) only [go_sem, ↓reduceIte, ↓put_at]
  refine loop_s (α := {j : Nat // j ≤ l.length ∧ (l.take j).all mayN = true}) (fun j => [(.s 0, .av (.val (.lst 2 (l.map n9El)))), (.s 2, .av (.ptr (2, 0) 0 0)), (.o (2, 0), .num 3), (.s 3, .av (.ptr (3, 0) 0 0)), (.o (3, 0), .num 1), (.c (3, 0) 0, .av (.own (3, 1) 0 5 1 (((l.take j.1).flatMap itemB).map byteEl))), (.k (3, 1), .row 5 1 (((l.take j.1).flatMap itemB).map byteEl).length), (.s 10, .av (.val (.lst 2 (l.map n9El)))), (.s 11, .av (.val (vi l.length))), (.s 12, .av (.val (vi j.1)))]) (fun j => l.length - j.1) ⟨0, Nat.zero_le _, rfl⟩ ?_ (fun j => ?_)
  · simp only [List.take_zero, List.flatMap_nil]
    simp (decide := true) (disch := omega) only [go_sem, ↓reduceIte, ↓put_at]
  · obtain ⟨j, hj, ha⟩ := j
    dsimp only at hj ⊢
    have hw := items_le _ ha
    have hwm := items_mod (l.take j)
    rw [List.length_take, Nat.min_eq_left hj] at hw
    by_cases hlt : j < l.length
    · have ht : l.take (j + 1) = l.take j ++ [l[j]] := List.take_succ_eq_append_getElem hlt
      have hmem := List.getElem_mem hlt
      obtain ⟨o1, o2⟩ := ho _ hmem
      by_cases hm : mayN l[j] = true
      · have hn : (l.take (j + 1)).all mayN = true := by rw [ht, List.all_append, ha]; simp [hm]
        unfold mayN at hm
        rw [decide_eq_true_eq] at hm
        have hne : l[j].text ≠ [] := fun h => by rw [h] at hm; simp at hm
        generalize hB : (l.take j).flatMap itemB = B at *
        have hq := puts'_length 4 [l[j].src]
        have hq2 := puts'_length 1 [1, (l[j].text.length : Int)]
        simp only [List.length_cons, List.length_nil] at hq hq2
        have c1 := out_u32 B [l[j].src] (by simp only [List.length_cons, List.length_nil]; omega) (by simpa using o1)
        have c2 := out_u8 (B ++ puts' 4 [l[j].src]) [1, (l[j].text.length : Int)] (by simp only [List.length_append, List.length_cons, List.length_nil]; omega)
        have c3 := out_raw (B ++ puts' 4 [l[j].src] ++ puts' 1 [1, (l[j].text.length : Int)]) [l[j].text] (by simp only [List.length_append, List.flatten_cons, List.flatten_nil, List.append_nil]; omega) (by simp)
        have c4 := notes_pad (B ++ puts' 4 [l[j].src] ++ puts' 1 [1, (l[j].text.length : Int)] ++ [l[j].text].flatten) 1 (by decide) (by simp only [List.length_append, List.flatten_cons, List.flatten_nil, List.append_nil]; omega)
        have c5 : padN (B ++ puts' 4 [l[j].src] ++ puts' 1 [1, (l[j].text.length : Int)] ++ [l[j].text].flatten).length 1 = padN (6 + l[j].text.length) 1 := padN_mod _ _ _ (by simp only [List.length_append, List.flatten_cons, List.flatten_nil, List.append_nil]; omega)
        rw [c5] at c4
        have hb : (l[j].text == []) = false := by simpa using hne
        (repeat (first | refine sp_ ?_ | exact ex0))
        simp only [hb]
        (repeat (first | refine sp_ ?_ | exact ex0))
        refine call_s Tryz.call41 c1 [(3, 0)] ?_
        (repeat (first | refine sp_ ?_ | exact ex0))
        refine call_s Tryz.call13 c2 [(3, 0)] ?_
        (repeat (first | refine sp_ ?_ | exact ex0))
        refine call_s Tryz.call42 c3 [(3, 0)] ?_
        (repeat (first | refine sp_ ?_ | exact ex0))
        refine call_s Tryz.call126 c4 [(3, 0)] ?_
        (repeat (first | refine sp_ ?_ | exact ex0))
        have e1 : (l.take (j + 1)).flatMap itemB = B ++ puts' 4 [l[j].src] ++ puts' 1 [1, (l[j].text.length : Int)] ++ [l[j].text].flatten ++ zer (padN (6 + l[j].text.length) 1) := by
          rw [ht, List.flatMap_append, hB]
          simp [itemB]
        refine next_s ⟨j + 1, hlt, hn⟩ ⟨?_, by dsimp only; omega⟩
        dsimp only
        rw [e1]
        simp (decide := true) (disch := omega) only [go_sem, ↓reduceIte, ↓put_at]
      · have hR0 : R = (0, 0, []) := by
          rw [hR, if_neg]
          intro h
          have := List.all_eq_true.1 h.2 _ hmem
          exact hm this
        subst hR0
        unfold mayN at hm
        rw [decide_eq_true_eq] at hm
        by_cases h0 : l[j].text = []
        · have hb : (l[j].text == []) = true := by simpa using h0
          (repeat (first | refine sp_ ?_ | exact ex0))
          simp only [hb]
          (repeat (first | refine sp_ ?_ | exact ex0))
          (refine ret_s [] ?_; simp (decide := true) (disch := omega) only [go_sem, ↓reduceIte, ↓put_at])
        · have h1 : 0 < l[j].text.length := List.length_pos_iff.2 h0
          have hb : (l[j].text == []) = false := by simpa using h0
          (repeat (first | refine sp_ ?_ | exact ex0))
          simp only [hb]
          (repeat (first | refine sp_ ?_ | exact ex0))
          (refine ret_s [] ?_; simp (decide := true) (disch := omega) only [go_sem, ↓reduceIte, ↓put_at])
    · have e : l.take j = l := List.take_of_length_le (by omega)
      rw [e] at hw ha
      simp only [e]
      have hR0 : R = ((l.length : Int), 202, l.flatMap itemB) := by rw [hR, if_pos ⟨by omega, ha⟩]
      subst hR0
      (repeat (first | refine sp_ ?_ | exact ex0))
      refine call_s Tryz.call17 (out_bytes (l.flatMap itemB) (by omega)) [(3, 0)] ?_
      (repeat (first | refine sp_ ?_ | exact ex0))
      (refine ret_s [] ?_; simp (decide := true) (disch := omega) only [go_sem, ↓reduceIte, ↓put_at])
end Go.Proofs.YthnbeodpckmjnaaGreatDoor

namespace Go.Proofs.YthnbeodpckmjnaaGreatDoor
open Go.RowKit
set_option linter.unusedVariables false
set_option linter.unusedSimpArgs false

attribute [go_sem] putZ_length
abbrev y9L (b : Y9) : List V := [vs b.reason, .lst 1 (b.srcs.map u32El)]
structure Y9.Ok (b : Y9) : Prop where
  reason : b.reason.length ≤ maxLen
  len : b.srcs.length ≤ maxLen
  srcs : ∀ n ∈ b.srcs, 0 ≤ n ∧ n < 4294967296
set_option maxRecDepth 100000 in
set_option maxHeartbeats 4000000 in
theorem notes_bye (b : Y9) (ho : b.Ok) : Spec Tryz.prog 107 [.ca (.val (.agg (y9L b)))] [] (.ca (.val (pcV (byeP b)))) [] := by
  obtain ⟨r, ss⟩ := b
  obtain ⟨o1, o2, o3⟩ := ho
  obtain ⟨R, hR⟩ : ∃ R, R = byeP ⟨r, ss⟩ := ⟨_, rfl⟩
  rw [← hR]
  unfold byeP mayY at hR
  unfold maxLen at o1 o2
  dsimp only at *
  by_cases h1 : 31 < ss.length
  · rw [if_neg (by simp; omega)] at hR
    subst hR
    refine spec_of Tryz.func107 rfl Tryz.ntmps107 Tryz.results107 ⟨by decide, by simp⟩ fun C hC => ?_
    (repeat (first | refine sp_ ?_ | exact ex0))
    (refine ret_s [] ?_; simp (decide := true) (disch := omega) only [go_sem, ↓reduceIte, ↓put_at])
  by_cases h2 : 255 < r.length
  · rw [if_neg (by simp; omega)] at hR
    subst hR
    refine spec_of Tryz.func107 rfl Tryz.ntmps107 Tryz.results107 ⟨by decide, by simp⟩ fun C hC => ?_
    (repeat (first | refine sp_ ?_ | exact ex0))
    (refine ret_s [] ?_; simp (decide := true) (disch := omega) only [go_sem, ↓reduceIte, ↓put_at])
  rw [if_pos (by simp; omega)] at hR
  have hq := puts'_length 4 ss
  have c1 := out_u32 [] ss (by simp only [List.length_nil]; omega) o3
  rw [List.nil_append] at c1
  by_cases hr : r = []
  · subst hr
    have hR' : R = ((ss.length : Int), 203, puts' 4 ss) := by rw [hR]; simp [reasonB]
    subst hR'
    refine spec_of Tryz.func107 rfl Tryz.ntmps107 Tryz.results107 ⟨by decide, by simp⟩ fun C hC => ?_
    (repeat (first | refine sp_ ?_ | exact ex0))
    refine call_s Tryz.call41 c1 [(3, 0)] ?_
    (repeat (first | refine sp_ ?_ | exact ex0))
    refine call_s Tryz.call17 (out_bytes (puts' 4 ss) (by omega)) [(3, 0)] ?_
    (repeat (first | refine sp_ ?_ | exact ex0))
    (refine ret_s [] ?_; simp (decide := true) (disch := omega) only [go_sem, ↓reduceIte, ↓put_at])
  · have hb : (r == []) = false := by simpa using hr
    have hrl : 0 < r.length := List.length_pos_iff.2 hr
    have hq2 := puts'_length 1 [(r.length : Int)]
    simp only [List.length_cons, List.length_nil] at hq2
    have c2 := out_u8 (puts' 4 ss) [(r.length : Int)] (by simp only [List.length_cons, List.length_nil]; omega)
    have c3 := out_raw (puts' 4 ss ++ puts' 1 [(r.length : Int)]) [r] (by simp only [List.length_append, List.flatten_cons, List.flatten_nil, List.append_nil]; omega) (by simp)
    have c4 := notes_pad (puts' 4 ss ++ puts' 1 [(r.length : Int)] ++ [r].flatten) 0 (by decide) (by simp only [List.length_append, List.flatten_cons, List.flatten_nil, List.append_nil]; omega)
    have e1 : padN (puts' 4 ss ++ puts' 1 [(r.length : Int)] ++ [r].flatten).length 0 = padN (1 + r.length) 0 := padN_mod _ _ _ (by simp only [List.length_append, List.flatten_cons, List.flatten_nil, List.append_nil]; omega)
    rw [e1] at c4
    have hpz := zer_len (padN (1 + r.length) 0)
    have hpz2 : padN (1 + r.length) 0 ≤ 4 := by unfold padN; omega
    have e2 : puts' 4 ss ++ puts' 1 [(r.length : Int)] ++ [r].flatten ++ zer (padN (1 + r.length) 0) = puts' 4 ss ++ reasonB r := by unfold reasonB; rw [if_neg hr]; simp
    have e3 : (puts' 4 ss ++ reasonB r).length ≤ 1000 := by rw [← e2]; simp only [List.length_append, List.flatten_cons, List.flatten_nil, List.append_nil]; omega
    rw [e2] at c4
    subst hR
    refine spec_of Tryz.func107 rfl Tryz.ntmps107 Tryz.results107 ⟨by decide, by simp⟩ fun C hC => ?_
    (repeat (first | refine sp_ ?_ | exact ex0))
    refine call_s Tryz.call41 c1 [(3, 0)] ?_
    (repeat (first | refine sp_ ?_ | exact ex0))
    simp only [hb]
    (repeat (first | refine sp_ ?_ | exact ex0))
    refine call_s Tryz.call13 c2 [(3, 0)] ?_
    (repeat (first | refine sp_ ?_ | exact ex0))
    refine call_s Tryz.call42 c3 [(3, 0)] ?_
    (repeat (first | refine sp_ ?_ | exact ex0))
    refine call_s Tryz.call126 c4 [(3, 0)] ?_
    (repeat (first | refine sp_ ?_ | exact ex0))
    refine call_s Tryz.call17 (out_bytes (puts' 4 ss ++ reasonB r) (by omega)) [(3, 0)] ?_
    (repeat (first | refine sp_ ?_ | exact ex0))
    (refine ret_s [] ?_; simp (decide := true) (disch := omega) only [go_sem, ↓reduceIte, ↓put_at])
end Go.Proofs.YthnbeodpckmjnaaGreatDoor

namespace Go.Proofs.YthnbeodpckmjnaaGreatDoor
open Go.RowKit
set_option linter.unusedVariables false
set_option linter.unusedSimpArgs false

set_option maxRecDepth 100000 in
set_option maxHeartbeats 8000000 in
theorem pp_ne (a1 b1 : Int) (a2 b2 : Int) (a3 b3 : List UInt8) (w : World) : (binOp .neq 41 (.agg [.int .i64 a1, .int .i64 a2, str a3].toArray) (.agg [.int .i64 b1, .int .i64 b2, str b3].toArray)).run Tryz.prog w = .ok (.bool (!decide (a1 = b1 ∧ a2 = b2 ∧ a3 = b3))) w := by
  by_cases h1 : a1 = b1
  · by_cases h2 : a2 = b2
    · by_cases h3 : a3 = b3
      · subst h1 h2 h3; simp [go_sem]
      · have e : (a3 == b3) = false := by simpa using h3
        simp [go_sem, h1, h2, h3, e]
    · simp [go_sem, h1, h2]
  · simp [go_sem, h1]
end Go.Proofs.YthnbeodpckmjnaaGreatDoor

