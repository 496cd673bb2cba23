/- The library's strings.Builder: contracts of the kit, laid at this program by hand (what its panic would name is named nowhere). -/
import Derived.Shelf.Strings.Builder1
import Derived.Test.YtkclmofjlmeolaaGreatDoorProg
import Derived.Test.YtkclmofjlmeolaaGreatDoorSpl1z
namespace Go.Proofs.YtkclmofjlmeolaaGreatDoor
open Go.Shelf
def bld_ren : Go.Shelf.Ren := ⟨fun | 166 => 66 | 240 => 87 | 276 => 107 | 169 => 67 | n => n, fun | 0 => 0 | 3 => 3 | 4 => 4 | 9 => 9 | 20 => 20 | 37 => 60 | 70 => 119 | 72 => 121 | 75 => 123 | 164 => 166 | 5 => 5 | 127 => 151 | 80 => 38 | n => n, fun | n => n⟩
theorem bld166 : Go.Proofs.Lays.n166 Tryz.prog bld_ren := {
  mixed := by kernel_rfl
  f166 := Tryz.func66.trans (congrArg some (by kernel_rfl))
  f240 := Tryz.func87.trans (congrArg some (by kernel_rfl))
  f276 := Tryz.func107.trans (congrArg some (by kernel_rfl))
  t0 := Tryz.underlying0
  a0 := Tryz.isAgg0
  z0 := Tryz.sizeOf0
  v0 := Tryz.zeroValue0
  t3 := Tryz.underlying3
  a3 := Tryz.isAgg3
  z3 := Tryz.sizeOf3
  v3 := Tryz.zeroValue3
  t4 := Tryz.underlying4
  a4 := Tryz.isAgg4
  z4 := Tryz.sizeOf4
  v4 := Tryz.zeroValue4
  t9 := Tryz.underlying9
  a9 := Tryz.isAgg9
  z9 := Tryz.sizeOf9
  v9 := Tryz.zeroValue9
  t20 := Tryz.underlying20
  a20 := Tryz.isAgg20
  z20 := Tryz.sizeOf20
  v20 := Tryz.zeroValue20
  t37 := Tryz.underlying60
  a37 := Tryz.isAgg60
  z37 := Tryz.sizeOf60
  v37 := Tryz.zeroValue60
  t70 := Tryz.underlying119
  a70 := Tryz.isAgg119
  z70 := Tryz.sizeOf119
  v70 := Tryz.zeroValue119
  t72 := Tryz.underlying121
  a72 := Tryz.isAgg121
  z72 := Tryz.sizeOf121
  v72 := Tryz.zeroValue121
  t75 := Tryz.underlying123
  a75 := Tryz.isAgg123
  z75 := Tryz.sizeOf123
  v75 := Tryz.zeroValue123
  t164 := Tryz.underlying166
  a164 := Tryz.isAgg166
  z164 := Tryz.sizeOf166
  v164 := Tryz.zeroValue166 }
theorem bld169 : Go.Proofs.Lays.n169 Tryz.prog bld_ren := {
  mixed := by kernel_rfl
  f169 := Tryz.func67.trans (congrArg some (by kernel_rfl))
  t0 := Tryz.underlying0
  a0 := Tryz.isAgg0
  z0 := Tryz.sizeOf0
  v0 := Tryz.zeroValue0
  t3 := Tryz.underlying3
  a3 := Tryz.isAgg3
  z3 := Tryz.sizeOf3
  v3 := Tryz.zeroValue3
  t9 := Tryz.underlying9
  a9 := Tryz.isAgg9
  z9 := Tryz.sizeOf9
  v9 := Tryz.zeroValue9
  t37 := Tryz.underlying60
  a37 := Tryz.isAgg60
  z37 := Tryz.sizeOf60
  v37 := Tryz.zeroValue60
  t70 := Tryz.underlying119
  a70 := Tryz.isAgg119
  z70 := Tryz.sizeOf119
  v70 := Tryz.zeroValue119
  t72 := Tryz.underlying121
  a72 := Tryz.isAgg121
  z72 := Tryz.sizeOf121
  v72 := Tryz.zeroValue121
  t127 := Tryz.underlying151
  a127 := Tryz.isAgg151
  z127 := Tryz.sizeOf151
  v127 := Tryz.zeroValue151 }
theorem bldX : Builder.Extra Tryz.prog bld_ren := {
  sizeBuilder := by kernel_rfl
  liesBuilder := by kernel_rfl
  t5 := Tryz.underlying5
  a5 := Tryz.isAgg5
  z5 := Tryz.sizeOf5
  v5 := Tryz.zeroValue5
  infoByte := by kernel_rfl
  cellsByte := by kernel_rfl
  sizeByte := by kernel_rfl
  neB5 := by decide }
open Go.RowKit in
theorem bld_write (B b : Nat) (bs : List Value) (s : ByteArray) (w : World) (h : Lib.IsBuilder 121 5 B b bs w) (hlen : bs.length + s.size ≤ 140737488355328) (hBw : B ≤ w.heap.size) :
    Calls Tryz.prog 66 #[.pointer (some ⟨b, 0, none⟩), .string s] w fun e w' => e = .returned (.tuple #[.int .i64 s.size, .nilIface]) ∧ (Lib.BuilderAt 121 5 B b (.pointer (some ⟨b, 0, none⟩)) (bs ++ Lib.strCells s) w' ∧ Below B w w') :=
  Any.Builder_WriteString bld166 bldX B b bs s w h hlen hBw
open Go.RowKit in
theorem bld_string (B b : Nat) (l : List UInt8) (w : World) (h : Lib.IsBuilder 121 5 B b (Lib.byteCells l) w) (hBw : B ≤ w.heap.size) :
    Calls Tryz.prog 67 #[.pointer (some ⟨b, 0, none⟩)] w fun e w' => e = .returned (.string ⟨l.toArray⟩) ∧ Below B w w' :=
  Any.Builder_String_any bld169 bldX B b l w h hBw
end Go.Proofs.YtkclmofjlmeolaaGreatDoor

namespace Go.Proofs.YtkclmofjlmeolaaGreatDoor
open Go.RowKit
set_option linter.unusedVariables false
set_option linter.unusedSimpArgs false

section
variable {m : Mem} {w w' : World} {bs : List Nat}
theorem CAok.keep {c : CA} {v : Value} {F : List Nat} (h : CAok m w bs c v F) (hw : ∀ b ∈ F, w'.heap[b]? = w.heap[b]?) : CAok m w' bs c v F := by
  cases c with
  | val x => exact h
  | own e sz es =>
    obtain ⟨⟨h1, xs, h2, h3⟩, rfl⟩ := h
    exact ⟨⟨h1, xs, own_heap h2 fun b hb => hw b (by simpa using hb), h3⟩, rfl⟩
  | hd x => exact ⟨h.1.mono (Mem.le_refl m) fun b hb => ⟨hw b hb, fun _ => rfl⟩, h.2⟩
  | hdl x i ob =>
    obtain ⟨⟨h1, h2⟩, b, h3, h4⟩ := h
    exact ⟨⟨h1.mono (Mem.le_refl m) fun b hb => ⟨hw b hb, fun _ => rfl⟩, h2⟩, b, h3, by rw [slotAt_of (fun b hb => hw b (h1.head h2 b hb))]; exact h4⟩
theorem ArgsOk.keep {args : List Arg} {vs : List Value} {F : List Nat} (h : ArgsOk m w bs args vs F) (hw : ∀ b ∈ F, w'.heap[b]? = w.heap[b]?) : ArgsOk m w' bs args vs F := by
  induction h with
  | nil => exact .nil
  | @cons a v F ax vs F' h hs hd ih =>
    refine .cons ?_ (ih fun b hb => hw b (List.mem_append_right _ hb)) hd
    cases a with
    | ca c => exact CAok.keep h fun b hb => hw b (List.mem_append_left _ hb)
    | ptr => exact h
    | fn => exact h
theorem ObjsOk.keep {bs' : List Nat} {objs : List (List CA)} {F : List Nat} (h : ObjsOk m w bs bs' objs F) (hw : ∀ b ∈ F, w'.heap[b]? = w.heap[b]?) : ObjsOk m w' bs bs' objs F := by
  induction h with
  | nil => exact .nil
  | cons hb hm h hn hs hd ih => exact .cons (by rw [hw _ (by simp)]; exact hb) hm (h.keep fun b hb => hw b (by simp [hb])) hn (ih fun b hb => hw b (by simp [hb])) hd
theorem CAok.lt {c : CA} {v : Value} {F : List Nat} (h : CAok m w bs c v F) : ∀ b ∈ F, b < w.heap.size := fun b hb => by
  cases c with
  | val x => rw [h.2] at hb; cases hb
  | own e sz es =>
    obtain ⟨⟨h1, xs, h2, h3⟩, rfl⟩ := h
    exact (h2.lt b (by simpa using hb)).2
  | hd x => exact (h.1.mem b hb).1
  | hdl x i ob => exact (h.1.1.mem b hb).1
theorem ArgsOk.lt {args : List Arg} {vs : List Value} {F : List Nat} (h : ArgsOk m w bs args vs F) : ∀ b ∈ F, b < w.heap.size := by
  induction h with
  | nil => intro b h; cases h
  | @cons a v F ax vs F' h hs hd ih =>
    intro b hb
    rcases List.mem_append.1 hb with hb | hb
    · cases a with
      | ca c => exact CAok.lt h b hb
      | ptr => rw [h.2] at hb; cases hb
      | fn => rw [h.2] at hb; cases hb
    · exact ih b hb
theorem ObjsOk.lt {bs' : List Nat} {objs : List (List CA)} {F : List Nat} (h : ObjsOk m w bs bs' objs F) : ∀ b ∈ F, b < w.heap.size := by
  induction h with
  | nil => intro b h; cases h
  | cons hb hm h hn hs hd ih =>
    intro b hb'
    rcases List.mem_append.1 hb' with hb' | hb'
    · rcases List.mem_cons.1 hb' with rfl | hb'
      · exact (Array.getElem?_eq_some_iff.1 hb).1
      · exact h.lt b hb'
    · exact ih b hb'
/-- The world of a call has grown alone. -/
theorem Holds.below {vals : List Value} {args : List Arg} {objs : List (List CA)} {F G : List Nat} {v : Value} {x : V} (h : Holds m w vals args objs bs F G) (hb : Below w.heap.size w w') (hv : Rd m x v) : Holds m w' [v] [.ca (.val x)] objs bs [] G ∧ Chg (fun b => b ∈ F ++ G) w w' := by
  have hc : Chg Nothing w w' := (Chg.ofBelow hb).mono fun i hi h => by omega
  refine ⟨⟨fun b i u h1 => (hc.cell (World.block_lt_of_cell? w _ (h.ms b i u h1)) id).trans (h.ms b i u h1), .cons (a := .ca (.val x)) (F := []) ⟨hv, rfl⟩ .nil (by simp), h.ob.keep fun b hb => hc.block b (h.ob.lt b hb) id, by simp⟩, hc.mono fun _ _ h => h.elim⟩
theorem ArgsOk.uncons {a : Arg} {ax : List Arg} {vs : List Value} {F : List Nat} (h : ArgsOk m w bs (a :: ax) vs F) : ∃ v vs' F1 F2, vs = v :: vs' ∧ ArgOk m w bs a v F1 ∧ ArgsOk m w bs ax vs' F2 ∧ F = F1 ++ F2 ∧ ∀ b ∈ F1, b ∉ F2 := by
  cases h with
  | cons h hs hd => exact ⟨_, _, _, _, rfl, h, hs, rfl, hd⟩
theorem ArgsOk.nil_inv {vs : List Value} {F : List Nat} (h : ArgsOk m w bs [] vs F) : vs = [] ∧ F = [] := by cases h; exact ⟨rfl, rfl⟩
/-- A frame's cells in the world. -/
theorem fr_world {f : Fr} {vals : List Value} {F G : List Nat} (h : Holds m w vals [.ptr 0 0] [frO f] bs F G) :
    ∃ (b mb : Nat) (ents : Array MapEntry) (clock : Nat) (ty : TypeId) (kvs : List (Value × T)), vals = [.pointer (some ⟨b, 0, none⟩)] ∧ w.heap[b]? = some (.cells #[.int .u32 f.tm, .int .i64 f.n, .int .i64 f.t0, .map (some mb), .int .i64 (sumP f.ps)] ty (0, 0)) ∧ w.heap[mb]? = some (.map ents clock) ∧
      kvs.Perm (kvF f.ps) ∧ ents.toList.map (·.key) = kvs.map (·.1) ∧ ∀ (j : Nat) (k : Value) (s : List UInt8), kvs[j]? = some (k, T.av (vs s)) → (ents.toList.map (·.val))[j]? = some (str s) := by
  obtain ⟨ms, ar, ob, di⟩ := h
  obtain ⟨_, _, _, _, rfl, ⟨⟨b0, h1, rfl⟩, _⟩, hs, _, _⟩ := ar.uncons
  obtain ⟨rfl, _⟩ := hs.nil_inv
  have ⟨b, vs, ty, F1, hbs, hb, hA⟩ : ∃ b vs ty F1, bs = [b] ∧ w.heap[b]? = some (.cells vs.toArray ty (0, 0)) ∧ ArgsOk m w bs ((frO f).map .ca) vs F1 := by
    have : ∀ bs', ObjsOk m w bs bs' [frO f] G → ∃ b vs ty F1, bs' = [b] ∧ w.heap[b]? = some (.cells vs.toArray ty (0, 0)) ∧ ArgsOk m w bs ((frO f).map .ca) vs F1 := fun bs' h => by
      cases h with
      | cons hb hm hA hn hs' hd =>
        cases hs'
        exact ⟨_, _, _, _, rfl, hb, hA⟩
    exact this bs ob
  subst hbs
  simp only [List.getElem?_cons_zero, Option.some.injEq] at h1
  subst h1
  simp only [frO, List.map_cons, List.map_nil] at hA
  obtain ⟨v1, _, _, _, rfl, a1, hA, _⟩ := hA.uncons
  obtain ⟨v2, _, _, _, rfl, a2, hA, _⟩ := hA.uncons
  obtain ⟨v3, _, _, _, rfl, a3, hA, _⟩ := hA.uncons
  obtain ⟨v4, _, _, _, rfl, a4, hA, _⟩ := hA.uncons
  obtain ⟨v5, _, _, _, rfl, a5, hA, _⟩ := hA.uncons
  obtain ⟨rfl, _⟩ := hA.nil_inv
  have e1 := Rd.sc_eq a1.1
  have e2 := Rd.sc_eq a2.1
  have e3 := Rd.sc_eq a3.1
  have e5 := Rd.sc_eq a5.1
  subst e1 e2 e3 e5
  obtain ⟨a4, _⟩ := a4
  cases a4 with
  | pm hp hh hs0 _ =>
    obtain ⟨mb, ents, clock, F5, rfl, q2, q3, q4, q5, q6, q7, q8, q9, q10⟩ := mp_inv hh
    refine ⟨_, mb, ents, clock, ty, _, rfl, hb, q2, hp, q4, fun j k s hj => ?_⟩
    obtain ⟨u, r1, r2⟩ := q8.get_av (j := j) (x := vs s) (by rw [List.getElem?_map, hj]; rfl)
    rw [r1, Rd.sc_eq r2]
/-- What a map gives at a key. -/
theorem lookup_at {P : Program} {b : Nat} {ents : Array MapEntry} {clock : Nat} (h2 : w.heap[b]? = some (.map ents clock)) {t kt e : TypeId} (ht : P.underlying t = some (.map kt e)) {key z : Value} {ks : List Value} (h4 : ents.toList.map (·.key) = ks) (hk : KeyOk P kt key ks) (hz : zeroOf P e = some z) :
    (key ∉ ks ∧ (Instr.lookup t (.map (some b)) key false).run P w = .ok z w) ∨ ∃ (j : Nat) (e0 : MapEntry), ents.toList[j]? = some e0 ∧ e0.key = key ∧ (Instr.lookup t (.map (some b)) key false).run P w = .ok e0.val w := by
  obtain ⟨k1, k2, k3⟩ := hk
  have hgo := MapKept.run_getObj_map (P := P) h2
  have hzr : (zeroValue e).run P w = .ok z w := by
    unfold zeroOf at hz
    obtain ⟨i, hi, hz⟩ := Option.bind_eq_some_iff.1 hz
    simp [zeroValue, typeInfo, hi, hz]
  rcases k3 w ents.toList h4 with ⟨q1, q2⟩ | ⟨j, e0, q1, q2, q3⟩
  · exact .inl ⟨q2, by simp [Instr.lookup, run_underlying ht, hgo, k1, q1, hzr]⟩
  · exact .inr ⟨j, e0, q2, q3, by simp [Instr.lookup, run_underlying ht, hgo, k1, q1]⟩
set_option maxRecDepth 100000 in
set_option maxHeartbeats 8000000 in
theorem part_at {f : Fr} (hf : f.Ok) {mb : Nat} {ents : Array MapEntry} {clock : Nat} {kvs : List (Value × T)} (hm : w.heap[mb]? = some (.map ents clock)) (hp : kvs.Perm (kvF f.ps)) (hk : ents.toList.map (·.key) = kvs.map (·.1)) (hv : ∀ (j : Nat) (k : Value) (s : List UInt8), kvs[j]? = some (k, T.av (vs s)) → (ents.toList.map (·.val))[j]? = some (str s)) (i : Nat) :
    (Instr.lookup 115 (.map (some mb)) (.int .i64 i) false).run Tryz.prog w = .ok (str ((getP f.ps i).getD [])) w := by
  have hmap : mapOf Tryz.prog 115 = some (3, 9) := by kernel_rfl
  have hti : (tiOf Tryz.prog 3).map (·.sh) = some (.int .i64) := by kernel_rfl
  have hz : zeroOf Tryz.prog 9 = some (str []) := by kernel_rfl
  have hkc : keyC (tiOf Tryz.prog 3) (.int .i64 i) (kvs.map (·.1)) := by
    cases h : tiOf Tryz.prog 3 with
    | none => rw [h] at hti; cases hti
    | some T =>
      rw [h] at hti
      have hti : T.sh = .int .i64 := Option.some.inj hti
      show keyIs T.sh _ ∧ keysIs T.sh _
      rw [hti]
      exact ⟨rfl, kvP_keys hp⟩
  have hget := kvP_get hf.nd hp (i := (i : Int)) (by omega)
  rw [Int.toNat_natCast] at hget
  have hkn : (kvs.map (·.1)).Nodup := ((hp.map (·.1)).nodup_iff).2 (kvF_nodup hf.nd)
  rcases lookup_at hm (mapOf_some hmap) hk (keyC_ok hkc) hz with ⟨q1, q2⟩ | ⟨j, e0, q1, q2, q3⟩
  · rw [q2]
    rw [kvGet_none q1] at hget
    cases hg : getP f.ps i with
    | none => rfl
    | some s => rw [hg] at hget; cases hget
  · rw [q3]
    have hlen : j < kvs.length := by
      have h1 := congrArg List.length hk
      simp only [List.length_map] at h1
      have h2 := (List.getElem?_eq_some_iff.1 q1).1
      omega
    have hkj : kvs[j].1 = .int .i64 i := by
      have h1 := congrArg (fun l => l[j]?) hk
      simp only [List.getElem?_map, q1, List.getElem?_eq_getElem hlen, Option.map_some, Option.some.injEq] at h1
      rw [← h1, q2]
    have hkk : kvs[j]? = some (.int .i64 i, kvs[j].2) := by rw [List.getElem?_eq_getElem hlen, ← hkj]
    have h3 := (kv_at hkn hkk).1
    rw [hget] at h3
    cases hg : getP f.ps i with
    | none => rw [hg] at h3; cases h3
    | some s =>
      rw [hg] at h3
      have h3 : T.av (vs s) = kvs[j].2 := Option.some.inj h3
      have h4 := hv j _ s (by rw [hkk, ← h3])
      rw [List.getElem?_map, q1] at h4
      have h4 : e0.val = str s := Option.some.inj h4
      rw [h4]
      rfl
/-- What Data meets behind its first call. -/
structure DatS (f : Fr) (m : Mem) (w0 : World) (G : List Nat) (b : Nat) (w : World) (e : Ending) : Prop where
  en : e = .returned (.bool (wholeF f))
  hs : ∃ m1 G1, Holds m1 w [.pointer (some ⟨b, 0, none⟩)] [.ptr 0 0] [frO f] [b] [] G1 ∧ m.le m1 ∧ Chg (fun b => b ∈ G) w0 w ∧ (∀ b i, b < w0.heap.size → b ∉ G → m1 b i = m b i) ∧ ∀ b ∈ G1, b ∈ G ∨ w0.heap.size ≤ b
  c1 : w.cell? ⟨b, 1, none⟩ = some (.int .i64 f.n)
  lk : ∃ mb, w.cell? ⟨b, 3, none⟩ = some (.map (some mb)) ∧ mb < w.heap.size ∧ ∀ w', Below w.heap.size w w' → ∀ i : Nat, (Instr.lookup 115 (.map (some mb)) (.int .i64 i) false).run Tryz.prog w' = .ok (str ((getP f.ps i).getD [])) w'
theorem data_whole {f : Fr} (hf : f.Ok) {b : Nat} {G : List Nat} (h : Holds m w [.pointer (some ⟨b, 0, none⟩)] [.ptr 0 0] [frO f] [b] [] G) :
    Calls Tryz.prog 64 #[.pointer (some ⟨b, 0, none⟩)] w fun e w' => DatS f m w G b w' e := by
  refine (spl_whole f hf m w _ _ _ _ h).mono ?_
  rintro e w1 ⟨v, m1, bs1, F1, G1, rfl, H, h1, h2, h3, h4, h5⟩
  have hb1 : bs1 = [b] := by
    have q1 := H.ob.len
    have q2 := h3 0 b rfl
    match bs1, q1, q2 with
    | [b'], _, q2 => simp at q2; rw [q2]
  subst hb1
  obtain ⟨_, _, _, _, hvv, ⟨hr, hF1⟩, ar, hF, _⟩ := H.ar.uncons
  cases hvv
  obtain ⟨_, rfl⟩ := ar.nil_inv
  have hr := Rd.sc_eq hr
  have H' : Holds m1 w1 [.pointer (some ⟨b, 0, none⟩)] [.ptr 0 0] [frO f] [b] [] G1 := ⟨H.ms, .cons (a := .ptr 0 0) (F := []) ⟨⟨b, rfl, rfl⟩, rfl⟩ .nil (by simp), H.ob, by simp⟩
  obtain ⟨b2, mb, ents, clock, ty, kvs, q0, q1, q2, q3, q4, q5⟩ := fr_world H'
  have q0 : b = b2 := by simpa using q0
  subst q0
  refine ⟨by rw [hr], ⟨m1, G1, H', h1, by simpa using h2, fun c i q6 q7 => h4 c i q6 (by simpa using q7), fun c hc => by simpa using h5 c (List.mem_append_right _ hc)⟩, by simp [World.cell?, q1], mb, by simp [World.cell?, q1], (Array.getElem?_eq_some_iff.1 q2).1, fun w' hb i => ?_⟩
  exact part_at hf (by rw [hb.block mb (Array.getElem?_eq_some_iff.1 q2).1]; exact q2) q3 q4 q5 i
end
theorem cell_alloc {w : World} {p : Addr} {v : Value} (o : Obj) (h : w.cell? p = some v) : (w.alloc o).cell? p = some v := by
  rw [((Below.refl w.heap.size w).alloc (Nat.le_refl _) o).cell (World.block_lt_of_cell? w _ h)]
  exact h
set_option maxRecDepth 100000 in
set_option maxHeartbeats 4000000 in
theorem data_walk {m : Mem} {w : World} (f : Fr) (hf : f.Ok) (hw : wholeF f = true) {b : Nat} {G : List Nat} (h : Holds m w [.pointer (some ⟨b, 0, none⟩)] [.ptr 0 0] [frO f] [b] [] G) :
    Calls Tryz.prog 31 #[.pointer (some ⟨b, 0, none⟩)] w fun e w' => e = .returned (.tuple #[str (catF f.ps f.n), .bool true]) ∧ ∃ w1, DatS f m w G b w1 (.returned (.bool (wholeF f))) ∧ Below w1.heap.size w1 w' := by
  have HN := Lib.hid hf.n1
  have HC := Lib.hid (catF_len hf.sz)
  go_enter Tryz.func31, Tryz.ntmps31
  go_wp2_with (go_at_call 64; refine (data_whole hf h).mono ?_; rintro e w1 ⟨rfl, hs, c1, mb, c3, hmb, hlk⟩; rw [hw]; have c1a := cell_alloc (.cells #[.pointer none, .slice none 0 0] 121) c1)
  go_loopw [13] (fun i wr => ∃ k : Nat, k ≤ f.n ∧ i = .int .i64 k ∧ Below w1.heap.size w1 wr ∧ Lib.IsBuilder 121 5 w1.heap.size w1.heap.size (Lib.byteCells (catF f.ps k)) wr) (fun i _ => f.n - (intOf i).toNat)
  case atStart => exact ⟨0, Nat.zero_le _, rfl, (Below.refl _ w1).alloc (Nat.le_refl _) _, Lib.fresh_isBuilder _ _ w1⟩
  case round =>
    obtain ⟨k, hk, rfl, hbel, hbld⟩ := hrel
    by_cases hlt : k < f.n
    · have i1 : (k : Int) < f.n := by omega
      have hL := HC.out k
      have hn := HN.out
      have hl1 := hlk _ hbel k
      have hbl := World.block_lt_of_cell? w1 _ c1
      have d1 : wr.cell? ⟨b, 3, none⟩ = some (.map (some mb)) := by rw [hbel.cell (by exact hbl)]; exact c3
      have hsz := hbel.size
      have hpl : ((getP f.ps k).getD []).length ≤ 1048576 := by
        cases hg : getP f.ps k with
        | none => simp
        | some s => exact hf.sz _ (getP_mem hg)
      have hl0 : (Lib.byteCells (catF f.ps k)).length + (⟨((getP f.ps k).getD []).toArray⟩ : ByteArray).size ≤ 140737488355328 := by
        have e1 : (Lib.byteCells (catF f.ps k)).length = (catF f.ps k).length := by unfold Lib.byteCells; rw [List.length_map]
        have e2 : (⟨((getP f.ps k).getD []).toArray⟩ : ByteArray).size = ((getP f.ps k).getD []).length := by simp [ByteArray.size]
        omega
      have hcat : Lib.byteCells (catF f.ps k) ++ Lib.strCells ⟨((getP f.ps k).getD []).toArray⟩ = Lib.byteCells (catF f.ps (k + 1)) := by
        show Lib.byteCells _ ++ Lib.byteCells _ = _
        unfold Lib.byteCells
        rw [catF, List.map_append]
      clear hpl
      go_wp2_with (first | (simp only [hl1, Result.andThen_ok]) | (go_at_call 66; refine (bld_write w1.heap.size w1.heap.size (Lib.byteCells (catF f.ps k)) ⟨((getP f.ps k).getD []).toArray⟩ _ hbld hl0 hsz).mono ?_; rintro e w2 ⟨rfl, h2, hb2⟩))
      go_roundw
      case rel => exact ⟨k + 1, by omega, by go_num, hbel.trans hb2, .inr (by rw [← hcat]; exact h2)⟩
      case measure => simp [intOf]; omega
    · obtain rfl : k = f.n := by omega
      have hsz := hbel.size
      go_wp2_with (go_at_call 67; refine (bld_string w1.heap.size w1.heap.size (catF f.ps f.n) _ hbld hsz).mono ?_; rintro e w2 ⟨rfl, hb2⟩)
      go_ret2
      exact ⟨rfl, w1, ⟨by rw [hw], hs, c1, mb, c3, hmb, hlk⟩, hbel.trans hb2⟩
/-- One object that came in, and a pointer to it. -/
theorem Holds.one {m : Mem} {w : World} {vals : List Value} {cs : List CA} {bs : List Nat} {F G : List Nat} (h : Holds m w vals [.ptr 0 0] [cs] bs F G) : ∃ b, vals = [.pointer (some ⟨b, 0, none⟩)] ∧ bs = [b] ∧ F = [] := by
  obtain ⟨_, _, _, _, rfl, ⟨⟨b0, h1, rfl⟩, rfl⟩, hs, rfl, _⟩ := h.ar.uncons
  obtain ⟨rfl, rfl⟩ := hs.nil_inv
  have hl := h.ob.len
  match bs, hl, h1 with
  | [b], _, h1 =>
    simp at h1
    exact ⟨b0, rfl, by rw [h1], rfl⟩
set_option maxRecDepth 100000 in
set_option maxHeartbeats 8000000 in
theorem spl_data (f : Fr) (h : f.Ok) : Spec Tryz.prog 31 [.ptr 0 0] [frO f] (.ca (.val (.tup [vs (dataF f), vb (wholeF f)]))) [frO f] := by
  unfold dataF
  cases hw : wholeF f with
  | false =>
    have cw := spl_whole f h
    rw [hw] at cw
    rw [if_neg (by decide)]
    refine spec_of Tryz.func31 rfl Tryz.ntmps31 Tryz.results31 ⟨by decide, by simp⟩ fun C hC => ?_
    (repeat' ((first | refine sp_ ?_ | exact ex0 | refine call_u Tryz.call64 (cw) [(1000, 0)] ex1 ?_ | (refine ret_s [] ?_; simp (decide := true) (disch := omega) only [go_sem, ↓reduceIte, ↓put_at]))))
  | true =>
    rw [if_pos rfl]
    intro m w vals bs F G H
    obtain ⟨b, rfl, rfl, rfl⟩ := H.one
    refine (data_walk f h hw H).mono ?_
    rintro e w' ⟨rfl, w1, D, hb⟩
    obtain ⟨_, ⟨m1, G1, H1, q1, q2, q3, q4⟩, _, _⟩ := D
    obtain ⟨H2, hc⟩ := H1.below hb (v := .tuple #[str (catF f.ps f.n), .bool true]) (x := .tup [vs (catF f.ps f.n), vb true]) (Rd.tup _ _ rfl fun i hi => by
      match i, hi with
      | 0, _ => exact Rd.sc _
      | 1, _ => exact Rd.sc _)
    have hc0 : Chg Nothing w1 w' := (Chg.ofBelow hb).mono fun i hi h => by omega
    refine ⟨_, m1, [b], [], G1, rfl, H2, q1, ?_, fun _ _ h => h, fun c i h1 h2 => q3 c i h1 (by simpa using h2), fun c hc => by simpa using q4 c hc⟩
    exact (q2.mono fun _ _ h => by simpa using h).trans (hc0.mono fun _ _ h => h.elim)
end Go.Proofs.YtkclmofjlmeolaaGreatDoor

