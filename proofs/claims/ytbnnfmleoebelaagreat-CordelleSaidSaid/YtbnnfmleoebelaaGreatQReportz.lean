/- Package report, by abstract values. -/
import Derived.Test.YtbnnfmleoebelaaGreatSubMz
import Derived.Test.YtbnnfmleoebelaaGreatQRefZz
namespace Go.Proofs.YtbnnfmleoebelaaGreat
open Go.RowKit
set_option linter.unusedVariables false
set_option linter.unusedSimpArgs false

/-- A block about one source. -/
structure B8 where
  src : Int
  fr : Int
  lost : Int
  hi : Int
  ji : Int
  la : Int
  de : Int
  deriving DecidableEq
abbrev b8L (b : B8) : List V := [vu b.src, vi b.fr, vi b.lost, vu b.hi, vu b.ji, vu b.la, vu b.de]
def b8El (b : B8) : List V := b8L b
attribute [go_sem] b8El
structure B8.Ok (b : B8) : Prop where
  src : 0 ≤ b.src ∧ b.src < 4294967296
  hi : 0 ≤ b.hi ∧ b.hi < 4294967296
  ji : 0 ≤ b.ji ∧ b.ji < 4294967296
  la : 0 ≤ b.la ∧ b.la < 4294967296
  de : 0 ≤ b.de ∧ b.de < 4294967296
def mayB (b : B8) : Bool := decide (0 ≤ b.fr ∧ b.fr ≤ 255 ∧ -8388608 ≤ b.lost ∧ b.lost < 8388608)
def wrB (b : B8) : List UInt8 := puts' 4 [b.src] ++ puts' 1 [b.fr] ++ puts' 3 [b.lost] ++ puts' 4 [b.hi, b.ji, b.la, b.de]
set_option maxRecDepth 100000 in
set_option maxHeartbeats 8000000 in
theorem report_bmay (b : B8) : Spec Tryz.prog 94 [.ca (.val (.agg (b8L b)))] [] (.ca (.val (vb (mayB b)))) [] := by
  obtain ⟨s, f, l, h, j, a, d⟩ := b
  unfold mayB
  dsimp only
  refine spec_of Tryz.func94 rfl Tryz.ntmps94 Tryz.results94 ⟨by decide, by simp⟩ fun C hC => ?_
  by_cases h1 : f < 0
  · (repeat (first | refine sp_ ?_ | exact ex0))
    (refine ret_s [] ?_; simp (decide := true) (disch := omega) only [go_sem, ↓reduceIte, ↓put_at])
    try (simp; omega)
  by_cases h2 : 255 < f
  · (repeat (first | refine sp_ ?_ | exact ex0))
    (refine ret_s [] ?_; simp (decide := true) (disch := omega) only [go_sem, ↓reduceIte, ↓put_at])
    try (simp; omega)
  by_cases h3 : l < -8388608
  · (repeat (first | refine sp_ ?_ | exact ex0))
    (refine ret_s [] ?_; simp (decide := true) (disch := omega) only [go_sem, ↓reduceIte, ↓put_at])
    try (simp; omega)
  by_cases h4 : l < 8388608
  · (repeat (first | refine sp_ ?_ | exact ex0))
    (refine ret_s [] ?_; simp (decide := true) (disch := omega) only [go_sem, ↓reduceIte, ↓put_at])
    try (simp; omega)
  · (repeat (first | refine sp_ ?_ | exact ex0))
    (refine ret_s [] ?_; simp (decide := true) (disch := omega) only [go_sem, ↓reduceIte, ↓put_at])
    try (simp; omega)
set_option maxRecDepth 100000 in
set_option maxHeartbeats 8000000 in
theorem report_signed (n : Int) (hn : 0 ≤ n ∧ n < 16777216) : Spec Tryz.prog 91 [.ca (.val (vi n))] [] (.ca (.val (vi (if 8388608 ≤ n then n - 16777216 else n)))) [] := by
  refine spec_of Tryz.func91 rfl Tryz.ntmps91 Tryz.results91 ⟨by decide, by simp⟩ fun C hC => ?_
  by_cases h1 : 8388608 ≤ n
  · rw [if_pos h1]
    (repeat (first | refine sp_ ?_ | exact ex0))
    (refine ret_s [] ?_; simp (decide := true) (disch := omega) only [go_sem, ↓reduceIte, ↓put_at])
  · rw [if_neg h1]
    (repeat (first | refine sp_ ?_ | exact ex0))
    (refine ret_s [] ?_; simp (decide := true) (disch := omega) only [go_sem, ↓reduceIte, ↓put_at])
set_option maxRecDepth 100000 in
set_option maxHeartbeats 2000000 in
theorem report_write (b : B8) (hb : b.Ok) (l : List UInt8) (hl : l.length + 100 ≤ 140737488355328) : Spec Tryz.prog 123 [.ca (.val (.agg (b8L b))), .ptr 0 0] [outO l] (.ca (.val (.tup []))) [outO (l ++ wrB b)] := by
  obtain ⟨s, f, lo, h, j, a, d⟩ := b
  obtain ⟨b1, b2, b3, b4, b5⟩ := hb
  dsimp only at *
  have p1 := puts'_length 4 [s]
  have p2 := puts'_length 1 [f]
  have p3 := puts'_length 3 [lo]
  simp only [List.length_cons, List.length_nil] at p1 p2 p3
  have c1 := out_u32 l [s] (by simp only [List.length_cons, List.length_nil]; omega) (by simpa using b1)
  have c2 := out_u8 (l ++ puts' 4 [s]) [f] (by simp only [List.length_cons, List.length_nil, List.length_append]; omega)
  have c3 := out_u24 (l ++ puts' 4 [s] ++ puts' 1 [f]) [lo] (by simp only [List.length_cons, List.length_nil, List.length_append]; omega)
  have c4 := out_u32 (l ++ puts' 4 [s] ++ puts' 1 [f] ++ puts' 3 [lo]) [h, j, a, d] (by simp only [List.length_cons, List.length_nil, List.length_append]; omega) (by simpa using ⟨b2, b3, b4, b5⟩)
  refine spec_of Tryz.func123 rfl Tryz.ntmps123 Tryz.results123 ⟨by decide, by simp⟩ fun C hC => ?_
  (repeat (first | refine sp_ ?_ | exact ex0))
  refine call_s Tryz.call39 c1 [(1000, 0)] ?_
  (repeat (first | refine sp_ ?_ | exact ex0))
  refine call_s Tryz.call34 c2 [(1000, 0)] ?_
  (repeat (first | refine sp_ ?_ | exact ex0))
  refine call_s Tryz.call124 c3 [(1000, 0)] ?_
  (repeat (first | refine sp_ ?_ | exact ex0))
  refine call_s Tryz.call39 c4 [(1000, 0)] ?_
  (repeat (first | refine sp_ ?_ | exact ex0))
  (refine ret_s [] ?_; simp (decide := true) (disch := omega) only [go_sem, ↓reduceIte, ↓put_at])
  try simp [wrB]
def sg (n : Int) : Int := if 8388608 ≤ n then n - 16777216 else n
def rdB (x : List UInt8 × Int) : B8 :=
  ⟨vl 4 x, vl 1 (nx 4 x), sg (vl 3 (nx 1 (nx 4 x))), vl 4 (nx 3 (nx 1 (nx 4 x))), vl 4 (nx 4 (nx 3 (nx 1 (nx 4 x)))), vl 4 (nx 4 (nx 4 (nx 3 (nx 1 (nx 4 x))))), vl 4 (nx 4 (nx 4 (nx 4 (nx 3 (nx 1 (nx 4 x))))))⟩
def nxB (x : List UInt8 × Int) : List UInt8 × Int := nx 4 (nx 4 (nx 4 (nx 4 (nx 3 (nx 1 (nx 4 x))))))
set_option maxRecDepth 100000 in
set_option maxHeartbeats 2000000 in
theorem report_block (x : List UInt8 × Int) (hl : x.1.length ≤ maxLen) : Spec Tryz.prog 74 [.ptr 0 0] [inO x.1 x.2] (.ca (.val (.agg (b8L (rdB x))))) [inO (nxB x).1 (nxB x).2] := by
  unfold rdB nxB
  have r1 := rd32 x hl
  have l1 := Nat.le_trans (nx_len 4 x) hl
  generalize nx 4 x = x1 at *
  have r2 := rd8 x1 l1
  have l2 := Nat.le_trans (nx_len 1 x1) l1
  generalize nx 1 x1 = x2 at *
  have r3 := rd24 x2 l2
  have l3 := Nat.le_trans (nx_len 3 x2) l2
  have s3 := report_signed (vl 3 x2) (vl_lt 3 16777216 x2 (by decide))
  generalize nx 3 x2 = x3 at *
  have r4 := rd32 x3 l3
  have l4 := Nat.le_trans (nx_len 4 x3) l3
  generalize nx 4 x3 = x4 at *
  have r5 := rd32 x4 l4
  have l5 := Nat.le_trans (nx_len 4 x4) l4
  generalize nx 4 x4 = x5 at *
  have r6 := rd32 x5 l5
  have l6 := Nat.le_trans (nx_len 4 x5) l5
  generalize nx 4 x5 = x6 at *
  have r7 := rd32 x6 l6
  generalize nx 4 x6 = x7 at *
  refine spec_of Tryz.func74 rfl Tryz.ntmps74 Tryz.results74 ⟨by decide, by simp⟩ fun C hC => ?_
  (repeat (first | refine sp_ ?_ | exact ex0))
  refine call_s Tryz.call71 r1 [(1000, 0)] ?_
  (repeat (first | refine sp_ ?_ | exact ex0))
  refine call_s Tryz.call68 r2 [(1000, 0)] ?_
  (repeat (first | refine sp_ ?_ | exact ex0))
  refine call_s Tryz.call92 r3 [(1000, 0)] ?_
  (repeat (first | refine sp_ ?_ | exact ex0))
  refine call_s Tryz.call91 s3 [] ?_
  (repeat (first | refine sp_ ?_ | exact ex0))
  refine call_s Tryz.call71 r4 [(1000, 0)] ?_
  (repeat (first | refine sp_ ?_ | exact ex0))
  refine call_s Tryz.call71 r5 [(1000, 0)] ?_
  (repeat (first | refine sp_ ?_ | exact ex0))
  refine call_s Tryz.call71 r6 [(1000, 0)] ?_
  (repeat (first | refine sp_ ?_ | exact ex0))
  refine call_s Tryz.call71 r7 [(1000, 0)] ?_
  (repeat (first | refine sp_ ?_ | exact ex0))
  (refine ret_s [] ?_; simp (decide := true) (disch := omega) only [go_sem, ↓reduceIte, ↓put_at])
  rfl
/-- What a sender says of itself. -/
structure S8 where
  clock : Int
  time : Int
  packets : Int
  bytes : Int
  deriving DecidableEq
abbrev s8L (s : S8) : List V := [vi s.clock, vu s.time, vu s.packets, vu s.bytes]
structure S8.Ok (s : S8) : Prop where
  time : 0 ≤ s.time ∧ s.time < 4294967296
  packets : 0 ≤ s.packets ∧ s.packets < 4294967296
  bytes : 0 ≤ s.bytes ∧ s.bytes < 4294967296
def isS (s : S8) : Bool := decide (0 ≤ s.clock ∧ s.clock ≤ 1099511627776)
set_option maxRecDepth 100000 in
set_option maxHeartbeats 8000000 in
theorem report_is (s : S8) : Spec Tryz.prog 93 [.ca (.val (.agg (s8L s)))] [] (.ca (.val (vb (isS s)))) [] := by
  obtain ⟨c, t, p, b⟩ := s
  unfold isS
  dsimp only
  refine spec_of Tryz.func93 rfl Tryz.ntmps93 Tryz.results93 ⟨by decide, by simp⟩ fun C hC => ?_
  by_cases h1 : c < 0
  · (repeat (first | refine sp_ ?_ | exact ex0))
    (refine ret_s [] ?_; simp (decide := true) (disch := omega) only [go_sem, ↓reduceIte, ↓put_at])
    try (simp; omega)
  by_cases h2 : c ≤ 1099511627776
  · (repeat (first | refine sp_ ?_ | exact ex0))
    (refine ret_s [] ?_; simp (decide := true) (disch := omega) only [go_sem, ↓reduceIte, ↓put_at])
    try (simp; omega)
  · (repeat (first | refine sp_ ?_ | exact ex0))
    (refine ret_s [] ?_; simp (decide := true) (disch := omega) only [go_sem, ↓reduceIte, ↓put_at])
    try (simp; omega)
def wrS (s : S8) : List UInt8 := puts' 4 [s.clock / 4294967296 % 4294967296, s.clock % 4294967296, s.time, s.packets, s.bytes]
set_option maxRecDepth 100000 in
set_option maxHeartbeats 2000000 in
theorem report_put (s : S8) (hs : s.Ok) (hc : 0 ≤ s.clock ∧ s.clock ≤ 1099511627776) (l : List UInt8) (hl : l.length + 100 ≤ 140737488355328) : Spec Tryz.prog 122 [.ca (.val (.agg (s8L s))), .ptr 0 0] [outO l] (.ca (.val (.tup []))) [outO (l ++ wrS s)] := by
  obtain ⟨c, t, p, b⟩ := s
  obtain ⟨b1, b2, b3⟩ := hs
  dsimp only at *
  have c1 := out_u32 l [c / 4294967296 % 4294967296, c % 4294967296, t, p, b] (by simp only [List.length_cons, List.length_nil]; omega) (by simp only [List.mem_cons, List.not_mem_nil, or_false]; rintro n (rfl | rfl | rfl | rfl | rfl) <;> omega)
  refine spec_of Tryz.func122 rfl Tryz.ntmps122 Tryz.results122 ⟨by decide, by simp⟩ fun C hC => ?_
  (repeat (first | refine sp_ ?_ | exact ex0))
  refine call_s Tryz.call39 c1 [(1000, 0)] ?_
  (repeat (first | refine sp_ ?_ | exact ex0))
  have e : c / 4294967296 % 4294967296 = c / 4294967296 := Int.emod_eq_of_lt (by omega) (by omega)
  refine ⟨by rw [e, IntKind.wrap_u32], ?_⟩
  (refine ret_s [] ?_; simp (decide := true) (disch := omega) only [go_sem, ↓reduceIte, ↓put_at])
  try rfl
def rdS (x : List UInt8 × Int) : S8 :=
  ⟨if 256 < vl 4 x then -1 else vl 4 x * 4294967296 + vl 4 (nx 4 x), vl 4 (nx 4 (nx 4 x)), vl 4 (nx 4 (nx 4 (nx 4 x))), vl 4 (nx 4 (nx 4 (nx 4 (nx 4 x))))⟩
def nxS (x : List UInt8 × Int) : List UInt8 × Int := nx 4 (nx 4 (nx 4 (nx 4 (nx 4 x))))
set_option maxRecDepth 100000 in
set_option maxHeartbeats 2000000 in
theorem report_sent (x : List UInt8 × Int) (hl : x.1.length ≤ maxLen) : Spec Tryz.prog 73 [.ptr 0 0] [inO x.1 x.2] (.ca (.val (.agg (s8L (rdS x))))) [inO (nxS x).1 (nxS x).2] := by
  unfold rdS nxS
  have v1 := vl_lt 4 4294967296 x (by decide)
  have r1 := rd32 x hl
  have l1 := Nat.le_trans (nx_len 4 x) hl
  generalize nx 4 x = x1 at *
  have v2 := vl_lt 4 4294967296 x1 (by decide)
  have r2 := rd32 x1 l1
  have l2 := Nat.le_trans (nx_len 4 x1) l1
  generalize nx 4 x1 = x2 at *
  have r3 := rd32 x2 l2
  have l3 := Nat.le_trans (nx_len 4 x2) l2
  generalize nx 4 x2 = x3 at *
  have r4 := rd32 x3 l3
  have l4 := Nat.le_trans (nx_len 4 x3) l3
  generalize nx 4 x3 = x4 at *
  have r5 := rd32 x4 l4
  generalize nx 4 x4 = x5 at *
  generalize vl 4 x = a at *
  generalize vl 4 x1 = b at *
  by_cases h : 256 < a
  · rw [if_pos h]
    refine spec_of Tryz.func73 rfl Tryz.ntmps73 Tryz.results73 ⟨by decide, by simp⟩ fun C hC => ?_
    (repeat (first | refine sp_ ?_ | exact ex0))
    refine call_s Tryz.call71 r1 [(1000, 0)] ?_
    (repeat (first | refine sp_ ?_ | exact ex0))
    refine call_s Tryz.call71 r2 [(1000, 0)] ?_
    (repeat (first | refine sp_ ?_ | exact ex0))
    refine call_s Tryz.call71 r3 [(1000, 0)] ?_
    (repeat (first | refine sp_ ?_ | exact ex0))
    refine call_s Tryz.call71 r4 [(1000, 0)] ?_
    (repeat (first | refine sp_ ?_ | exact ex0))
    refine call_s Tryz.call71 r5 [(1000, 0)] ?_
    (repeat (first | refine sp_ ?_ | exact ex0))
    (refine ret_s [] ?_; simp (decide := true) (disch := omega) only [go_sem, ↓reduceIte, ↓put_at])
  · rw [if_neg h]
    have hor : bits .or .i64 (a * 4294967296) b = a * 4294967296 + b := i64_join 32 _ _ (by omega) (by omega) (by omega) (by omega) (by omega) (by omega)
    refine spec_of Tryz.func73 rfl Tryz.ntmps73 Tryz.results73 ⟨by decide, by simp⟩ fun C hC => ?_
    (repeat (first | refine sp_ ?_ | exact ex0))
    refine call_s Tryz.call71 r1 [(1000, 0)] ?_
    (repeat (first | refine sp_ ?_ | exact ex0))
    refine call_s Tryz.call71 r2 [(1000, 0)] ?_
    (repeat (first | refine sp_ ?_ | exact ex0))
    refine call_s Tryz.call71 r3 [(1000, 0)] ?_
    (repeat (first | refine sp_ ?_ | exact ex0))
    refine call_s Tryz.call71 r4 [(1000, 0)] ?_
    (repeat (first | refine sp_ ?_ | exact ex0))
    refine call_s Tryz.call71 r5 [(1000, 0)] ?_
    (repeat (first | refine sp_ ?_ | exact ex0))
    (refine ret_s [] ?_; simp (decide := true) (disch := omega) only [go_sem, ↓reduceIte, ↓put_at])
    exact hor
/-- A report. -/
structure R8 where
  src : Int
  isS : Bool
  sent : S8
  bs : List B8
  deriving DecidableEq
abbrev r8L (r : R8) : List V := [vu r.src, vb r.isS, vi r.sent.clock, vu r.sent.time, vu r.sent.packets, vu r.sent.bytes, .lst 7 (r.bs.map b8El)]
theorem cmp_sent (s : S8) (w : World) : (binOp .neq 24 (.agg [.int .i64 s.clock, .int .u32 s.time, .int .u32 s.packets, .int .u32 s.bytes].toArray) (.agg [.int .i64 0, .int .u32 0, .int .u32 0, .int .u32 0].toArray)).run Tryz.prog w = .ok (.bool (!decide (s = ⟨0, 0, 0, 0⟩))) w := by
  obtain ⟨a, b, c, d⟩ := s
  by_cases h1 : a = 0
  · by_cases h2 : b = 0
    · by_cases h3 : c = 0
      · by_cases h4 : d = 0
        · subst h1 h2 h3 h4
          simp [go_sem]
        · simp [go_sem, h1, h2, h3, h4]
      · simp [go_sem, h1, h2, h3]
    · simp [go_sem, h1, h2]
  · simp [go_sem, h1]
/-- May a report be? -/
def mayR (r : R8) : Bool := isS r.sent && (r.isS || decide (r.sent = ⟨0, 0, 0, 0⟩)) && decide (r.bs.length ≤ 31) && r.bs.all mayB
set_option maxRecDepth 100000 in
set_option maxHeartbeats 2000000 in
theorem report_check (r : R8) (hl : r.bs.length ≤ 9223372036854775807) : Spec Tryz.prog 76 [.ca (.val (.agg (r8L r)))] [] (.ca (.val (vi (if mayR r = true then 0 else 6)))) [] := by
  obtain ⟨src, is, st, bs⟩ := r
  have hi := report_is st
  have hc := cmp_sent st
  dsimp only at *
  unfold mayR
  dsimp only
  cases h1 : isS st with
  | false =>
    rw [h1] at hi
    refine spec_of Tryz.func76 rfl Tryz.ntmps76 Tryz.results76 ⟨by decide, by simp⟩ fun C hC => ?_
    (repeat (first | refine sp_ ?_ | exact ex0))
    refine call_s Tryz.call93 hi [] ?_
    (repeat (first | refine sp_ ?_ | exact ex0))
    (refine ret_s [] ?_; simp (decide := true) (disch := omega) only [go_sem, ↓reduceIte, ↓put_at])
    try simp
  | true =>
    rw [h1] at hi
    cases is with
    | true =>
      by_cases h3 : 31 < bs.length
      · refine spec_of Tryz.func76 rfl Tryz.ntmps76 Tryz.results76 ⟨by decide, by simp⟩ fun C hC => ?_
        (repeat (first | refine sp_ ?_ | exact ex0))
        refine call_s Tryz.call93 hi [] ?_
        (repeat (first | refine sp_ ?_ | exact ex0))
        (refine ret_s [] ?_; simp (decide := true) (disch := omega) only [go_sem, ↓reduceIte, ↓put_at])
        try (simp; omega)
      · refine spec_of Tryz.func76 rfl Tryz.ntmps76 Tryz.results76 ⟨by decide, by simp⟩ fun C hC => ?_
        (repeat (first | refine sp_ ?_ | exact ex0))
        refine call_s Tryz.call93 hi [] ?_
        (repeat (first | refine sp_ ?_ | exact ex0))
        refine loop_s (α := {j : Nat // j ≤ bs.length ∧ (bs.take j).all mayB = true}) (fun j => [(.s 27, .av (.val (.lst 7 (bs.map b8El)))), (.s 28, .av (.val (vi bs.length))), (.s 29, .av (.val (vi j.1)))]) (fun j => bs.length - j.1) ⟨0, Nat.zero_le _, rfl⟩ ?_ (fun j => ?_)
        · simp (decide := true) (disch := omega) only [go_sem, ↓reduceIte, ↓put_at]
        · obtain ⟨j, hj, ha⟩ := j
          dsimp only at hj ⊢
          by_cases hlt : j < bs.length
          · have hm := report_bmay bs[j]
            cases hb : mayB bs[j] with
            | false =>
              rw [hb] at hm
              have hall : bs.all mayB = false := by
                cases hx : bs.all mayB with
                | false => rfl
                | true => have := List.all_eq_true.1 hx _ (List.getElem_mem hlt); rw [hb] at this; cases this
              (repeat (first | refine sp_ ?_ | exact ex0))
              refine call_s Tryz.call94 hm [] ?_
              (repeat (first | refine sp_ ?_ | exact ex0))
              (refine ret_s [] ?_; simp (decide := true) (disch := omega) only [go_sem, ↓reduceIte, ↓put_at])
              simp [hall]
            | true =>
              rw [hb] at hm
              (repeat (first | refine sp_ ?_ | exact ex0))
              refine call_s Tryz.call94 hm [] ?_
              (repeat (first | refine sp_ ?_ | exact ex0))
              refine next_s ⟨j + 1, hlt, by rw [List.take_succ_eq_append_getElem hlt, List.all_append, ha]; simp [hb]⟩ ⟨?_, by dsimp only; omega⟩
              simp (decide := true) (disch := omega) only [go_sem, ↓reduceIte, ↓put_at]
          · have hall : bs.all mayB = true := by rw [List.take_of_length_le (by omega)] at ha; exact ha
            (repeat (first | refine sp_ ?_ | exact ex0))
            (refine ret_s [] ?_; simp (decide := true) (disch := omega) only [go_sem, ↓reduceIte, ↓put_at])
            simp [hall]
            try omega
    | false =>
      by_cases h2 : st = ⟨0, 0, 0, 0⟩
      · rw [decide_eq_true h2] at hc
        by_cases h3 : 31 < bs.length
        · refine spec_of Tryz.func76 rfl Tryz.ntmps76 Tryz.results76 ⟨by decide, by simp⟩ fun C hC => ?_
          (repeat (first | refine sp_ ?_ | exact ex0))
          refine call_s Tryz.call93 hi [] ?_
          (repeat (first | refine sp_ ?_ | exact ex0))
          refine gcmpA_s [.int .i64 st.clock, .int .u32 st.time, .int .u32 st.packets, .int .u32 st.bytes] [.int .i64 0, .int .u32 0, .int .u32 0, .int .u32 0] _ (.inr rfl) (by simp (decide := true) (disch := omega) only [go_sem, ↓reduceIte, ↓put_at]) (by simp (decide := true) (disch := omega) only [go_sem, ↓reduceIte, ↓put_at]) (by simp (decide := true) (disch := omega) only [go_sem, ↓reduceIte, ↓put_at]) (by kernel_rfl) hc ?_
          (repeat (first | refine sp_ ?_ | exact ex0))
          (refine ret_s [] ?_; simp (decide := true) (disch := omega) only [go_sem, ↓reduceIte, ↓put_at])
          try (simp; omega)
        · refine spec_of Tryz.func76 rfl Tryz.ntmps76 Tryz.results76 ⟨by decide, by simp⟩ fun C hC => ?_
          (repeat (first | refine sp_ ?_ | exact ex0))
          refine call_s Tryz.call93 hi [] ?_
          (repeat (first | refine sp_ ?_ | exact ex0))
          refine gcmpA_s [.int .i64 st.clock, .int .u32 st.time, .int .u32 st.packets, .int .u32 st.bytes] [.int .i64 0, .int .u32 0, .int .u32 0, .int .u32 0] _ (.inr rfl) (by simp (decide := true) (disch := omega) only [go_sem, ↓reduceIte, ↓put_at]) (by simp (decide := true) (disch := omega) only [go_sem, ↓reduceIte, ↓put_at]) (by simp (decide := true) (disch := omega) only [go_sem, ↓reduceIte, ↓put_at]) (by kernel_rfl) hc ?_
          (repeat (first | refine sp_ ?_ | exact ex0))
          refine loop_s (α := {j : Nat // j ≤ bs.length ∧ (bs.take j).all mayB = true}) (fun j => [(.s 27, .av (.val (.lst 7 (bs.map b8El)))), (.s 28, .av (.val (vi bs.length))), (.s 29, .av (.val (vi j.1)))]) (fun j => bs.length - j.1) ⟨0, Nat.zero_le _, rfl⟩ ?_ (fun j => ?_)
          · simp (decide := true) (disch := omega) only [go_sem, ↓reduceIte, ↓put_at]
          · obtain ⟨j, hj, ha⟩ := j
            dsimp only at hj ⊢
            by_cases hlt : j < bs.length
            · have hm := report_bmay bs[j]
              cases hb : mayB bs[j] with
              | false =>
                rw [hb] at hm
                have hall : bs.all mayB = false := by
                  cases hx : bs.all mayB with
                  | false => rfl
                  | true => have := List.all_eq_true.1 hx _ (List.getElem_mem hlt); rw [hb] at this; cases this
                (repeat (first | refine sp_ ?_ | exact ex0))
                refine call_s Tryz.call94 hm [] ?_
                (repeat (first | refine sp_ ?_ | exact ex0))
                (refine ret_s [] ?_; simp (decide := true) (disch := omega) only [go_sem, ↓reduceIte, ↓put_at])
                simp [hall, h2]
              | true =>
                rw [hb] at hm
                (repeat (first | refine sp_ ?_ | exact ex0))
                refine call_s Tryz.call94 hm [] ?_
                (repeat (first | refine sp_ ?_ | exact ex0))
                refine next_s ⟨j + 1, hlt, by rw [List.take_succ_eq_append_getElem hlt, List.all_append, ha]; simp [hb]⟩ ⟨?_, by dsimp only; omega⟩
                simp (decide := true) (disch := omega) only [go_sem, ↓reduceIte, ↓put_at]
            · have hall : bs.all mayB = true := by rw [List.take_of_length_le (by omega)] at ha; exact ha
              (repeat (first | refine sp_ ?_ | exact ex0))
              (refine ret_s [] ?_; simp (decide := true) (disch := omega) only [go_sem, ↓reduceIte, ↓put_at])
              simp [hall, h2]
              try omega
      · rw [decide_eq_false h2] at hc
        refine spec_of Tryz.func76 rfl Tryz.ntmps76 Tryz.results76 ⟨by decide, by simp⟩ fun C hC => ?_
        (repeat (first | refine sp_ ?_ | exact ex0))
        refine call_s Tryz.call93 hi [] ?_
        (repeat (first | refine sp_ ?_ | exact ex0))
        refine gcmpA_s [.int .i64 st.clock, .int .u32 st.time, .int .u32 st.packets, .int .u32 st.bytes] [.int .i64 0, .int .u32 0, .int .u32 0, .int .u32 0] _ (.inr rfl) (by simp (decide := true) (disch := omega) only [go_sem, ↓reduceIte, ↓put_at]) (by simp (decide := true) (disch := omega) only [go_sem, ↓reduceIte, ↓put_at]) (by simp (decide := true) (disch := omega) only [go_sem, ↓reduceIte, ↓put_at]) (by kernel_rfl) hc ?_
        (repeat (first | refine sp_ ?_ | exact ex0))
        (refine ret_s [] ?_; simp (decide := true) (disch := omega) only [go_sem, ↓reduceIte, ↓put_at])
        try simp [h2]
end Go.Proofs.YtbnnfmleoebelaaGreat

