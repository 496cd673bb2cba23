/- Structs that hold places or rows: made, boxed. -/
import Derived.Test.YtbnnfmleoebelaaGreatROz
import Derived.Test.YtbnnfmleoebelaaGreatOpenz
import Derived.Test.YtbnnfmleoebelaaGreatQRefZz
import Derived.Test.YtbnnfmleoebelaaGreatRLz
namespace Go.Proofs.YtbnnfmleoebelaaGreat
open Go.RowKit
set_option linter.unusedVariables false
set_option linter.unusedSimpArgs false

section
variable {P : Program} {ops : Array Oper} {C : Ctx} {E : Env} {σ : St} {a : Act} {w : World}
/-! ### A struct that holds places or rows -/
def partA (x : AV) : Option (List AV) := match x with
  | .ref k g => some [.ref k g]
  | .ptr o g i => some [.ptr o g i]
  | .own k g e sz es => some [.own k g e sz es]
  | .ag xs => some xs
  | x => (partV x).map fun l => l.map .val
def onePt (σ : St) : AV → Prop
  | .ref k g => oneA σ (.ref k g)
  | .ptr o g i => oneA σ (.ptr o g i)
  | _ => True
def onesP (σ : St) : List (Nat × AV) → Prop
  | [] => True
  | p :: l => onePt σ p.2 ∧ onesP σ l
def livesP (σ : St) : List (Nat × Operand) → List Pl
  | [] => []
  | p :: l => liveL (ev σ p.2) ++ livesP σ l
def spliceA (cs : List AV) (off : Nat) (vs : List AV) : List AV := cs.take off ++ vs ++ cs.drop (off + vs.length)
def fillA (place : Nat → Option (Nat × Nat)) : List AV → List (Nat × AV) → Option (List AV)
  | cs, [] => some cs
  | cs, (i, x) :: rest => match place i, partA x with
    | some (off, size), some vs => if vs.length = size ∧ off + size ≤ cs.length then fillA place (spliceA cs off vs) rest else none
    | _, _ => none
def stBuildA (P : Program) (σ : St) (d : Tmp) (t : TypeId) (parts : List (Nat × Operand)) : Stp :=
  match tiOf P t with
  | some { sh := .strct, fields := fs, fok := true, zero := z, zok := true, .. } => match fillA (placeF fs) (z.map fun v => .val (.sc v)) (evs σ parts) with
    | some cs => some (onesP σ (evs σ parts), opsL parts ++ livesP σ parts, [(.s d, .av (.ag cs))])
    | none => none
  | _ => none
def stBoxA (σ : St) (d : Tmp) (x : Operand) : Stp :=
  match ev σ x with
  | .ag xs => some (True, .g (d, 0) :: rdl x, newW (d, 0) (gg σ (d, 0)) xs.length xs ++ [(.s d, .av (.ptr (d, 0) (gg σ (d, 0) + 1) 0))])
  | _ => none
end
attribute [go_sem] stBuildA stBoxA fillA partA spliceA onesP onePt livesP
section
variable {P : Program} {ops : Array Oper} {C : Ctx} {σ : St} {md : Bool} {K : St → List FP → Prop} {acc : List FP} {rest : List Oper}
end
end Go.Proofs.YtbnnfmleoebelaaGreat

namespace Go.Proofs.YtbnnfmleoebelaaGreat
open Go.RowKit
set_option linter.unusedVariables false
set_option linter.unusedSimpArgs false

theorem gx_len (T : Nat) (l : List UInt8) : (goX T l).1.length = l.length - T := by
  unfold goX
  split
  · simp
  · simp; omega
theorem gx_le (T : Nat) (l : List UInt8) (h : l.length ≤ maxLen) : (goX T l).1.length ≤ maxLen := by rw [gx_len]; omega
theorem gx8 (s : List UInt8) (T : Nat) (h : s.length ≤ maxLen) : Spec Tryz.prog 68 [.ptr 0 0] [inO (goX T s).1 (goX T s).2] (.ca (.val (vi (vl 1 (goX T s))))) [inO (goX (T + 1) s).1 (goX (T + 1) s).2] := by
  have := rd8 (goX T s) (gx_le T s h)
  rwa [goX_nx 1 T s (by decide)] at this
theorem gx16 (s : List UInt8) (T : Nat) (h : s.length ≤ maxLen) : Spec Tryz.prog 69 [.ptr 0 0] [inO (goX T s).1 (goX T s).2] (.ca (.val (vi (vl 2 (goX T s))))) [inO (goX (T + 2) s).1 (goX (T + 2) s).2] := by
  have := in_u16 (goX T s).1 (goX T s).2 (gx_le T s h)
  have e := goX_nx 2 T s (by decide)
  unfold nx at e
  rw [← e]
  exact this
theorem gx24 (s : List UInt8) (T : Nat) (h : s.length ≤ maxLen) : Spec Tryz.prog 92 [.ptr 0 0] [inO (goX T s).1 (goX T s).2] (.ca (.val (vi (vl 3 (goX T s))))) [inO (goX (T + 3) s).1 (goX (T + 3) s).2] := by
  have := rd24 (goX T s) (gx_le T s h)
  rwa [goX_nx 3 T s (by decide)] at this
theorem gx32 (s : List UInt8) (T : Nat) (h : s.length ≤ maxLen) : Spec Tryz.prog 71 [.ptr 0 0] [inO (goX T s).1 (goX T s).2] (.ca (.val (vu (vl 4 (goX T s))))) [inO (goX (T + 4) s).1 (goX (T + 4) s).2] := by
  have := rd32 (goX T s) (gx_le T s h)
  rwa [goX_nx 4 T s (by decide)] at this
theorem gx_left (s : List UInt8) (T : Nat) : Spec Tryz.prog 44 [.ptr 0 0] [inO (goX T s).1 (goX T s).2] (.ca (.val (vi ((s.length - T : Nat) : Int)))) [inO (goX T s).1 (goX T s).2] := by
  have := in_left (goX T s).1 (goX T s).2
  rwa [gx_len] at this
theorem gx_of (s : List UInt8) : Spec Tryz.prog 43 [.ca (.val (vs s))] [] (.ptr 0 0) [inO (goX 0 s).1 (goX 0 s).2] := by
  have := pen_of s
  rwa [show inO s 0 = inO (goX 0 s).1 (goX 0 s).2 by rw [← goX_zero]] at this
structure N10.Ok (n : N10) : Prop where
  fr : 0 ≤ n.fr ∧ n.fr < 4294967296
  ab : 0 ≤ n.ab ∧ n.ab < 4294967296
  ps : ∀ x ∈ n.ps, (0 ≤ x.pid ∧ x.pid < 65536) ∧ 0 ≤ x.blp ∧ x.blp < 65536
set_option maxRecDepth 100000 in
set_option maxHeartbeats 4000000 in
theorem nack_piece (n : N10) (hn : n.Ok) (hl : n.ps.length ≤ maxLen) : Spec Tryz.prog 125 [.ca (.val (.agg (n10L n)))] [] (.ca (.val (pcV (nackP n)))) [] := by
  obtain ⟨fr, ab, ps⟩ := n
  obtain ⟨hfr, hab, hps⟩ := hn
  dsimp only at hfr hab hps hl
  obtain ⟨P, hP⟩ : ∃ P, P = nackP ⟨fr, ab, ps⟩ := ⟨_, rfl⟩
  rw [← hP]
  unfold nackP at hP
  dsimp only at hP
  by_cases h0 : ps.length = 0
  · rw [if_pos (.inl h0)] at hP
    subst hP
    refine spec_of Tryz.func125 rfl Tryz.ntmps125 Tryz.results125 ⟨by decide, by simp⟩ fun C hC => ?_
    (repeat' ((first | refine sp_ ?_ | exact ex0 | (refine ret_s [] ?_; simp (decide := true) (disch := omega) only [go_sem, ↓reduceIte, ↓put_at]))))
  by_cases h3 : 300 < ps.length
  · rw [if_pos (.inr h3)] at hP
    subst hP
    refine spec_of Tryz.func125 rfl Tryz.ntmps125 Tryz.results125 ⟨by decide, by simp⟩ fun C hC => ?_
    (repeat' ((first | refine sp_ ?_ | exact ex0 | (refine ret_s [] ?_; simp (decide := true) (disch := omega) only [go_sem, ↓reduceIte, ↓put_at]))))
  rw [if_neg (by omega)] at hP
  have c1 := out_u32 [] [fr, ab] (by simp) (by simpa using ⟨hfr, hab⟩)
  rw [List.nil_append] at c1
  obtain ⟨hd, hhd⟩ : ∃ hd, hd = puts' 4 [fr, ab] := ⟨_, rfl⟩
  have hdl : hd.length = 8 := by rw [hhd]; simp [puts'_length]
  rw [← hhd] at c1 hP
  clear hhd
  subst hP
  refine spec_of Tryz.func125 rfl Tryz.ntmps125 Tryz.results125 ⟨by decide, by simp⟩ fun C hC => ?_
  (repeat' ((fail_if_success (first | refine stop_at 4 ?_ | refine stop_l 4 ?_)); (first | refine sp_ ?_ | exact ex0 | (refine ret_s [] ?_; simp (decide := true) (disch := omega) only [go_sem, ↓reduceIte, ↓put_at]))))
  refine own_c (3, 0) 0 (3, 1) 5 1 ?_
  simp (decide := true) (disch := omega) only [go_sem, ↓reduceIte, ↓put_at]
  (repeat' ((fail_if_success (refine stop_reg 6 ?_)); (first | refine sp_ ?_ | exact ex0 | refine call_u Tryz.call39 (c1) [(3, 0)] ex1 ?_ | (refine ret_s [] ?_; simp (decide := true) (disch := omega) only [go_sem, ↓reduceIte, ↓put_at]))))
  refine loop_s (α := {j : Nat // j ≤ ps.length}) (fun j => [(.o (2, 0), .num 3), (.c (2, 0) 0, .av (.val (vi 0))), (.c (2, 0) 1, .av (.val (vi 0))), (.c (2, 0) 2, .av (.val (vs []))), (.s 2, .av (.ptr (2, 0) 0 0)), (.s 3, .av (.ptr (3, 0) 0 0)), (.o (3, 0), .num 1), (.c (3, 0) 0, .av (.own (3, 1) 0 5 1 ((hd ++ (ps.take j.1).flatMap wrPr).map byteEl))), (.k (3, 1), .row 5 1 (hd ++ (ps.take j.1).flatMap wrPr).length), (.s 24, .av (.val (.lst 2 (ps.map p10El)))), (.s 25, .av (.val (vi ps.length))), (.s 26, .av (.val (vi j.1)))]) (fun j => ps.length - j.1) ⟨0, Nat.zero_le _⟩ ?_ (fun j => ?_)
  · simp only [List.take_zero, List.flatMap_nil, List.append_nil]
    simp (decide := true) (disch := omega) only [go_sem, ↓reduceIte, ↓put_at]
  · obtain ⟨j, hj⟩ := j
    dsimp only at hj ⊢
    have hw : ((ps.take j).flatMap wrPr).length = 4 * j := by rw [fm_len 4 wrPr wrPr_len, List.length_take, Nat.min_eq_left hj]
    by_cases hlt : j < ps.length
    · have ht : ps.take (j + 1) = ps.take j ++ [ps[j]] := List.take_succ_eq_append_getElem hlt
      have hge : (ps.map p10El).getD j [] = p10El ps[j] := by simp [hlt]
      obtain ⟨⟨q1, q2⟩, q3, q4⟩ := hps _ (List.getElem_mem hlt)
      have c2 := out_u16 (hd ++ (ps.take j).flatMap wrPr) [ps[j].pid, ps[j].blp] (by rw [List.length_append, hw]; simp only [List.length_cons, List.length_nil]; omega)
      have hnx : (hd ++ (ps.take j).flatMap wrPr) ++ puts' 2 [ps[j].pid, ps[j].blp] = hd ++ (ps.take (j + 1)).flatMap wrPr := by rw [ht, List.flatMap_append, List.append_assoc]; congr 1
      rw [hnx] at c2
      (repeat' ((first | refine sp_ ?_ | exact ex0 | refine call_u Tryz.call35 (c2) [(3, 0)] ex1 ?_ | (refine ret_s [] ?_; simp (decide := true) (disch := omega) only [go_sem, ↓reduceIte, ↓put_at]))))
      refine next_s (α := {j : Nat // j ≤ ps.length}) ⟨j + 1, hlt⟩ ⟨?_, by (try dsimp only); omega⟩
      simp (decide := true) (disch := omega) only [go_sem, ↓reduceIte, ↓put_at]
    · have e : ps.take j = ps := List.take_of_length_le (by omega)
      rw [e] at hw ⊢
      have c3 := out_bytes (hd ++ ps.flatMap wrPr) (by rw [List.length_append]; omega)
      (repeat' ((first | refine sp_ ?_ | exact ex0 | refine call_u Tryz.call37 (c3) [(3, 0)] ex1 ?_ | (refine ret_s [] ?_; simp (decide := true) (disch := omega) only [go_sem, ↓reduceIte, ↓put_at]))))
set_option maxRecDepth 100000 in
set_option maxHeartbeats 4000000 in
theorem nack_of (p : Pc) (hp : p.2.2.length ≤ maxLen) : Spec Tryz.prog 57 [.ca (.val (pcV p))] [] (.ca (.val (.tup [.agg (n10L (nackR p)), vi (nackE p)]))) [] := by
  obtain ⟨c, k, b⟩ := p
  dsimp only at hp
  obtain ⟨E, hE⟩ : ∃ E, E = nackE (c, k, b) := ⟨_, rfl⟩
  obtain ⟨R, hR⟩ : ∃ R, R = nackR (c, k, b) := ⟨_, rfl⟩
  rw [← hE, ← hR]
  unfold nackR at hR
  rw [← hE] at hR
  unfold nackE at hE
  dsimp only at hE hR
  by_cases hk : k = 205
  · by_cases hc : c = 1
    · rw [if_neg (by omega)] at hE
      by_cases h1 : b.length < 12
      · rw [if_pos h1] at hE
        subst hE
        rw [if_neg (by decide)] at hR
        subst hR
        refine spec_of Tryz.func57 rfl Tryz.ntmps57 Tryz.results57 ⟨by decide, by simp⟩ fun C hC => ?_
        (repeat' ((first | refine sp_ ?_ | exact ex0 | (refine ret_s [] ?_; simp (decide := true) (disch := omega) only [go_sem, ↓reduceIte, ↓put_at]))))
      rw [if_neg h1] at hE
      by_cases h2 : b.length % 4 ≠ 0
      · rw [if_pos (.inl h2)] at hE
        subst hE
        rw [if_neg (by decide)] at hR
        subst hR
        have h3 : ¬ (b.length : Int) % 4 = 0 := by omega
        refine spec_of Tryz.func57 rfl Tryz.ntmps57 Tryz.results57 ⟨by decide, by simp⟩ fun C hC => ?_
        (repeat' ((first | refine sp_ ?_ | exact ex0 | (refine ret_s [] ?_; simp (decide := true) (disch := omega) only [go_sem, ↓reduceIte, ↓put_at]))))
      have h2' : (b.length : Int) % 4 = 0 := by omega
      by_cases h3 : 1208 < b.length
      · rw [if_pos (.inr h3)] at hE
        subst hE
        rw [if_neg (by decide)] at hR
        subst hR
        refine spec_of Tryz.func57 rfl Tryz.ntmps57 Tryz.results57 ⟨by decide, by simp⟩ fun C hC => ?_
        (repeat' ((first | refine sp_ ?_ | exact ex0 | (refine ret_s [] ?_; simp (decide := true) (disch := omega) only [go_sem, ↓reduceIte, ↓put_at]))))
      rw [if_neg (by omega)] at hE
      subst hE
      rw [if_pos rfl] at hR
      subst hR
      obtain ⟨N, hN⟩ : ∃ N, N = (b.length - 8) / 4 := ⟨_, rfl⟩
      have hlen : b.length = 8 + 4 * N := by omega
      have c0 := gx_of b
      have c1 := gx32 b 0 hp
      have c2 := gx32 b 4 hp
      rw [goX_vl 4 0 b (by omega), List.drop_zero] at c1
      rw [goX_vl 4 4 b (by omega)] at c2
      rw [← hN]
      clear hN
      subst hk hc
      generalize hfr : getN (b.take 4) = fr at *
      generalize hab : getN ((b.drop 4).take 4) = ab at *
      refine spec_of Tryz.func57 rfl Tryz.ntmps57 Tryz.results57 ⟨by decide, by simp⟩ fun C hC => ?_
      (repeat' ((fail_if_success (refine stop_reg 10 ?_)); (first | refine sp_ ?_ | exact ex0 | refine call_u Tryz.call43 (c0) [] ex1 ?_ | refine call_u Tryz.call71 (c1) [(35, 0)] ex1 ?_ | refine call_u Tryz.call71 (c2) [(35, 0)] ex1 ?_ | (refine ret_s [] ?_; simp (decide := true) (disch := omega) only [go_sem, ↓reduceIte, ↓put_at]))))
      refine own_c (6, 0) 2 (6, 3) 76 2 ?_
      simp (decide := true) (disch := omega) only [go_sem, ↓reduceIte, ↓put_at]
      refine loop_s (α := {j : Nat // j ≤ N}) (fun j => [(.o (2, 0), .num 3), (.c (2, 0) 0, .av (.val (vu 0))), (.c (2, 0) 1, .av (.val (vu 0))), (.c (2, 0) 2, .av (.val (.sc (.slice none 0 0)))), (.s 2, .av (.ptr (2, 0) 0 0)), (.s 3, .av (.val (vi 0))), (.s 5, .av (.ptr (35, 0) 0 0)), (.o (35, 0), .num 2), (.c (35, 0) 0, .av (.val (vs (goX (8 + 4 * j.1) b).1))), (.c (35, 0) 1, .av (.val (vi (goX (8 + 4 * j.1) b).2))), (.o (6, 0), .num 3), (.c (6, 0) 0, .av (.val (vu fr))), (.c (6, 0) 1, .av (.val (vu ab))), (.c (6, 0) 2, .av (.own (6, 3) 0 76 2 ((prs j.1 8 b).map p10El))), (.k (6, 3), .row 76 2 (prs j.1 8 b).length), (.s 6, .av (.ptr (6, 0) 0 0))]) (fun j => N - j.1) ⟨0, Nat.zero_le _⟩ ?_ (fun j => ?_)
      · (try dsimp only)
        rw [show prs 0 8 b = [] from rfl]
        simp (decide := true) (disch := omega) only [go_sem, ↓reduceIte, ↓put_at]
      · obtain ⟨j, hj⟩ := j
        dsimp only at hj ⊢
        have c3 := gx_left b (8 + 4 * j)
        have hpl := prs_len j 8 b
        by_cases hlt : j < N
        · have c4 := gx16 b (8 + 4 * j) hp
          have c5 := gx16 b (8 + 4 * j + 2) hp
          rw [goX_vl 2 _ b (by omega)] at c4 c5
          have v1 := getN_lt ((b.drop (8 + 4 * j)).take 2)
          have v2 := getN_lt ((b.drop (8 + 4 * j + 2)).take 2)
          rw [List.length_take, List.length_drop, Nat.min_eq_left (by omega)] at v1 v2
          have hs := prs_succ j 8 b
          have e4 : 8 + 4 * j + 2 + 2 = 8 + 4 * (j + 1) := by omega
          rw [e4] at c5
          generalize getN ((b.drop (8 + 4 * j)).take 2) = a1 at *
          generalize getN ((b.drop (8 + 4 * j + 2)).take 2) = a2 at *
          have hleft : (0 : Int) < ((b.length - (8 + 4 * j) : Nat) : Int) := by omega
          (repeat' ((first | refine sp_ ?_ | exact ex0 | refine call_u Tryz.call44 (c3) [(35, 0)] ex1 ?_ | refine call_u Tryz.call69 (c4) [(35, 0)] ex1 ?_ | refine call_u Tryz.call69 (c5) [(35, 0)] ex1 ?_ | (refine ret_s [] ?_; simp (decide := true) (disch := omega) only [go_sem, ↓reduceIte, ↓put_at]))))
          refine next_s (α := {j : Nat // j ≤ N}) ⟨j + 1, hlt⟩ ⟨?_, by (try dsimp only); omega⟩
          (try dsimp only)
          rw [hs]
          simp (decide := true) (disch := omega) only [go_sem, ↓reduceIte, ↓put_at]
          rw [List.map_append]
          rfl
        · obtain rfl : j = N := by omega
          have hleft : ¬ (0 : Int) < ((b.length - (8 + 4 * j) : Nat) : Int) := by omega
          (repeat' ((first | refine sp_ ?_ | exact ex0 | refine call_u Tryz.call44 (c3) [(35, 0)] ex1 ?_ | (refine ret_s [] ?_; simp (decide := true) (disch := omega) only [go_sem, ↓reduceIte, ↓put_at]))))
    · rw [if_pos (.inr hc)] at hE
      subst hE
      rw [if_neg (by decide)] at hR
      subst hR
      refine spec_of Tryz.func57 rfl Tryz.ntmps57 Tryz.results57 ⟨by decide, by simp⟩ fun C hC => ?_
      (repeat' ((first | refine sp_ ?_ | exact ex0 | (refine ret_s [] ?_; simp (decide := true) (disch := omega) only [go_sem, ↓reduceIte, ↓put_at]))))
  · rw [if_pos (.inl hk)] at hE
    subst hE
    rw [if_neg (by decide)] at hR
    subst hR
    refine spec_of Tryz.func57 rfl Tryz.ntmps57 Tryz.results57 ⟨by decide, by simp⟩ fun C hC => ?_
    (repeat' ((first | refine sp_ ?_ | exact ex0 | (refine ret_s [] ?_; simp (decide := true) (disch := omega) only [go_sem, ↓reduceIte, ↓put_at]))))
end Go.Proofs.YtbnnfmleoebelaaGreat

