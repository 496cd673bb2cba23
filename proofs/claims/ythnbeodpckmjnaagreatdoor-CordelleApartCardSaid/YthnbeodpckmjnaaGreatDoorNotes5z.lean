/- Package notes: words as pieces; a source in a goodbye; goodbyes and words read. -/
import Derived.Test.YthnbeodpckmjnaaGreatDoorQCmp07z
import Derived.Test.YthnbeodpckmjnaaGreatDoorQCmp07z
namespace Go.Proofs.YthnbeodpckmjnaaGreatDoor
open Go.RowKit
set_option linter.unusedVariables false
set_option linter.unusedSimpArgs false

abbrev a9L (a : A9) : List V := [vi a.sub, vu a.src, vs a.name, vs a.data]
structure A9.Ok (a : A9) : Prop where
  src : 0 ≤ a.src ∧ a.src < 4294967296
  name : a.name.length ≤ maxLen
  data : a.data.length ≤ maxLen
theorem mayA_iff (a : A9) : mayA a = true ↔ 0 ≤ a.sub ∧ a.sub ≤ 31 ∧ a.name.length = 4 ∧ a.data.length % 4 = 0 ∧ a.data.length ≤ 1024 := by unfold mayA; rw [decide_eq_true_eq]
theorem appP_no (a : A9) (h : ¬ (0 ≤ a.sub ∧ a.sub ≤ 31 ∧ a.name.length = 4 ∧ a.data.length % 4 = 0 ∧ a.data.length ≤ 1024)) : appP a = (0, 0, []) := by unfold appP; rw [if_neg fun h2 => h ((mayA_iff a).1 h2)]
theorem appP_yes (a : A9) (h : 0 ≤ a.sub ∧ a.sub ≤ 31 ∧ a.name.length = 4 ∧ a.data.length % 4 = 0 ∧ a.data.length ≤ 1024) : appP a = (a.sub, 204, puts' 4 [a.src] ++ a.name ++ a.data) := by unfold appP; rw [if_pos ((mayA_iff a).2 h)]
set_option maxRecDepth 100000 in
set_option maxHeartbeats 4000000 in
theorem notes_app (a : A9) (ho : a.Ok) : Spec Tryz.prog 24 [.ca (.val (.agg (a9L a)))] [] (.ca (.val (pcV (appP a)))) [] := by
  obtain ⟨s, c, n, d⟩ := a
  obtain ⟨o1, o2, o3⟩ := ho
  have hno := appP_no ⟨s, c, n, d⟩
  have hyes := appP_yes ⟨s, c, n, d⟩
  generalize appP ⟨s, c, n, d⟩ = R at *
  unfold maxLen at o2 o3
  dsimp only at *
  by_cases h1 : s < 0
  · obtain rfl := hno (by omega)
    refine spec_of Tryz.func24 rfl Tryz.ntmps24 Tryz.results24 ⟨by decide, by simp⟩ fun C hC => ?_
    (repeat (first | refine sp_ ?_ | exact ex0))
    (refine ret_s [] ?_; simp (decide := true) (disch := omega) only [go_sem, ↓reduceIte, ↓put_at])
  by_cases h2 : 31 < s
  · obtain rfl := hno (by omega)
    refine spec_of Tryz.func24 rfl Tryz.ntmps24 Tryz.results24 ⟨by decide, by simp⟩ fun C hC => ?_
    (repeat (first | refine sp_ ?_ | exact ex0))
    (refine ret_s [] ?_; simp (decide := true) (disch := omega) only [go_sem, ↓reduceIte, ↓put_at])
  by_cases h3 : n.length = 4
  · by_cases h4 : d.length % 4 = 0
    · have h4' : (d.length : Int) % 4 = 0 := by omega
      by_cases h5 : 1024 < d.length
      · obtain rfl := hno (by omega)
        refine spec_of Tryz.func24 rfl Tryz.ntmps24 Tryz.results24 ⟨by decide, by simp⟩ fun C hC => ?_
        (repeat (first | refine sp_ ?_ | exact ex0))
        (refine ret_s [] ?_; simp (decide := true) (disch := omega) only [go_sem, ↓reduceIte, ↓put_at])
      · obtain rfl := hyes (by omega)
        have hq := puts'_length 4 [c]
        simp only [List.length_cons, List.length_nil] at hq
        have c1 := out_u32 [] [c] (by simp) (by simpa using o1)
        rw [List.nil_append] at c1
        have c2 := out_raw (puts' 4 [c]) [n, d] (by simp only [List.length_append, List.flatten_cons, List.flatten_nil, List.append_nil]; omega) (by simp)
        have e : puts' 4 [c] ++ [n, d].flatten = puts' 4 [c] ++ n ++ d := by simp
        rw [e] at c2
        have c3 := out_bytes (puts' 4 [c] ++ n ++ d) (by simp only [List.length_append]; omega)
        refine spec_of Tryz.func24 rfl Tryz.ntmps24 Tryz.results24 ⟨by decide, by simp⟩ fun C hC => ?_
        (repeat (first | refine sp_ ?_ | exact ex0))
        refine call_s Tryz.call41 c1 [(3, 0)] ?_
        (repeat (first | refine sp_ ?_ | exact ex0))
        refine call_s Tryz.call42 c2 [(3, 0)] ?_
        (repeat (first | refine sp_ ?_ | exact ex0))
        refine call_s Tryz.call17 c3 [(3, 0)] ?_
        (repeat (first | refine sp_ ?_ | exact ex0))
        (refine ret_s [] ?_; simp (decide := true) (disch := omega) only [go_sem, ↓reduceIte, ↓put_at])
    · obtain rfl := hno (by omega)
      have h4' : (d.length : Int) % 4 ≠ 0 := by omega
      refine spec_of Tryz.func24 rfl Tryz.ntmps24 Tryz.results24 ⟨by decide, by simp⟩ fun C hC => ?_
      (repeat (first | refine sp_ ?_ | exact ex0))
      (refine ret_s [] ?_; simp (decide := true) (disch := omega) only [go_sem, ↓reduceIte, ↓put_at])
  · obtain rfl := hno (by omega)
    refine spec_of Tryz.func24 rfl Tryz.ntmps24 Tryz.results24 ⟨by decide, by simp⟩ fun C hC => ?_
    (repeat (first | refine sp_ ?_ | exact ex0))
    (refine ret_s [] ?_; simp (decide := true) (disch := omega) only [go_sem, ↓reduceIte, ↓put_at])
/-- What the judging of what was read says. -/
def justE (p : Pc) (kind : Int) (again : Pc) : Int := if p.2.1 ≠ kind then 5 else if again ≠ p then 1 else 0
set_option maxRecDepth 100000 in
set_option maxHeartbeats 4000000 in
theorem just_bye (p : Pc) (k : Int) (b : Y9) (q : Pc) : Spec Tryz.prog 106 [.ca (.val (pcV p)), .ca (.val (vi k)), .ca (.val (.agg (y9L b))), .ca (.val (pcV q))] [] (.ca (.val (.tup [.agg (y9L (if justE p k q = 0 then b else ⟨[], []⟩)), vi (justE p k q)]))) [] := by
  obtain ⟨n, c, s⟩ := p
  obtain ⟨n', c', s'⟩ := q
  obtain ⟨r, ss⟩ := b
  by_cases h1 : c = k
  · have hcm := pp_ne n' n c' c s' s
    by_cases h2 : (n', c', s') = (n, c, s)
    · have hE : justE (n, c, s) k (n', c', s') = 0 := by unfold justE; rw [if_neg (by simpa using h1), if_neg (by simpa using h2)]
      rw [hE, if_pos rfl]
      obtain ⟨rfl, rfl, rfl⟩ := h2
      rw [decide_eq_true ⟨rfl, rfl, rfl⟩] at hcm
      refine spec_of Tryz.func106 rfl Tryz.ntmps106 Tryz.results106 ⟨by decide, by simp⟩ fun C hC => ?_
      (repeat (first | refine sp_ ?_ | exact ex0))
      refine cmpA_s _ _ _ (.inr rfl) (by simp (decide := true) (disch := omega) only [go_sem, ↓reduceIte, ↓put_at]) (by simp (decide := true) (disch := omega) only [go_sem, ↓reduceIte, ↓put_at]) (by kernel_rfl) hcm ?_
      (repeat (first | refine sp_ ?_ | exact ex0))
      (refine ret_s [] ?_; simp (decide := true) (disch := omega) only [go_sem, ↓reduceIte, ↓put_at])
    · have hE : justE (n, c, s) k (n', c', s') = 1 := by unfold justE; rw [if_neg (by simpa using h1), if_pos h2]
      rw [hE, if_neg (by decide)]
      rw [decide_eq_false (fun h => h2 (by rw [h.1, h.2.1, h.2.2]))] at hcm
      refine spec_of Tryz.func106 rfl Tryz.ntmps106 Tryz.results106 ⟨by decide, by simp⟩ fun C hC => ?_
      (repeat (first | refine sp_ ?_ | exact ex0))
      refine cmpA_s _ _ _ (.inr rfl) (by simp (decide := true) (disch := omega) only [go_sem, ↓reduceIte, ↓put_at]) (by simp (decide := true) (disch := omega) only [go_sem, ↓reduceIte, ↓put_at]) (by kernel_rfl) hcm ?_
      (repeat (first | refine sp_ ?_ | exact ex0))
      (refine ret_s [] ?_; simp (decide := true) (disch := omega) only [go_sem, ↓reduceIte, ↓put_at])
  · have hE : justE (n, c, s) k (n', c', s') = 5 := by unfold justE; rw [if_pos h1]
    rw [hE, if_neg (by decide)]
    refine spec_of Tryz.func106 rfl Tryz.ntmps106 Tryz.results106 ⟨by decide, by simp⟩ fun C hC => ?_
    (repeat (first | refine sp_ ?_ | exact ex0))
    (refine ret_s [] ?_; simp (decide := true) (disch := omega) only [go_sem, ↓reduceIte, ↓put_at])
set_option maxRecDepth 100000 in
set_option maxHeartbeats 4000000 in
theorem just_app (p : Pc) (k : Int) (b : A9) (q : Pc) : Spec Tryz.prog 71 [.ca (.val (pcV p)), .ca (.val (vi k)), .ca (.val (.agg (a9L b))), .ca (.val (pcV q))] [] (.ca (.val (.tup [.agg (a9L (if justE p k q = 0 then b else ⟨0, 0, [], []⟩)), vi (justE p k q)]))) [] := by
  obtain ⟨n, c, s⟩ := p
  obtain ⟨n', c', s'⟩ := q
  obtain ⟨b1, b2, b3, b4⟩ := b
  by_cases h1 : c = k
  · have hcm := pp_ne n' n c' c s' s
    by_cases h2 : (n', c', s') = (n, c, s)
    · have hE : justE (n, c, s) k (n', c', s') = 0 := by unfold justE; rw [if_neg (by simpa using h1), if_neg (by simpa using h2)]
      rw [hE, if_pos rfl]
      obtain ⟨rfl, rfl, rfl⟩ := h2
      rw [decide_eq_true ⟨rfl, rfl, rfl⟩] at hcm
      refine spec_of Tryz.func71 rfl Tryz.ntmps71 Tryz.results71 ⟨by decide, by simp⟩ fun C hC => ?_
      (repeat (first | refine sp_ ?_ | exact ex0))
      refine cmpA_s _ _ _ (.inr rfl) (by simp (decide := true) (disch := omega) only [go_sem, ↓reduceIte, ↓put_at]) (by simp (decide := true) (disch := omega) only [go_sem, ↓reduceIte, ↓put_at]) (by kernel_rfl) hcm ?_
      (repeat (first | refine sp_ ?_ | exact ex0))
      (refine ret_s [] ?_; simp (decide := true) (disch := omega) only [go_sem, ↓reduceIte, ↓put_at])
    · have hE : justE (n, c, s) k (n', c', s') = 1 := by unfold justE; rw [if_neg (by simpa using h1), if_pos h2]
      rw [hE, if_neg (by decide)]
      rw [decide_eq_false (fun h => h2 (by rw [h.1, h.2.1, h.2.2]))] at hcm
      refine spec_of Tryz.func71 rfl Tryz.ntmps71 Tryz.results71 ⟨by decide, by simp⟩ fun C hC => ?_
      (repeat (first | refine sp_ ?_ | exact ex0))
      refine cmpA_s _ _ _ (.inr rfl) (by simp (decide := true) (disch := omega) only [go_sem, ↓reduceIte, ↓put_at]) (by simp (decide := true) (disch := omega) only [go_sem, ↓reduceIte, ↓put_at]) (by kernel_rfl) hcm ?_
      (repeat (first | refine sp_ ?_ | exact ex0))
      (refine ret_s [] ?_; simp (decide := true) (disch := omega) only [go_sem, ↓reduceIte, ↓put_at])
  · have hE : justE (n, c, s) k (n', c', s') = 5 := by unfold justE; rw [if_pos h1]
    rw [hE, if_neg (by decide)]
    refine spec_of Tryz.func71 rfl Tryz.ntmps71 Tryz.results71 ⟨by decide, by simp⟩ fun C hC => ?_
    (repeat (first | refine sp_ ?_ | exact ex0))
    (refine ret_s [] ?_; simp (decide := true) (disch := omega) only [go_sem, ↓reduceIte, ↓put_at])
set_option maxRecDepth 100000 in
set_option maxHeartbeats 4000000 in
theorem just_names (p : Pc) (k : Int) (b : List N9) (q : Pc) : Spec Tryz.prog 104 [.ca (.val (pcV p)), .ca (.val (vi k)), .ca (.val (.lst 2 (b.map n9El))), .ca (.val (pcV q))] [] (.ca (.val (.tup [.lst 2 ((if justE p k q = 0 then b else []).map n9El), vi (justE p k q)]))) [] := by
  obtain ⟨n, c, s⟩ := p
  obtain ⟨n', c', s'⟩ := q
  by_cases h1 : c = k
  · have hcm := pp_ne n' n c' c s' s
    by_cases h2 : (n', c', s') = (n, c, s)
    · have hE : justE (n, c, s) k (n', c', s') = 0 := by unfold justE; rw [if_neg (by simpa using h1), if_neg (by simpa using h2)]
      rw [hE, if_pos rfl]
      obtain ⟨rfl, rfl, rfl⟩ := h2
      rw [decide_eq_true ⟨rfl, rfl, rfl⟩] at hcm
      refine spec_of Tryz.func104 rfl Tryz.ntmps104 Tryz.results104 ⟨by decide, by simp⟩ fun C hC => ?_
      (repeat (first | refine sp_ ?_ | exact ex0))
      refine cmpA_s _ _ _ (.inr rfl) (by simp (decide := true) (disch := omega) only [go_sem, ↓reduceIte, ↓put_at]) (by simp (decide := true) (disch := omega) only [go_sem, ↓reduceIte, ↓put_at]) (by kernel_rfl) hcm ?_
      (repeat (first | refine sp_ ?_ | exact ex0))
      (refine ret_s [] ?_; simp (decide := true) (disch := omega) only [go_sem, ↓reduceIte, ↓put_at])
    · have hE : justE (n, c, s) k (n', c', s') = 1 := by unfold justE; rw [if_neg (by simpa using h1), if_pos h2]
      rw [hE, if_neg (by decide)]
      rw [decide_eq_false (fun h => h2 (by rw [h.1, h.2.1, h.2.2]))] at hcm
      refine spec_of Tryz.func104 rfl Tryz.ntmps104 Tryz.results104 ⟨by decide, by simp⟩ fun C hC => ?_
      (repeat (first | refine sp_ ?_ | exact ex0))
      refine cmpA_s _ _ _ (.inr rfl) (by simp (decide := true) (disch := omega) only [go_sem, ↓reduceIte, ↓put_at]) (by simp (decide := true) (disch := omega) only [go_sem, ↓reduceIte, ↓put_at]) (by kernel_rfl) hcm ?_
      (repeat (first | refine sp_ ?_ | exact ex0))
      (refine ret_s [] ?_; simp (decide := true) (disch := omega) only [go_sem, ↓reduceIte, ↓put_at])
  · have hE : justE (n, c, s) k (n', c', s') = 5 := by unfold justE; rw [if_pos h1]
    rw [hE, if_neg (by decide)]
    refine spec_of Tryz.func104 rfl Tryz.ntmps104 Tryz.results104 ⟨by decide, by simp⟩ fun C hC => ?_
    (repeat (first | refine sp_ ?_ | exact ex0))
    (refine ret_s [] ?_; simp (decide := true) (disch := omega) only [go_sem, ↓reduceIte, ↓put_at])
end Go.Proofs.YthnbeodpckmjnaaGreatDoor

namespace Go.Proofs.YthnbeodpckmjnaaGreatDoor
open Go.RowKit
set_option linter.unusedVariables false
set_option linter.unusedSimpArgs false

def rdWs : Nat → List UInt8 × Int → List Int
  | 0, _ => []
  | n + 1, x => vl 4 x :: rdWs n (nx 4 x)
def nxWs : Nat → List UInt8 × Int → List UInt8 × Int
  | 0, x => x
  | n + 1, x => nxWs n (nx 4 x)
theorem rdWs_len (n : Nat) (x : List UInt8 × Int) : (rdWs n x).length = n := by
  induction n generalizing x with
  | zero => rfl
  | succ n ih => simp [rdWs, ih]
theorem rdWs_in (n : Nat) (x : List UInt8 × Int) : ∀ m ∈ rdWs n x, 0 ≤ m ∧ m < 4294967296 := by
  induction n generalizing x with
  | zero => intro m h; simp [rdWs] at h
  | succ n ih =>
    intro m h
    rw [rdWs] at h
    rcases List.mem_cons.1 h with rfl | h
    · exact vl_lt 4 4294967296 x (by decide)
    · exact ih _ m h
theorem nxWs_len (n : Nat) (x : List UInt8 × Int) : (nxWs n x).1.length ≤ x.1.length := by
  induction n generalizing x with
  | zero => exact Nat.le_refl _
  | succ n ih => exact Nat.le_trans (ih _) (nx_len 4 x)
def cnt32 (n : Int) : Nat := (max 0 (min n 32)).toNat
def rawY (p : Pc) : Y9 :=
  ⟨if (nxWs (cnt32 p.1) (p.2.2, 0)).1 = [] then [] else rawT (nx 1 (nxWs (cnt32 p.1) (p.2.2, 0))).1 (vl 1 (nxWs (cnt32 p.1) (p.2.2, 0))), rdWs (cnt32 p.1) (p.2.2, 0)⟩
def byeE (p : Pc) : Int := justE p 203 (byeP (rawY p))
def byeR (p : Pc) : Y9 := if byeE p = 0 then rawY p else ⟨[], []⟩
theorem rawT_le (l : List UInt8) (n : Int) : (rawT l n).length ≤ l.length := by
  unfold rawT
  split
  · rw [List.length_take]; omega
  · simp
theorem rawY_ok (p : Pc) (h : p.2.2.length ≤ maxLen) : (rawY p).Ok := by
  have h1 := nxWs_len (cnt32 p.1) (p.2.2, 0)
  refine ⟨?_, ?_, rdWs_in _ _⟩
  · unfold rawY
    dsimp only
    split
    · simp
    · have h2 := nx_len 1 (nxWs (cnt32 p.1) (p.2.2, 0))
      have h3 := rawT_le (nx 1 (nxWs (cnt32 p.1) (p.2.2, 0))).1 (vl 1 (nxWs (cnt32 p.1) (p.2.2, 0)))
      dsimp only at h1
      omega
  · unfold rawY
    dsimp only
    rw [rdWs_len]
    unfold cnt32 maxLen
    omega
set_option maxRecDepth 100000 in
set_option maxHeartbeats 8000000 in
theorem notes_tobye (p : Pc) (hp : p.2.2.length ≤ maxLen) : Spec Tryz.prog 77 [.ca (.val (pcV p))] [] (.ca (.val (.tup [.agg (y9L (byeR p)), vi (byeE p)]))) [] := by
  have hok := rawY_ok p hp
  have c1 := notes_bye (rawY p) hok
  have c2 := just_bye p 203 (rawY p) (byeP (rawY p))
  have hE : byeE p = justE p 203 (byeP (rawY p)) := rfl
  have hR : byeR p = if byeE p = 0 then rawY p else ⟨[], []⟩ := rfl
  rw [← hE, ← hR] at c2
  clear hE hR
  generalize byeE p = E at *
  generalize byeR p = R at *
  generalize byeP (rawY p) = Q at *
  obtain ⟨n, k, b⟩ := p
  obtain ⟨Y, hY⟩ : ∃ Y, Y = rawY (n, k, b) := ⟨_, rfl⟩
  rw [← hY] at c1 c2
  unfold rawY at hY
  dsimp only at *
  obtain ⟨N, hN⟩ : ∃ N, N = cnt32 n := ⟨_, rfl⟩
  have hcn : max 0 (min n 32) = (N : Int) := by unfold cnt32 at hN; omega
  have hN32 : N ≤ 32 := by unfold cnt32 at hN; omega
  obtain ⟨SS, hSS⟩ : ∃ x, x = rdWs N (b, 0) := ⟨_, rfl⟩
  obtain ⟨XF, hXF⟩ : ∃ x, x = nxWs N (b, 0) := ⟨_, rfl⟩
  have hsl : SS.length = N := by rw [hSS, rdWs_len]
  rw [← hN, ← hSS, ← hXF] at hY
  have hxl : XF.1.length ≤ maxLen := by rw [hXF]; exact Nat.le_trans (nxWs_len _ _) hp
  obtain ⟨RE, hRE⟩ : ∃ x, x = if XF.1 = [] then [] else rawT (nx 1 XF).1 (vl 1 XF) := ⟨_, rfl⟩
  rw [← hRE] at hY
  subst hY
  refine spec_of Tryz.func77 rfl Tryz.ntmps77 Tryz.results77 ⟨by decide, by simp⟩ fun C hC => ?_
  (repeat (first | refine sp_ ?_ | exact ex0))
  refine call_s Tryz.call43 (pen_of b) [] ?_
  (repeat (first | refine sp_ ?_ | exact ex0))
  refine own_c (5, 0) 1 (5, 2) 22 1 ?_
  simp (decide := true) (disch := omega) only [go_sem, ↓reduceIte, ↓put_at]
  refine loop_s (α := {y : Nat × (List UInt8 × Int) × List Int // y.1 ≤ N ∧ y.2.1.1.length ≤ maxLen ∧ y.2.2.length = y.1 ∧ y.2.2 ++ rdWs (N - y.1) y.2.1 = SS ∧ nxWs (N - y.1) y.2.1 = XF}) (fun y => [(.s 1, .av (.ptr (1, 0) 0 0)), (.o (1, 0), .num 3), (.c (1, 0) 0, .av (.val (vi n))), (.c (1, 0) 1, .av (.val (vi k))), (.c (1, 0) 2, .av (.val (vs b))), (.s 2, .av (.ptr (2, 0) 0 0)), (.o (2, 0), .num 2), (.s 4, .av (.ptr (8, 0) 0 0)), (.o (8, 0), .num 2), (.c (8, 0) 0, .av (.val (vs y.1.2.1.1))), (.c (8, 0) 1, .av (.val (vi y.1.2.1.2))), (.s 5, .av (.ptr (5, 0) 0 0)), (.o (5, 0), .num 2), (.c (5, 0) 0, .av (.val (vs []))), (.c (5, 0) 1, .av (.own (5, 2) 0 22 1 (y.1.2.2.map u32El))), (.k (5, 2), .row 22 1 y.1.2.2.length), (.s 12, .av (.val (vi N))), (.s 13, .av (.val (vi y.1.1)))]) (fun y => N - y.1.1) ⟨(0, (b, 0), []), Nat.zero_le _, hp, rfl, hSS.symm, hXF.symm⟩ ?_ (fun y => ?_)
  · simp only [List.map_nil]
    simp (decide := true) (disch := omega) only [go_sem, ↓reduceIte, ↓put_at]
    exact hcn
  · obtain ⟨⟨j, x, acc⟩, hj, hxl', hac, hb1, hb2⟩ := y
    dsimp only at hj hxl' hac hb1 hb2 ⊢
    by_cases hlt : j < N
    · have c3 := rd32 x hxl'
      have hnl := Nat.le_trans (nx_len 4 x) hxl'
      obtain ⟨m, hm⟩ : ∃ m, N - j = m + 1 := ⟨N - j - 1, by omega⟩
      have hm2 : N - (j + 1) = m := by omega
      rw [hm] at hb1 hb2
      rw [rdWs] at hb1
      rw [nxWs] at hb2
      (repeat (first | refine sp_ ?_ | exact ex0))
      refine call_s Tryz.call52 c3 [(8, 0)] ?_
      (repeat (first | refine sp_ ?_ | exact ex0))
      refine next_s ⟨(j + 1, nx 4 x, acc ++ [vl 4 x]), hlt, hnl, by simp [hac], by dsimp only; rw [hm2, List.append_assoc]; exact hb1, by dsimp only; rw [hm2]; exact hb2⟩ ⟨?_, by dsimp only; omega⟩
      simp (decide := true) (disch := omega) only [go_sem, ↓reduceIte, ↓put_at]
      rw [List.map_append]; rfl
    · have hjN : N - j = 0 := by omega
      rw [hjN] at hb1 hb2
      simp only [rdWs, nxWs, List.append_nil] at hb1 hb2
      clear hSS hXF
      subst hb1 hb2
      by_cases hx0 : x.1 = []
      · rw [if_pos hx0] at hRE
        subst hRE
        have hx0' : x.1.length = 0 := by rw [hx0]; rfl
        (repeat (first | refine sp_ ?_ | exact ex0))
        refine call_s Tryz.call44 (in_left x.1 x.2) [(8, 0)] ?_
        (repeat (first | refine sp_ ?_ | exact ex0))
        refine call_s Tryz.call107 c1 [] ?_
        (repeat (first | refine sp_ ?_ | exact ex0))
        refine call_s Tryz.call106 c2 [] ?_
        (repeat (first | refine sp_ ?_ | exact ex0))
        (refine ret_s [] ?_; simp (decide := true) (disch := omega) only [go_sem, ↓reduceIte, ↓put_at])
      · rw [if_neg hx0] at hRE
        have hx0' : 0 < x.1.length := List.length_pos_iff.2 hx0
        have v1 := vl_lt 1 256 x (by decide)
        have c4 := rd8 x hxl'
        have hnl := Nat.le_trans (nx_len 1 x) hxl'
        have c5 := in_raw (nx 1 x).1 (nx 1 x).2 (vl 1 x) hnl (by unfold maxLen; omega)
        rw [← hRE] at c5
        (repeat (first | refine sp_ ?_ | exact ex0))
        refine call_s Tryz.call44 (in_left x.1 x.2) [(8, 0)] ?_
        (repeat (first | refine sp_ ?_ | exact ex0))
        refine call_s Tryz.call50 c4 [(8, 0)] ?_
        (repeat (first | refine sp_ ?_ | exact ex0))
        refine call_s Tryz.call53 c5 [(8, 0)] ?_
        (repeat (first | refine sp_ ?_ | exact ex0))
        refine call_s Tryz.call107 c1 [] ?_
        (repeat (first | refine sp_ ?_ | exact ex0))
        refine call_s Tryz.call106 c2 [] ?_
        (repeat (first | refine sp_ ?_ | exact ex0))
        (refine ret_s [] ?_; simp (decide := true) (disch := omega) only [go_sem, ↓reduceIte, ↓put_at])
end Go.Proofs.YthnbeodpckmjnaaGreatDoor

namespace Go.Proofs.YthnbeodpckmjnaaGreatDoor
open Go.RowKit
set_option linter.unusedVariables false
set_option linter.unusedSimpArgs false

def rawA (p : Pc) : A9 := ⟨p.1, vl 4 (p.2.2, 0), rawT (nx 4 (p.2.2, 0)).1 4, (nx 4 (nx 4 (p.2.2, 0))).1⟩
def appE (p : Pc) : Int := justE p 204 (appP (rawA p))
def appR (p : Pc) : A9 := if appE p = 0 then rawA p else ⟨0, 0, [], []⟩
theorem rawT_all (l : List UInt8) : rawT l l.length = l := by unfold rawT; rw [if_pos (Int.le_refl _)]; simp
theorem rawT_le2 (l : List UInt8) (n : Int) : (rawT l n).length ≤ n.toNat := by
  unfold rawT
  split
  · rw [List.length_take]; omega
  · simp
theorem rawA_ok (p : Pc) (h : p.2.2.length ≤ maxLen) : (rawA p).Ok := by
  have h1 := nx_len 4 (p.2.2, 0)
  have h2 := nx_len 4 (nx 4 (p.2.2, 0))
  have h3 := rawT_le (nx 4 (p.2.2, 0)).1 4
  refine ⟨vl_lt 4 4294967296 _ (by decide), ?_, ?_⟩
  · unfold rawA; dsimp only at *; omega
  · unfold rawA; dsimp only at *; omega
set_option maxRecDepth 100000 in
set_option maxHeartbeats 8000000 in
theorem notes_toapp (p : Pc) (hp : p.2.2.length ≤ maxLen) : Spec Tryz.prog 47 [.ca (.val (pcV p))] [] (.ca (.val (.tup [.agg (a9L (appR p)), vi (appE p)]))) [] := by
  have hok := rawA_ok p hp
  have c1 := notes_app (rawA p) hok
  have c2 := just_app p 204 (rawA p) (appP (rawA p))
  have hE : appE p = justE p 204 (appP (rawA p)) := rfl
  have hR : appR p = if appE p = 0 then rawA p else ⟨0, 0, [], []⟩ := rfl
  rw [← hE, ← hR] at c2
  clear hE hR
  generalize appE p = E at *
  generalize appR p = R at *
  generalize appP (rawA p) = Q at *
  obtain ⟨n, k, b⟩ := p
  have c3 := rd32 (b, 0) hp
  have l1 := Nat.le_trans (nx_len 4 (b, 0)) hp
  have c4 := in_raw (nx 4 (b, 0)).1 (nx 4 (b, 0)).2 4 l1 (by decide)
  have e4 : (rawL (nx 4 (b, 0)).1 (nx 4 (b, 0)).2 4) = (nx 4 (nx 4 (b, 0))).1 := rfl
  have e5 : (rawE (nx 4 (b, 0)).1 (nx 4 (b, 0)).2 4) = (nx 4 (nx 4 (b, 0))).2 := rfl
  rw [e4, e5] at c4
  have l2 := Nat.le_trans (nx_len 4 (nx 4 (b, 0))) l1
  have c5 := in_raw (nx 4 (nx 4 (b, 0))).1 (nx 4 (nx 4 (b, 0))).2 (nx 4 (nx 4 (b, 0))).1.length l2 (by omega)
  rw [rawT_all] at c5
  unfold rawA at c1 c2
  dsimp only at *
  generalize vl 4 (b, 0) = src at *
  generalize rawT (nx 4 (b, 0)).1 4 = name at *
  generalize nx 4 (nx 4 (b, 0)) = x2 at *
  generalize nx 4 (b, 0) = x1 at *
  refine spec_of Tryz.func47 rfl Tryz.ntmps47 Tryz.results47 ⟨by decide, by simp⟩ fun C hC => ?_
  (repeat (first | refine sp_ ?_ | exact ex0))
  refine call_s Tryz.call43 (pen_of b) [] ?_
  (repeat (first | refine sp_ ?_ | exact ex0))
  refine call_s Tryz.call52 c3 [(8, 0)] ?_
  (repeat (first | refine sp_ ?_ | exact ex0))
  refine call_s Tryz.call53 c4 [(8, 0)] ?_
  (repeat (first | refine sp_ ?_ | exact ex0))
  refine call_s Tryz.call44 (in_left x2.1 x2.2) [(8, 0)] ?_
  (repeat (first | refine sp_ ?_ | exact ex0))
  refine call_s Tryz.call53 c5 [(8, 0)] ?_
  (repeat (first | refine sp_ ?_ | exact ex0))
  refine call_s Tryz.call24 c1 [] ?_
  (repeat (first | refine sp_ ?_ | exact ex0))
  refine call_s Tryz.call71 c2 [] ?_
  (repeat (first | refine sp_ ?_ | exact ex0))
  (refine ret_s [] ?_; simp (decide := true) (disch := omega) only [go_sem, ↓reduceIte, ↓put_at])
/-- What an In is after so many bytes as they are. -/
def nxr (n : Int) (x : List UInt8 × Int) : List UInt8 × Int := (rawL x.1 x.2 n, rawE x.1 x.2 n)
theorem nxr_len (n : Int) (x : List UInt8 × Int) : (nxr n x).1.length ≤ x.1.length := by
  unfold nxr rawL failL
  dsimp only
  split
  · simp
  · split <;> simp
theorem rdRaw (x : List UInt8 × Int) (n : Int) (hl : x.1.length ≤ maxLen) (hn : 0 ≤ n ∧ n ≤ maxLen) : Spec Tryz.prog 53 [.ptr 0 0, .ca (.val (vi n))] [inO x.1 x.2] (.ca (.val (vs (rawT x.1 n)))) [inO (nxr n x).1 (nxr n x).2] := in_raw x.1 x.2 n hl hn
def rdN (x : List UInt8 × Int) : N9 := ⟨vl 4 x, rawT (nx 1 (nx 1 (nx 4 x))).1 (vl 1 (nx 1 (nx 4 x)))⟩
def nxN (x : List UInt8 × Int) : List UInt8 × Int := nxr (4 - ((rdN x).text.length + 2) % 4) (nxr (vl 1 (nx 1 (nx 4 x))) (nx 1 (nx 1 (nx 4 x))))
def runN : Nat → List UInt8 × Int → List N9 → List N9
  | 0, _, acc => acc
  | f + 1, x, acc => if x.1 = [] then acc else runN f (nxN x) (acc ++ [rdN x])
def rawN (p : Pc) : List N9 := runN 32 (p.2.2, 0) []
def namesE (p : Pc) : Int := justE p 202 (namesP (rawN p))
def namesR (p : Pc) : List N9 := if namesE p = 0 then rawN p else []
theorem nxN_len (x : List UInt8 × Int) : (nxN x).1.length ≤ x.1.length := by
  unfold nxN
  exact Nat.le_trans (nxr_len _ _) (Nat.le_trans (nxr_len _ _) (Nat.le_trans (nx_len _ _) (Nat.le_trans (nx_len _ _) (nx_len _ _))))
theorem rdN_ok (x : List UInt8 × Int) (h : x.1.length ≤ maxLen) : (rdN x).Ok := by
  refine ⟨vl_lt 4 4294967296 _ (by decide), ?_⟩
  have h1 := rawT_le (nx 1 (nx 1 (nx 4 x))).1 (vl 1 (nx 1 (nx 4 x)))
  have h2 := Nat.le_trans (nx_len 1 (nx 1 (nx 4 x))) (Nat.le_trans (nx_len 1 (nx 4 x)) (nx_len 4 x))
  unfold rdN
  dsimp only
  omega
set_option maxRecDepth 100000 in
set_option maxHeartbeats 8000000 in
theorem notes_tonames (p : Pc) (hp : p.2.2.length ≤ maxLen) : Spec Tryz.prog 75 [.ca (.val (pcV p))] [] (.ca (.val (.tup [.lst 2 ((namesR p).map n9El), vi (namesE p)]))) [] := by
  have c2 := just_names p 202 (rawN p) (namesP (rawN p))
  have hE : namesE p = justE p 202 (namesP (rawN p)) := rfl
  have hR : namesR p = if namesE p = 0 then rawN p else [] := rfl
  rw [← hE, ← hR] at c2
  clear hE hR
  generalize namesE p = E at *
  generalize namesR p = R at *
  obtain ⟨n, k, b⟩ := p
  obtain ⟨L, hL⟩ : ∃ L, L = runN 32 (b, 0) [] := ⟨_, rfl⟩
  have hL2 : rawN (n, k, b) = L := hL.symm
  rw [hL2] at c2
  clear hL2
  dsimp only at hp
  refine spec_of Tryz.func75 rfl Tryz.ntmps75 Tryz.results75 ⟨by decide, by simp⟩ fun C hC => ?_
  (repeat (first | refine sp_ ?_ | exact ex0))
  refine call_s Tryz.call43 (pen_of b) [] ?_
  (repeat (first | refine sp_ ?_ | exact ex0))
  refine own_s 5 (5, 0) 189 2 ?_
  simp (decide := true) (disch := omega) only [go_sem, ↓reduceIte, ↓put_at]
  refine loop_s (α := {y : (List UInt8 × Int) × List N9 // y.1.1.length ≤ maxLen ∧ y.2.length ≤ 32 ∧ (∀ a ∈ y.2, a.Ok) ∧ runN (32 - y.2.length) y.1 y.2 = L}) (fun y => [(.s 1, .av (.ptr (1, 0) 0 0)), (.o (1, 0), .num 3), (.c (1, 0) 0, .av (.val (vi n))), (.c (1, 0) 1, .av (.val (vi k))), (.c (1, 0) 2, .av (.val (vs b))), (.s 4, .av (.ptr (9, 0) 0 0)), (.o (9, 0), .num 2), (.c (9, 0) 0, .av (.val (vs y.1.1.1))), (.c (9, 0) 1, .av (.val (vi y.1.1.2))), (.s 5, .av (.own (5, 0) 0 189 2 (y.1.2.map n9El))), (.k (5, 0), .row 189 2 y.1.2.length)]) (fun y => 32 - y.1.2.length) ⟨((b, 0), []), hp, by simp, fun a h => by simp at h, hL.symm⟩ ?_ (fun y => ?_)
  · simp only [List.map_nil]
    simp (decide := true) (disch := omega) only [go_sem, ↓reduceIte, ↓put_at]
  · obtain ⟨⟨x, acc⟩, hxl, hal, hao, hrun⟩ := y
    dsimp only at hxl hal hao hrun ⊢
    have cE : ∀ (h : acc = L), Spec Tryz.prog 105 [.ca (.val (.lst 2 (acc.map n9El)))] [] (.ca (.val (pcV (namesP L)))) [] := fun h => by
      rw [← h]
      exact notes_names acc (by unfold maxLen; omega) hao
    by_cases hx0 : x.1 = []
    · have hLa : acc = L := by
        rw [← hrun]
        cases h32 : 32 - acc.length with
        | zero => rfl
        | succ f => rw [runN, if_pos hx0]
      have c1 := cE hLa
      clear hL cE
      subst hLa
      have hx0' : x.1.length = 0 := by rw [hx0]; rfl
      generalize namesP acc = Q at *
      (repeat (first | refine sp_ ?_ | exact ex0))
      refine call_s Tryz.call44 (in_left x.1 x.2) [(9, 0)] ?_
      (repeat (first | refine sp_ ?_ | exact ex0))
      refine call_s Tryz.call105 c1 [] ?_
      (repeat (first | refine sp_ ?_ | exact ex0))
      refine call_s Tryz.call104 c2 [] ?_
      (repeat (first | refine sp_ ?_ | exact ex0))
      (refine ret_s [] ?_; simp (decide := true) (disch := omega) only [go_sem, ↓reduceIte, ↓put_at])
    have hx0' : 0 < x.1.length := List.length_pos_iff.2 hx0
    by_cases h31 : acc.length ≤ 31
    · obtain ⟨f, hf⟩ : ∃ f, 32 - acc.length = f + 1 := ⟨31 - acc.length, by omega⟩
      rw [hf, runN, if_neg hx0] at hrun
      have hf2 : 32 - (acc ++ [rdN x]).length = f := by simp; omega
      have hxn := Nat.le_trans (nxN_len x) hxl
      have hro := rdN_ok x hxl
      have v1 := vl_lt 1 256 (nx 1 (nx 4 x)) (by decide)
      have t1 := rawT_le (nx 1 (nx 1 (nx 4 x))).1 (vl 1 (nx 1 (nx 4 x)))
      have t2 : (rdN x).text.length ≤ 255 := Nat.le_trans (rawT_le2 _ _) (by omega)
      have c3 := rd32 x hxl
      have l1 := Nat.le_trans (nx_len 4 x) hxl
      have c4 := rd8 (nx 4 x) l1
      have l2 := Nat.le_trans (nx_len 1 (nx 4 x)) l1
      have c5 := rd8 (nx 1 (nx 4 x)) l2
      have l3 := Nat.le_trans (nx_len 1 (nx 1 (nx 4 x))) l2
      have c6 := rdRaw (nx 1 (nx 1 (nx 4 x))) (vl 1 (nx 1 (nx 4 x))) l3 (by unfold maxLen; omega)
      have l4 := Nat.le_trans (nxr_len (vl 1 (nx 1 (nx 4 x))) (nx 1 (nx 1 (nx 4 x)))) l3
      have c7 := rdRaw (nxr (vl 1 (nx 1 (nx 4 x))) (nx 1 (nx 1 (nx 4 x)))) (4 - ((rdN x).text.length + 2) % 4) l4 (by unfold maxLen; omega)
      have e7 : nxr (4 - ((rdN x).text.length + 2) % 4) (nxr (vl 1 (nx 1 (nx 4 x))) (nx 1 (nx 1 (nx 4 x)))) = nxN x := rfl
      rw [e7] at c7
      have e8 : (rdN x).text = rawT (nx 1 (nx 1 (nx 4 x))).1 (vl 1 (nx 1 (nx 4 x))) := rfl
      have e9 : (rdN x).src = vl 4 x := rfl
      rw [← e8] at c6 t1
      rw [← e9] at c3
      obtain ⟨ho1, ho2⟩ := hro
      have hro : (rdN x).Ok := ⟨ho1, ho2⟩
      generalize rdN x = y at *
      generalize nxN x = x5 at *
      unfold maxLen at ho2
      (repeat (first | refine sp_ ?_ | exact ex0))
      refine call_s Tryz.call44 (in_left x.1 x.2) [(9, 0)] ?_
      (repeat (first | refine sp_ ?_ | exact ex0))
      refine call_s Tryz.call52 c3 [(9, 0)] ?_
      (repeat (first | refine sp_ ?_ | exact ex0))
      refine call_s Tryz.call50 c4 [(9, 0)] ?_
      (repeat (first | refine sp_ ?_ | exact ex0))
      refine call_s Tryz.call50 c5 [(9, 0)] ?_
      (repeat (first | refine sp_ ?_ | exact ex0))
      refine call_s Tryz.call53 c6 [(9, 0)] ?_
      (repeat (first | refine sp_ ?_ | exact ex0))
      refine call_s Tryz.call53 c7 [(9, 0)] ?_
      (repeat (first | refine sp_ ?_ | exact ex0))
      have hao2 : ∀ a ∈ acc ++ [y], a.Ok := fun a ha => by
        rcases List.mem_append.1 ha with h | h
        · exact hao a h
        · rw [List.mem_singleton.1 h]; exact hro
      have hal2 : (acc ++ [y]).length = acc.length + 1 := by simp
      refine next_s ⟨(x5, acc ++ [y]), hxn, by dsimp only; omega, hao2, by dsimp only; rw [hf2]; exact hrun⟩ ⟨?_, by dsimp only; omega⟩
      simp (decide := true) (disch := omega) only [go_sem, ↓reduceIte, ↓put_at]
      rw [List.map_append]; rfl
    · have h32 : 32 - acc.length = 0 := by omega
      rw [h32] at hrun
      have hLa : acc = L := hrun
      have c1 := cE hLa
      clear hL cE
      subst hLa
      generalize namesP acc = Q at *
      (repeat (first | refine sp_ ?_ | exact ex0))
      refine call_s Tryz.call44 (in_left x.1 x.2) [(9, 0)] ?_
      (repeat (first | refine sp_ ?_ | exact ex0))
      refine call_s Tryz.call105 c1 [] ?_
      (repeat (first | refine sp_ ?_ | exact ex0))
      refine call_s Tryz.call104 c2 [] ?_
      (repeat (first | refine sp_ ?_ | exact ex0))
      (refine ret_s [] ?_; simp (decide := true) (disch := omega) only [go_sem, ↓reduceIte, ↓put_at])
end Go.Proofs.YthnbeodpckmjnaaGreatDoor

