/- Package notes: words as pieces; a source in a goodbye; goodbyes and words read. -/
import Derived.Test.YtbnnfmleoebelaaGreatQCmp07z
import Derived.Test.YtbnnfmleoebelaaGreatQCmp07z
namespace Go.Proofs.YtbnnfmleoebelaaGreat
open Go.RowKit
set_option linter.unusedVariables false
set_option linter.unusedSimpArgs false

abbrev a9L (a : A9) : List V := [vi a.sub, vu a.src, vs a.name, vs a.data]
structure A9.Ok (a : A9) : Prop where
  src : 0 ≤ a.src ∧ a.src < 4294967296
  name : a.name.length ≤ maxLen
  data : a.data.length ≤ maxLen
theorem mayA_iff (a : A9) : mayA a = true ↔ 0 ≤ a.sub ∧ a.sub ≤ 31 ∧ a.name.length = 4 ∧ a.data.length % 4 = 0 ∧ a.data.length ≤ 1024 := by unfold mayA; rw [decide_eq_true_eq]
theorem appP_no (a : A9) (h : ¬ (0 ≤ a.sub ∧ a.sub ≤ 31 ∧ a.name.length = 4 ∧ a.data.length % 4 = 0 ∧ a.data.length ≤ 1024)) : appP a = (0, 0, []) := by unfold appP; rw [if_neg fun h2 => h ((mayA_iff a).1 h2)]
theorem appP_yes (a : A9) (h : 0 ≤ a.sub ∧ a.sub ≤ 31 ∧ a.name.length = 4 ∧ a.data.length % 4 = 0 ∧ a.data.length ≤ 1024) : appP a = (a.sub, 204, puts' 4 [a.src] ++ a.name ++ a.data) := by unfold appP; rw [if_pos ((mayA_iff a).2 h)]
set_option maxRecDepth 100000 in
set_option maxHeartbeats 4000000 in
theorem notes_app (a : A9) (ho : a.Ok) : Spec Tryz.prog 26 [.ca (.val (.agg (a9L a)))] [] (.ca (.val (pcV (appP a)))) [] := by
  obtain ⟨s, c, n, d⟩ := a
  obtain ⟨o1, o2, o3⟩ := ho
  have hno := appP_no ⟨s, c, n, d⟩
  have hyes := appP_yes ⟨s, c, n, d⟩
  generalize appP ⟨s, c, n, d⟩ = R at *
  unfold maxLen at o2 o3
  dsimp only at *
  by_cases h1 : s < 0
  · obtain rfl := hno (by omega)
    refine spec_of Tryz.func26 rfl Tryz.ntmps26 Tryz.results26 ⟨by decide, by simp⟩ fun C hC => ?_
    (repeat (first | refine sp_ ?_ | exact ex0))
    (refine ret_s [] ?_; simp (decide := true) (disch := omega) only [go_sem, ↓reduceIte, ↓put_at])
  by_cases h2 : 31 < s
  · obtain rfl := hno (by omega)
    refine spec_of Tryz.func26 rfl Tryz.ntmps26 Tryz.results26 ⟨by decide, by simp⟩ fun C hC => ?_
    (repeat (first | refine sp_ ?_ | exact ex0))
    (refine ret_s [] ?_; simp (decide := true) (disch := omega) only [go_sem, ↓reduceIte, ↓put_at])
  by_cases h3 : n.length = 4
  · by_cases h4 : d.length % 4 = 0
    · have h4' : (d.length : Int) % 4 = 0 := by omega
      by_cases h5 : 1024 < d.length
      · obtain rfl := hno (by omega)
        refine spec_of Tryz.func26 rfl Tryz.ntmps26 Tryz.results26 ⟨by decide, by simp⟩ fun C hC => ?_
        (repeat (first | refine sp_ ?_ | exact ex0))
        (refine ret_s [] ?_; simp (decide := true) (disch := omega) only [go_sem, ↓reduceIte, ↓put_at])
      · obtain rfl := hyes (by omega)
        have hq := puts'_length 4 [c]
        simp only [List.length_cons, List.length_nil] at hq
        have c1 := out_u32 [] [c] (by simp) (by simpa using o1)
        rw [List.nil_append] at c1
        have c2 := out_raw (puts' 4 [c]) [n, d] (by simp only [List.length_append, List.flatten_cons, List.flatten_nil, List.append_nil]; omega) (by simp)
        have e : puts' 4 [c] ++ [n, d].flatten = puts' 4 [c] ++ n ++ d := by simp
        rw [e] at c2
        have c3 := out_bytes (puts' 4 [c] ++ n ++ d) (by simp only [List.length_append]; omega)
        refine spec_of Tryz.func26 rfl Tryz.ntmps26 Tryz.results26 ⟨by decide, by simp⟩ fun C hC => ?_
        (repeat (first | refine sp_ ?_ | exact ex0))
        refine call_s Tryz.call39 c1 [(3, 0)] ?_
        (repeat (first | refine sp_ ?_ | exact ex0))
        refine call_s Tryz.call36 c2 [(3, 0)] ?_
        (repeat (first | refine sp_ ?_ | exact ex0))
        refine call_s Tryz.call37 c3 [(3, 0)] ?_
        (repeat (first | refine sp_ ?_ | exact ex0))
        (refine ret_s [] ?_; simp (decide := true) (disch := omega) only [go_sem, ↓reduceIte, ↓put_at])
    · obtain rfl := hno (by omega)
      have h4' : (d.length : Int) % 4 ≠ 0 := by omega
      refine spec_of Tryz.func26 rfl Tryz.ntmps26 Tryz.results26 ⟨by decide, by simp⟩ fun C hC => ?_
      (repeat (first | refine sp_ ?_ | exact ex0))
      (refine ret_s [] ?_; simp (decide := true) (disch := omega) only [go_sem, ↓reduceIte, ↓put_at])
  · obtain rfl := hno (by omega)
    refine spec_of Tryz.func26 rfl Tryz.ntmps26 Tryz.results26 ⟨by decide, by simp⟩ fun C hC => ?_
    (repeat (first | refine sp_ ?_ | exact ex0))
    (refine ret_s [] ?_; simp (decide := true) (disch := omega) only [go_sem, ↓reduceIte, ↓put_at])
/-- What the judging of what was read says. -/
def justE (p : Pc) (kind : Int) (again : Pc) : Int := if p.2.1 ≠ kind then 5 else if again ≠ p then 1 else 0
set_option maxRecDepth 100000 in
set_option maxHeartbeats 4000000 in
theorem just_bye (p : Pc) (k : Int) (b : Y9) (q : Pc) : Spec Tryz.prog 78 [.ca (.val (pcV p)), .ca (.val (vi k)), .ca (.val (.agg (y9L b))), .ca (.val (pcV q))] [] (.ca (.val (.tup [.agg (y9L (if justE p k q = 0 then b else ⟨[], []⟩)), vi (justE p k q)]))) [] := by
  obtain ⟨n, c, s⟩ := p
  obtain ⟨n', c', s'⟩ := q
  obtain ⟨r, ss⟩ := b
  by_cases h1 : c = k
  · have hcm := pp_ne n' n c' c s' s
    by_cases h2 : (n', c', s') = (n, c, s)
    · have hE : justE (n, c, s) k (n', c', s') = 0 := by unfold justE; rw [if_neg (by simpa using h1), if_neg (by simpa using h2)]
      rw [hE, if_pos rfl]
      obtain ⟨rfl, rfl, rfl⟩ := h2
      rw [decide_eq_true ⟨rfl, rfl, rfl⟩] at hcm
      refine spec_of Tryz.func78 rfl Tryz.ntmps78 Tryz.results78 ⟨by decide, by simp⟩ fun C hC => ?_
      (repeat (first | refine sp_ ?_ | exact ex0))
      refine cmpA_s _ _ _ (.inr rfl) (by simp (decide := true) (disch := omega) only [go_sem, ↓reduceIte, ↓put_at]) (by simp (decide := true) (disch := omega) only [go_sem, ↓reduceIte, ↓put_at]) (by kernel_rfl) hcm ?_
      (repeat (first | refine sp_ ?_ | exact ex0))
      (refine ret_s [] ?_; simp (decide := true) (disch := omega) only [go_sem, ↓reduceIte, ↓put_at])
    · have hE : justE (n, c, s) k (n', c', s') = 1 := by unfold justE; rw [if_neg (by simpa using h1), if_pos h2]
      rw [hE, if_neg (by decide)]
      rw [decide_eq_false (fun h => h2 (by rw [h.1, h.2.1, h.2.2]))] at hcm
      refine spec_of Tryz.func78 rfl Tryz.ntmps78 Tryz.results78 ⟨by decide, by simp⟩ fun C hC => ?_
      (repeat (first | refine sp_ ?_ | exact ex0))
      refine cmpA_s _ _ _ (.inr rfl) (by simp (decide := true) (disch := omega) only [go_sem, ↓reduceIte, ↓put_at]) (by simp (decide := true) (disch := omega) only [go_sem, ↓reduceIte, ↓put_at]) (by kernel_rfl) hcm ?_
      (repeat (first | refine sp_ ?_ | exact ex0))
      (refine ret_s [] ?_; simp (decide := true) (disch := omega) only [go_sem, ↓reduceIte, ↓put_at])
  · have hE : justE (n, c, s) k (n', c', s') = 5 := by unfold justE; rw [if_pos h1]
    rw [hE, if_neg (by decide)]
    refine spec_of Tryz.func78 rfl Tryz.ntmps78 Tryz.results78 ⟨by decide, by simp⟩ fun C hC => ?_
    (repeat (first | refine sp_ ?_ | exact ex0))
    (refine ret_s [] ?_; simp (decide := true) (disch := omega) only [go_sem, ↓reduceIte, ↓put_at])
set_option maxRecDepth 100000 in
set_option maxHeartbeats 4000000 in
theorem just_app (p : Pc) (k : Int) (b : A9) (q : Pc) : Spec Tryz.prog 72 [.ca (.val (pcV p)), .ca (.val (vi k)), .ca (.val (.agg (a9L b))), .ca (.val (pcV q))] [] (.ca (.val (.tup [.agg (a9L (if justE p k q = 0 then b else ⟨0, 0, [], []⟩)), vi (justE p k q)]))) [] := by
  obtain ⟨n, c, s⟩ := p
  obtain ⟨n', c', s'⟩ := q
  obtain ⟨b1, b2, b3, b4⟩ := b
  by_cases h1 : c = k
  · have hcm := pp_ne n' n c' c s' s
    by_cases h2 : (n', c', s') = (n, c, s)
    · have hE : justE (n, c, s) k (n', c', s') = 0 := by unfold justE; rw [if_neg (by simpa using h1), if_neg (by simpa using h2)]
      rw [hE, if_pos rfl]
      obtain ⟨rfl, rfl, rfl⟩ := h2
      rw [decide_eq_true ⟨rfl, rfl, rfl⟩] at hcm
      refine spec_of Tryz.func72 rfl Tryz.ntmps72 Tryz.results72 ⟨by decide, by simp⟩ fun C hC => ?_
      (repeat (first | refine sp_ ?_ | exact ex0))
      refine cmpA_s _ _ _ (.inr rfl) (by simp (decide := true) (disch := omega) only [go_sem, ↓reduceIte, ↓put_at]) (by simp (decide := true) (disch := omega) only [go_sem, ↓reduceIte, ↓put_at]) (by kernel_rfl) hcm ?_
      (repeat (first | refine sp_ ?_ | exact ex0))
      (refine ret_s [] ?_; simp (decide := true) (disch := omega) only [go_sem, ↓reduceIte, ↓put_at])
    · have hE : justE (n, c, s) k (n', c', s') = 1 := by unfold justE; rw [if_neg (by simpa using h1), if_pos h2]
      rw [hE, if_neg (by decide)]
      rw [decide_eq_false (fun h => h2 (by rw [h.1, h.2.1, h.2.2]))] at hcm
      refine spec_of Tryz.func72 rfl Tryz.ntmps72 Tryz.results72 ⟨by decide, by simp⟩ fun C hC => ?_
      (repeat (first | refine sp_ ?_ | exact ex0))
      refine cmpA_s _ _ _ (.inr rfl) (by simp (decide := true) (disch := omega) only [go_sem, ↓reduceIte, ↓put_at]) (by simp (decide := true) (disch := omega) only [go_sem, ↓reduceIte, ↓put_at]) (by kernel_rfl) hcm ?_
      (repeat (first | refine sp_ ?_ | exact ex0))
      (refine ret_s [] ?_; simp (decide := true) (disch := omega) only [go_sem, ↓reduceIte, ↓put_at])
  · have hE : justE (n, c, s) k (n', c', s') = 5 := by unfold justE; rw [if_pos h1]
    rw [hE, if_neg (by decide)]
    refine spec_of Tryz.func72 rfl Tryz.ntmps72 Tryz.results72 ⟨by decide, by simp⟩ fun C hC => ?_
    (repeat (first | refine sp_ ?_ | exact ex0))
    (refine ret_s [] ?_; simp (decide := true) (disch := omega) only [go_sem, ↓reduceIte, ↓put_at])
set_option maxRecDepth 100000 in
set_option maxHeartbeats 4000000 in
theorem just_names (p : Pc) (k : Int) (b : List N9) (q : Pc) : Spec Tryz.prog 77 [.ca (.val (pcV p)), .ca (.val (vi k)), .ca (.val (.lst 2 (b.map n9El))), .ca (.val (pcV q))] [] (.ca (.val (.tup [.lst 2 ((if justE p k q = 0 then b else []).map n9El), vi (justE p k q)]))) [] := by
  obtain ⟨n, c, s⟩ := p
  obtain ⟨n', c', s'⟩ := q
  by_cases h1 : c = k
  · have hcm := pp_ne n' n c' c s' s
    by_cases h2 : (n', c', s') = (n, c, s)
    · have hE : justE (n, c, s) k (n', c', s') = 0 := by unfold justE; rw [if_neg (by simpa using h1), if_neg (by simpa using h2)]
      rw [hE, if_pos rfl]
      obtain ⟨rfl, rfl, rfl⟩ := h2
      rw [decide_eq_true ⟨rfl, rfl, rfl⟩] at hcm
      refine spec_of Tryz.func77 rfl Tryz.ntmps77 Tryz.results77 ⟨by decide, by simp⟩ fun C hC => ?_
      (repeat (first | refine sp_ ?_ | exact ex0))
      refine cmpA_s _ _ _ (.inr rfl) (by simp (decide := true) (disch := omega) only [go_sem, ↓reduceIte, ↓put_at]) (by simp (decide := true) (disch := omega) only [go_sem, ↓reduceIte, ↓put_at]) (by kernel_rfl) hcm ?_
      (repeat (first | refine sp_ ?_ | exact ex0))
      (refine ret_s [] ?_; simp (decide := true) (disch := omega) only [go_sem, ↓reduceIte, ↓put_at])
    · have hE : justE (n, c, s) k (n', c', s') = 1 := by unfold justE; rw [if_neg (by simpa using h1), if_pos h2]
      rw [hE, if_neg (by decide)]
      rw [decide_eq_false (fun h => h2 (by rw [h.1, h.2.1, h.2.2]))] at hcm
      refine spec_of Tryz.func77 rfl Tryz.ntmps77 Tryz.results77 ⟨by decide, by simp⟩ fun C hC => ?_
      (repeat (first | refine sp_ ?_ | exact ex0))
      refine cmpA_s _ _ _ (.inr rfl) (by simp (decide := true) (disch := omega) only [go_sem, ↓reduceIte, ↓put_at]) (by simp (decide := true) (disch := omega) only [go_sem, ↓reduceIte, ↓put_at]) (by kernel_rfl) hcm ?_
      (repeat (first | refine sp_ ?_ | exact ex0))
      (refine ret_s [] ?_; simp (decide := true) (disch := omega) only [go_sem, ↓reduceIte, ↓put_at])
  · have hE : justE (n, c, s) k (n', c', s') = 5 := by unfold justE; rw [if_pos h1]
    rw [hE, if_neg (by decide)]
    refine spec_of Tryz.func77 rfl Tryz.ntmps77 Tryz.results77 ⟨by decide, by simp⟩ fun C hC => ?_
    (repeat (first | refine sp_ ?_ | exact ex0))
    (refine ret_s [] ?_; simp (decide := true) (disch := omega) only [go_sem, ↓reduceIte, ↓put_at])
end Go.Proofs.YtbnnfmleoebelaaGreat

