/- What is said goes out as one packet, and is read again: the plain law. -/
import Derived.Test.YtbnnfmleoebelaaGreatNum2z
import Derived.Test.YtbnnfmleoebelaaGreatCmpBz
namespace Go.Proofs.YtbnnfmleoebelaaGreat
open Go.RowKit
set_option linter.unusedVariables false
set_option linter.unusedSimpArgs false

theorem prN_mem (p b : Int) (k : Nat) (x : Int) : x ∈ prN p b k ↔ x = p ∨ ∃ i : Nat, i < k ∧ b.toNat.testBit i = true ∧ x = (p + 1 + (i : Int)) % 65536 := by
  unfold prN
  rw [List.mem_cons, List.mem_filterMap]
  constructor
  · rintro (h | ⟨i, hi, h⟩)
    · exact .inl h
    · rw [List.mem_range] at hi
      split at h
      · rename_i ht
        injection h with h
        exact .inr ⟨i, hi, ht, h.symm⟩
      · cases h
  · rintro (h | ⟨i, hi, ht, h⟩)
    · exact .inl h
    · exact .inr ⟨i, List.mem_range.2 hi, by rw [if_pos ht, h]⟩
theorem tookN_bit {p b n : Int} (hb : 0 ≤ b ∧ b < 65536) (i : Nat) : (tookN p b n).toNat.testBit i = true ↔ b.toNat.testBit i = true ∨ (takes p n = true ∧ df16 p n - 1 = (i : Int)) := by
  unfold tookN
  by_cases h : takes p n = true
  · have h2 := h
    unfold takes at h2
    rw [decide_eq_true_eq] at h2
    rw [if_pos h]
    unfold orB
    rw [Int.toNat_natCast, Nat.testBit_or, Bool.or_eq_true, Nat.testBit_two_pow, decide_eq_true_eq]
    constructor
    · rintro (h3 | h3)
      · exact .inl h3
      · exact .inr ⟨h, by omega⟩
    · rintro (h3 | ⟨_, h3⟩)
      · exact .inl h3
      · exact .inr (by omega)
  · rw [if_neg h]
    exact ⟨.inl, fun h3 => h3.elim id fun h4 => absurd h4.1 h⟩
theorem blpF_bit (p : Int) (i : Nat) : ∀ (l : List Int) (b : Int), 0 ≤ b ∧ b < 65536 → ((l.foldl (tookN p) b).toNat.testBit i = true ↔ b.toNat.testBit i = true ∨ ∃ y ∈ l, takes p y = true ∧ df16 p y - 1 = (i : Int))
  | [], b, _ => by simp
  | n :: l, b, hb => by
    rw [List.foldl_cons, blpF_bit p i l _ (tookN_in hb), tookN_bit hb, or_assoc]
    constructor
    · rintro (h | h | ⟨y, hy, h⟩)
      · exact .inl h
      · exact .inr ⟨n, by simp, h⟩
      · exact .inr ⟨y, by simp [hy], h⟩
    · rintro (h | ⟨y, hy, h⟩)
      · exact .inl h
      · rcases List.mem_cons.1 hy with rfl | hy
        · exact .inr (.inl h)
        · exact .inr (.inr ⟨y, hy, h⟩)
theorem pair_mem {n : Int} {m : List Int} (hn : 0 ≤ n ∧ n < 65536) (hm : ∀ y ∈ m, 0 ≤ y ∧ y < 65536) (x : Int) : x ∈ prN n (blpF n m) 16 ↔ x = n ∨ (x ∈ m ∧ takes n x = true) := by
  rw [prN_mem]
  have hbit := fun i => blpF_bit n i m 0 (by decide)
  constructor
  · rintro (h | ⟨i, hi, ht, h⟩)
    · exact .inl h
    · right
      rcases (hbit i).1 ht with h0 | ⟨y, hy, h1, h2⟩
      · simp at h0
      · have hyr := hm y hy
        have : x = y := by
          unfold df16 at h2
          omega
        rw [this]
        exact ⟨hy, h1⟩
  · rintro (h | ⟨hx, ht⟩)
    · exact .inl h
    · right
      have hxr := hm x hx
      have ht2 := ht
      unfold takes at ht2
      rw [decide_eq_true_eq] at ht2
      refine ⟨(df16 n x - 1).toNat, by omega, (hbit _).2 (.inr ⟨x, hx, ht, by omega⟩), ?_⟩
      unfold df16 at ht2 ⊢
      omega
theorem pairs_mem : ∀ (k : Nat) (l : List Int), l.length ≤ k → (∀ y ∈ l, 0 ≤ y ∧ y < 65536) → ∀ x, x ∈ allN (pairsW l) ↔ x ∈ l
  | _, [], _, _, x => by simp [pairsW, allN]
  | 0, n :: l, h, _, _ => by simp at h
  | k + 1, n :: l, h, hu, x => by
    have hl := leftF_len n l
    have ih := pairs_mem k (leftF n l) (by simp at h; omega) (fun y hy => hu y (List.mem_cons_of_mem _ (List.mem_filter.1 hy).1)) x
    rw [pairsW]
    unfold allN at ih ⊢
    rw [List.flatMap_cons, List.mem_append, ih, pair_mem (hu n (by simp)) (fun y hy => hu y (by simp [hy])), List.mem_cons]
    unfold leftF
    rw [List.mem_filter]
    cases takes n x <;> simp
theorem pairsW_in : ∀ (k : Nat) (l : List Int), l.length ≤ k → (∀ y ∈ l, 0 ≤ y ∧ y < 65536) → ∀ p ∈ pairsW l, (0 ≤ p.pid ∧ p.pid < 65536) ∧ 0 ≤ p.blp ∧ p.blp < 65536
  | _, [], _, _, p, hp => by simp [pairsW] at hp
  | 0, n :: l, h, _, _, _ => by simp at h
  | k + 1, n :: l, h, hu, p, hp => by
    have hl := leftF_len n l
    rw [pairsW] at hp
    rcases List.mem_cons.1 hp with rfl | hp
    · exact ⟨hu n (by simp), blpF_in n l⟩
    · exact pairsW_in k (leftF n l) (by simp at h; omega) (fun y hy => hu y (List.mem_cons_of_mem _ (List.mem_filter.1 hy).1)) p hp
theorem pairsW_ne {l : List Int} (h : l ≠ []) : pairsW l ≠ [] := by
  cases l with
  | nil => exact absurd rfl h
  | cons n l => rw [pairsW]; exact List.cons_ne_nil _ _
/-- The numbers that are asked for are just those. -/
theorem ask_len {l : List Int} (hu : ∀ y ∈ l, 0 ≤ y ∧ y < 65536) : (∀ x, x ∈ distL (allN (pairsW (distL l))) ↔ x ∈ l) ∧ (distL (distL (allN (pairsW (distL l))))).length = (distL l).length := by
  have h1 : ∀ x, x ∈ distL (allN (pairsW (distL l))) ↔ x ∈ l := fun x => by
    rw [distL_mem, pairs_mem _ _ (Nat.le_refl _) (fun y hy => hu y ((distL_mem l y).1 hy)), distL_mem]
  refine ⟨h1, ?_⟩
  refine List.Perm.length_eq ((List.perm_ext_iff_of_nodup (distL_nodup _) (distL_nodup _)).2 fun x => ?_)
  rw [distL_mem, h1, distL_mem]
/-- What asks for packets is read from its piece. -/
theorem nack_of_back (n : N10) (hn : n.Ok) (h1 : n.ps ≠ []) (h2 : n.ps.length ≤ 300) : nackE (nackP n) = 0 ∧ nackR (nackP n) = n := by
  obtain ⟨fr, ab, ps⟩ := n
  have hl : 0 < ps.length := List.length_pos_iff.2 h1
  dsimp only at h2
  have hP : nackP ⟨fr, ab, ps⟩ = (1, 205, puts' 4 [fr, ab] ++ ps.flatMap wrPr) := by unfold nackP; rw [if_neg (by dsimp only; omega)]
  have hlen : ∀ qs : List P10, (qs.flatMap wrPr).length = 4 * qs.length := by
    intro qs
    induction qs with
    | nil => rfl
    | cons q qs ih => rw [List.flatMap_cons, List.length_append, wrPr_len, ih, List.length_cons]; omega
  have hE : nackE (nackP ⟨fr, ab, ps⟩) = 0 := by
    rw [hP]
    unfold nackE
    dsimp only
    have h8 : (puts' 4 [fr, ab] ++ ps.flatMap wrPr).length = 8 + 4 * ps.length := by rw [List.length_append, hlen, puts'_length]; simp
    rw [if_neg (by omega), if_neg (by omega), if_neg (by omega)]
  refine ⟨hE, ?_⟩
  have hdr : ∀ (i : Nat) (qs : List P10), (qs.flatMap wrPr).drop (4 * i) = (qs.drop i).flatMap wrPr := by
    intro i
    induction i with
    | zero => intro qs; rfl
    | succ i ih =>
      intro qs
      cases qs with
      | nil => simp
      | cons q qs =>
        rw [List.flatMap_cons, List.drop_succ_cons, ← ih qs, show 4 * (i + 1) = 4 + 4 * i by omega, ← List.drop_drop]
        rw [List.drop_append_of_le_length (by rw [wrPr_len]; omega), List.drop_of_length_le (l := wrPr q) (by rw [wrPr_len]; omega), List.nil_append]
  have g4 : ∀ a : Int, 0 ≤ a ∧ a < 4294967296 → (getN (putZ a 4) : Int) = a := fun a ha => by
    rw [getN_putZ]
    exact Int.emod_eq_of_lt ha.1 (by have := ha.2; simpa using this)
  have g2 : ∀ a : Int, 0 ≤ a ∧ a < 65536 → (getN (putZ a 2) : Int) = a := fun a ha => by
    rw [getN_putZ]
    exact Int.emod_eq_of_lt ha.1 (by have := ha.2; simpa using this)
  unfold nackR
  rw [if_pos hE, hP]
  dsimp only
  have h8 : (puts' 4 [fr, ab] ++ ps.flatMap wrPr).length = 8 + 4 * ps.length := by rw [List.length_append, hlen, puts'_length]; simp
  have l4 : ∀ a : Int, (putZ a 4).length = 4 := fun a => putZ_length a 4
  have l2 : ∀ a : Int, (putZ a 2).length = 2 := fun a => putZ_length a 2
  have e1 : (puts' 4 [fr, ab] ++ ps.flatMap wrPr).take 4 = putZ fr 4 := by
    rw [puts2, List.append_assoc, List.take_append_of_le_length (by rw [l4]; omega), List.take_of_length_le (by rw [l4]; omega)]
  have e2 : ((puts' 4 [fr, ab] ++ ps.flatMap wrPr).drop 4).take 4 = putZ ab 4 := by
    rw [puts2, List.append_assoc, List.drop_append_of_le_length (by rw [l4]; omega), List.drop_of_length_le (by rw [l4]; omega), List.nil_append, List.take_append_of_le_length (by rw [l4]; omega), List.take_of_length_le (by rw [l4]; omega)]
  have e3 : prs (((puts' 4 [fr, ab] ++ ps.flatMap wrPr).length - 8) / 4) 8 (puts' 4 [fr, ab] ++ ps.flatMap wrPr) = ps := by
    rw [h8, show (8 + 4 * ps.length - 8) / 4 = ps.length by omega]
    apply List.ext_getElem
    · rw [prs_len]
    · intro i k1 k2
      have hd : (puts' 4 [fr, ab] ++ ps.flatMap wrPr).drop (8 + 4 * i) = putZ ps[i].pid 2 ++ (putZ ps[i].blp 2 ++ (ps.drop (i + 1)).flatMap wrPr) := by
        have hp8 : (puts' 4 [fr, ab]).length = 8 := by rw [puts'_length]; rfl
        rw [← List.drop_drop, List.drop_append_of_le_length (by omega), List.drop_of_length_le (l := puts' 4 [fr, ab]) (by omega), List.nil_append, hdr, List.drop_eq_getElem_cons k2, List.flatMap_cons]
        unfold wrPr
        rw [puts2, List.append_assoc]
      have hd2 : (puts' 4 [fr, ab] ++ ps.flatMap wrPr).drop (8 + 4 * i + 2) = putZ ps[i].blp 2 ++ (ps.drop (i + 1)).flatMap wrPr := by
        rw [← List.drop_drop, hd, List.drop_append_of_le_length (by rw [l2]; omega), List.drop_of_length_le (by rw [l2]; omega), List.nil_append]
      have hx := hn.ps _ (List.getElem_mem k2)
      have hp : (prs ps.length 8 (puts' 4 [fr, ab] ++ ps.flatMap wrPr))[i] = ⟨getN (((puts' 4 [fr, ab] ++ ps.flatMap wrPr).drop (8 + 4 * i)).take 2), getN (((puts' 4 [fr, ab] ++ ps.flatMap wrPr).drop (8 + 4 * i + 2)).take 2)⟩ := by simp [prs]
      rw [hp, hd, hd2, List.take_append_of_le_length (by rw [l2]; omega), List.take_of_length_le (by rw [l2]; omega), List.take_append_of_le_length (by rw [l2]; omega), List.take_of_length_le (by rw [l2]; omega), g2 _ hx.1, g2 _ hx.2]
  rw [e1, e2, e3, g4 _ hn.fr, g4 _ hn.ab]
/-- The kind of a piece tells what it may say. -/
theorem what_kind {p : Pc} (h : whatP p ≠ 0) : (whatP p = 2 ↔ p.2.1 = 202) ∧ (whatP p = 3 ↔ p.2.1 = 203) ∧ (whatP p = 5 ↔ p.2.1 = 205) := by
  obtain ⟨e, _, _⟩ := say_what h
  rw [e] at h ⊢
  rcases sayP_cases p with ⟨a, b⟩ | ⟨a, b, c⟩ | ⟨a, b, c, d⟩ | ⟨a, b, c, d, f⟩ | ⟨a, _, _, _, _, f⟩ | ⟨a, _, _, _, _, _, f⟩ | ⟨a, _, _, _, _, _, _, f⟩ | ⟨a, _⟩
  · have := ofE_kind b; omega
  · have := (just_kind c).1; omega
  · have := (just_kind d).1; omega
  · have := (just_kind f).1; omega
  · have := nackE_kind f; omega
  · have := linesE_kind f; omega
  · have := adsE_kind f; omega
  · omega
theorem ofW_kind {w k : Int} {ps : List Pc} (h : ∀ p ∈ ps, whatP p = w ↔ p.2.1 = k) : ofW w ps = ps.filter fun p => decide (p.2.1 = k) := by
  unfold ofW isW
  refine List.filter_congr fun p hp => ?_
  have := h p hp
  by_cases h1 : whatP p = w
  · rw [decide_eq_true h1, decide_eq_true (this.1 h1)]
  · rw [decide_eq_false h1, decide_eq_false (fun h2 => h1 (this.2 h2))]
theorem filter_none {k : Int} {ps : List Pc} (h : ∀ p ∈ ps, p.2.1 ≠ k) : (ps.filter fun p => decide (p.2.1 = k)) = [] := by
  rw [List.filter_eq_nil_iff]
  intro p hp
  simpa using h p hp
theorem filter_same {k : Int} {ps : List Pc} (h : ∀ p ∈ ps, p.2.1 = k) : (ps.filter fun p => decide (p.2.1 = k)) = ps := by
  rw [List.filter_eq_self]
  intro p hp
  simpa using h p hp
theorem each_kind {α : Type} {f : α → Pc} {k : Int} (h : ∀ x, f x ≠ noPc → (f x).2.1 = k) (l : List α) : ∀ p ∈ eachP f l, p.2.1 = k := fun p hp => by
  unfold eachP at hp
  rw [List.mem_filter] at hp
  obtain ⟨x, _, rfl⟩ := List.mem_map.1 hp.1
  exact h x (by simpa using hp.2)
theorem namesP_kind {n : List N9} (h : namesP n ≠ noPc) : (namesP n).2.1 = 202 := by
  unfold namesP at h ⊢
  by_cases c : n.length ≤ 31 ∧ n.all mayN = true
  · rw [if_pos c]
  · rw [if_neg c] at h
    exact absurd rfl h
theorem nackP_kind {n : N10} (h : nackP n ≠ noPc) : (nackP n).2.1 = 205 := by
  unfold nackP at h ⊢
  by_cases c : n.ps.length = 0 ∨ 300 < n.ps.length
  · rw [if_pos c] at h
    exact absurd rfl h
  · rw [if_neg c]
theorem byeP_kind {n : Y9} (h : byeP n ≠ noPc) : (byeP n).2.1 = 203 := by
  unfold byeP at h ⊢
  by_cases c : mayY n = true
  · rw [if_pos c]
  · rw [if_neg c] at h
    exact absurd rfl h
theorem bldP_kind {α : Type} {c : Int} {may : α → Bool} {pa : α → Int} {wr : α → List UInt8} {s : Int} {l : List α} (h : bldP c may pa wr s l ≠ noPc) : (bldP c may pa wr s l).2.1 = 211 := by
  unfold bldP at h ⊢
  split
  · rename_i c
    first | rfl | (rw [if_pos c] at h; exact absurd rfl h)
  · rename_i c
    first | rfl | (rw [if_neg c] at h; exact absurd rfl h)
theorem linesP_kind {n : R11} (h : linesP n ≠ noPc) : (linesP n).2.1 = 211 := by
  unfold linesP at h ⊢
  by_cases c : n.all.length = 0
  · rw [if_pos c] at h
    exact absurd rfl h
  · rw [if_neg c] at h ⊢
    exact bldP_kind h
theorem adsP_kind {n : S11} (h : adsP n ≠ noPc) : (adsP n).2.1 = 211 := bldP_kind h
theorem pieceR_kind {n : R8} (h : pieceR n ≠ noPc) : (pieceR n).2.1 = 200 ∨ (pieceR n).2.1 = 201 := by
  unfold pieceR at h ⊢
  by_cases c : mayR n = true
  · rw [if_pos c]
    dsimp only
    split
    · exact .inl rfl
    · exact .inr rfl
  · rw [if_neg c] at h
    exact absurd rfl h
/-- What was said is read again. -/
theorem said_law (R : R8) (Ns : List N9) (Ks : List N10) (L : R11) (A : S11) (Ys : List Y9) (hN : ∀ x ∈ Ns, x.Ok) (hK : ∀ k ∈ Ks, k.Ok ∧ k.ps ≠ [] ∧ k.ps.length ≤ 300) (hY : ∀ y ∈ Ys, byeP y ≠ noPc)
    (h : cmpE (gotB ⟨[R], Ns, Ys, [], Ks, [L], [A]⟩) = 0) : (bagOf (gotB ⟨[R], Ns, Ys, [], Ks, [L], [A]⟩)).names = Ns ∧ (bagOf (gotB ⟨[R], Ns, Ys, [], Ks, [L], [A]⟩)).nacks = Ks ∧ (bagOf (gotB ⟨[R], Ns, Ys, [], Ks, [L], [A]⟩)).byes.length = Ys.length := by
  obtain ⟨hf, hw, _⟩ := cmpE_zero.1 h
  obtain ⟨_, _, _, p2, hp2, hw2⟩ := hf
  obtain ⟨P, hP⟩ : ∃ P, P = gotB ⟨[R], Ns, Ys, [], Ks, [L], [A]⟩ := ⟨_, rfl⟩
  rw [← hP] at hw hp2 ⊢
  have hPe : P = eachP pieceR [R] ++ (if Ns ≠ [] ∧ namesP Ns ≠ noPc then [namesP Ns] else []) ++ eachP nackP Ks ++ eachP linesP [L] ++ eachP adsP [A] ++ eachP byeP Ys := by
    rw [hP]
    unfold gotB
    dsimp only
    rw [show eachP appP [] = [] from rfl, List.append_nil]
  have kR : ∀ p ∈ eachP pieceR [R], p.2.1 = 200 ∨ p.2.1 = 201 := fun p hp => by
    unfold eachP at hp
    rw [List.mem_filter] at hp
    obtain ⟨x, _, rfl⟩ := List.mem_map.1 hp.1
    exact pieceR_kind (by simpa using hp.2)
  have kN : ∀ p ∈ (if Ns ≠ [] ∧ namesP Ns ≠ noPc then [namesP Ns] else []), p.2.1 = 202 := fun p hp => by
    split at hp
    · rename_i hc
      rw [List.mem_singleton] at hp
      rw [hp]; exact namesP_kind hc.2
    · cases hp
  have kK := each_kind (f := nackP) (fun x h => nackP_kind h) Ks
  have kL := each_kind (f := linesP) (fun x h => linesP_kind h) [L]
  have kA := each_kind (f := adsP) (fun x h => adsP_kind h) [A]
  have kY := each_kind (f := byeP) (fun x h => byeP_kind h) Ys
  have f2 : ofW 2 P = if Ns ≠ [] ∧ namesP Ns ≠ noPc then [namesP Ns] else [] := by
    rw [ofW_kind (k := 202) (fun p hp => (what_kind (hw p hp)).1), hPe]
    simp only [List.filter_append]
    rw [filter_none (fun p hp => by have := kR p hp; omega), filter_same kN, filter_none (fun p hp => by have := kK p hp; omega), filter_none (fun p hp => by have := kL p hp; omega), filter_none (fun p hp => by have := kA p hp; omega), filter_none (fun p hp => by have := kY p hp; omega)]
    simp
  have f3 : ofW 3 P = eachP byeP Ys := by
    rw [ofW_kind (k := 203) (fun p hp => (what_kind (hw p hp)).2.1), hPe]
    simp only [List.filter_append]
    rw [filter_none (fun p hp => by have := kR p hp; omega), filter_none (fun p hp => by have := kN p hp; omega), filter_none (fun p hp => by have := kK p hp; omega), filter_none (fun p hp => by have := kL p hp; omega), filter_none (fun p hp => by have := kA p hp; omega), filter_same kY]
    simp
  have f5 : ofW 5 P = eachP nackP Ks := by
    rw [ofW_kind (k := 205) (fun p hp => (what_kind (hw p hp)).2.2), hPe]
    simp only [List.filter_append]
    rw [filter_none (fun p hp => by have := kR p hp; omega), filter_none (fun p hp => by have := kN p hp; omega), filter_same kK, filter_none (fun p hp => by have := kL p hp; omega), filter_none (fun p hp => by have := kA p hp; omega), filter_none (fun p hp => by have := kY p hp; omega)]
    simp
  have hns : Ns ≠ [] ∧ namesP Ns ≠ noPc := by
    have : p2 ∈ ofW 2 P := by unfold ofW isW; rw [List.mem_filter]; exact ⟨hp2, decide_eq_true hw2⟩
    rw [f2] at this
    split at this
    · assumption
    · cases this
  rw [if_pos hns] at f2
  rw [bag_ok P hw]
  dsimp only
  rw [f2, f3, f5]
  refine ⟨?_, ?_, ?_⟩
  · have h1 := namesP_none Ns
    have h2 : Ns.length ≤ 31 ∧ Ns.all mayN = true := Classical.byContradiction fun hc => hns.2 (h1.2 hc)
    simpa using (of_names Ns hN h2.1 h2.2).2
  · unfold eachP
    have : (Ks.map nackP).filter (fun p => decide (p ≠ noPc)) = Ks.map nackP := by
      rw [List.filter_eq_self]
      intro p hp
      obtain ⟨k, hk, rfl⟩ := List.mem_map.1 hp
      obtain ⟨a, b, c⟩ := hK k hk
      have hE := (nack_of_back k a b c).1
      rw [decide_eq_true_eq]
      intro e
      rw [e] at hE
      exact absurd hE (by decide)
    rw [this, List.map_map]
    conv => rhs; rw [← List.map_id Ks]
    refine List.map_congr_left fun k hk => ?_
    obtain ⟨a, b, c⟩ := hK k hk
    exact (nack_of_back k a b c).2
  · rw [List.length_map]
    unfold eachP
    have : (Ys.map byeP).filter (fun p => decide (p ≠ noPc)) = Ys.map byeP := by
      rw [List.filter_eq_self]
      intro p hp
      obtain ⟨k, hk, rfl⟩ := List.mem_map.1 hp
      simpa using hY k hk
    rw [this, List.length_map]
end Go.Proofs.YtbnnfmleoebelaaGreat

