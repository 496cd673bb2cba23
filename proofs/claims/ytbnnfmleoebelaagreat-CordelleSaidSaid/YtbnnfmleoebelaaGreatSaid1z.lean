/- What is said goes out as one packet, and is read again; walked. -/
import Derived.Test.YtbnnfmleoebelaaGreatSaidMz
import Derived.Test.YtbnnfmleoebelaaGreatQCmp07z
namespace Go.Proofs.YtbnnfmleoebelaaGreat
open Go.RowKit
set_option linter.unusedVariables false
set_option linter.unusedSimpArgs false

def isCtl (l : List UInt8) : Bool := decide (2 ≤ l.length ∧ 192 ≤ (l.getD 1 0).toNat ∧ (l.getD 1 0).toNat ≤ 223)
set_option maxRecDepth 100000 in
set_option maxHeartbeats 8000000 in
theorem rtp_control (l : List UInt8) (hl : l.length ≤ maxLen) : Spec Tryz.prog 11 [.ca (.val (vs l))] [] (.ca (.val (vb (isCtl l)))) [] := by
  unfold maxLen at hl
  unfold isCtl
  by_cases h2 : 2 ≤ l.length
  · by_cases h3 : 192 ≤ (l.getD 1 0).toNat
    · by_cases h4 : (l.getD 1 0).toNat ≤ 223
      · rw [decide_eq_true ⟨h2, h3, h4⟩]
        refine spec_of Tryz.func11 rfl Tryz.ntmps11 Tryz.results11 ⟨by decide, by simp⟩ fun C hC => ?_
        (repeat (first | refine sp_ ?_ | exact ex0))
        (refine ret_s [] ?_; simp (decide := true) (disch := omega) only [go_sem, ↓reduceIte, ↓put_at])
      · rw [decide_eq_false (fun h => h4 h.2.2)]
        refine spec_of Tryz.func11 rfl Tryz.ntmps11 Tryz.results11 ⟨by decide, by simp⟩ fun C hC => ?_
        (repeat (first | refine sp_ ?_ | exact ex0))
        (refine ret_s [] ?_; simp (decide := true) (disch := omega) only [go_sem, ↓reduceIte, ↓put_at])
    · rw [decide_eq_false (fun h => h3 h.2.1)]
      refine spec_of Tryz.func11 rfl Tryz.ntmps11 Tryz.results11 ⟨by decide, by simp⟩ fun C hC => ?_
      (repeat (first | refine sp_ ?_ | exact ex0))
      (refine ret_s [] ?_; simp (decide := true) (disch := omega) only [go_sem, ↓reduceIte, ↓put_at])
  · rw [decide_eq_false (fun h => h2 h.1)]
    refine spec_of Tryz.func11 rfl Tryz.ntmps11 Tryz.results11 ⟨by decide, by simp⟩ fun C hC => ?_
    (repeat (first | refine sp_ ?_ | exact ex0))
    (refine ret_s [] ?_; simp (decide := true) (disch := omega) only [go_sem, ↓reduceIte, ↓put_at])
theorem putZ1 (n : Int) : putZ n 1 = [UInt8.ofNat (n % 256).toNat] := by
  simp [putZ]
theorem packC_second (ps : List Pc) (h : cmpE ps = 0) : ∃ a b r, packC ps = a :: b :: r ∧ (b = 200 ∨ b = 201) := by
  obtain ⟨hf, hw, _⟩ := cmpE_zero.1 h
  obtain ⟨h1, h2, h3, _⟩ := hf
  match ps, h1 with
  | p :: ps, _ =>
    have hb := h3 0
    have hw1 : whatP p = 1 := Classical.byContradiction fun hn => hb ⟨by simp, .inl ⟨rfl, hn⟩⟩
    have hk : p.2.1 = 200 ∨ p.2.1 = 201 := by
      rw [whatP_eq] at hw1
      split at hw1
      · omega
      · rcases sayP_cases p with h | h | h | h | h | h | h | h
        · exact ofE_kind h.2
        · rw [h.1] at hw1; omega
        · rw [h.1] at hw1; omega
        · rw [h.1] at hw1; omega
        · rw [h.1] at hw1; omega
        · rw [h.1] at hw1; omega
        · rw [h.1] at hw1; omega
        · rw [h.1] at hw1; omega
    unfold packC packP
    rw [if_pos h, if_pos h2]
    unfold sealB
    rw [List.flatMap_cons]
    unfold packOne
    rw [putZ1, putZ1]
    rcases hk with hk | hk
    · rw [hk]
      exact ⟨_, 200, _, rfl, .inl rfl⟩
    · rw [hk]
      exact ⟨_, 201, _, rfl, .inr rfl⟩
theorem control_is (ps : List Pc) (h : cmpE ps = 0) : isCtl (packC ps) = true := by
  obtain ⟨a, b, r, hr, hb⟩ := packC_second ps h
  unfold isCtl
  rw [decide_eq_true_eq, hr]
  rcases hb with rfl | rfl
  · simp
  · simp
/-- What is said, as a bag. -/
def cutN (x : N9) : N9 := ⟨x.src, x.text.take 40⟩
def saidB (R : R8) (Ns : List N9) (us : List Int) (Ln : R11) (A : List A11) (bye : Bool) : Bag12 :=
  ⟨[R], (Ns.take 5).map cutN, if bye = true then [⟨[], [1]⟩] else [], [], if us.take 40 = [] then [] else [⟨1, 2, pairsW (distL (us.take 40))⟩], [Ln], [⟨3, A.take 15⟩]⟩
theorem bye_one : byeP ⟨[], [1]⟩ = (1, 203, [0, 0, 0, 1]) := by decide
theorem each_body {α : Type} {f : α → Pc} {n : Nat} (h : ∀ x, (f x).2.2.length ≤ n) (l : List α) : ∀ p ∈ eachP f l, p.2.2.length ≤ n := fun p hp => by
  unfold eachP at hp
  obtain ⟨x, _, rfl⟩ := List.mem_map.1 (List.mem_filter.1 hp).1
  exact h x
theorem flat_at {α : Type} (f : α → List UInt8) (n : Nat) (h : ∀ x, (f x).length = n) (l : List α) : (l.flatMap f).length = n * l.length := by
  induction l with
  | nil => simp
  | cons x l ih => rw [List.flatMap_cons, List.length_append, h, ih, List.length_cons, Nat.mul_succ]; omega
theorem said_pcs (R : R8) (Ns : List N9) (us : List Int) (Ln : R11) (A : List A11) (bye : Bool) : Pcs (gotB (saidB R Ns us Ln A bye)) := by
  have bR : ∀ x, (pieceR x).2.2.length ≤ 100000 := fun x => by
    unfold pieceR
    split
    · rename_i h
      unfold mayR at h
      simp only [Bool.and_eq_true, decide_eq_true_eq] at h
      have := hdR_len x
      have := wrBs_len x.bs
      rw [List.length_append]
      omega
    · simp
  have bN : ∀ l, (namesP l).2.2.length ≤ 100000 := fun l => by
    unfold namesP
    split
    · rename_i h
      have := items_le l h.2
      dsimp only
      omega
    · simp
  have bK : ∀ x, (nackP x).2.2.length ≤ 100000 := fun x => by
    unfold nackP
    split
    · simp
    · dsimp only
      rw [List.length_append, flat_at wrPr 4 wrPr_len, puts'_length]
      simp
      omega
  have bL : ∀ x, (linesP x).2.2.length ≤ 100000 := fun x => by
    unfold linesP
    split
    · simp
    · unfold bldP
      split
      · rename_i h
        have := rises_few mayLn (fun x => x.path) mayLn15 0 _ (by omega) h
        dsimp only
        rw [List.length_append, flat_at wrLn 28 wrLn_len, putZ_length]
        omega
      · simp
  have bA : ∀ x, (adsP x).2.2.length ≤ 100000 := fun x => by
    unfold adsP bldP
    split
    · rename_i h
      have := rises_few mayAd (fun x => x.path) mayAd15 0 _ (by omega) h
      dsimp only
      rw [List.length_append, flat_at wrAd 4 wrAd_len, putZ_length]
      omega
    · simp
  have e1 := each_le pieceR [R]
  have e2 := each_le nackP (saidB R Ns us Ln A bye).nacks
  have e3 := each_le linesP [Ln]
  have e4 := each_le adsP [⟨3, A.take 15⟩]
  have e5 := each_le byeP (saidB R Ns us Ln A bye).byes
  have l2 : (saidB R Ns us Ln A bye).nacks.length ≤ 1 := by unfold saidB; dsimp only; split <;> simp
  have l5 : (saidB R Ns us Ln A bye).byes.length ≤ 1 := by unfold saidB; dsimp only; split <;> simp
  constructor
  · unfold gotB
    rw [show (saidB R Ns us Ln A bye).reports = [R] from rfl, show (saidB R Ns us Ln A bye).lines = [Ln] from rfl, show (saidB R Ns us Ln A bye).ads = [⟨3, A.take 15⟩] from rfl, show (saidB R Ns us Ln A bye).apps = [] from rfl, show eachP appP [] = [] from rfl]
    simp only [List.length_append, List.length_nil]
    simp only [List.length_singleton] at e1 e3 e4
    have : (if (saidB R Ns us Ln A bye).names ≠ [] ∧ namesP (saidB R Ns us Ln A bye).names ≠ noPc then [namesP (saidB R Ns us Ln A bye).names] else []).length ≤ 1 := by split <;> simp
    omega
  · intro p hp
    unfold gotB at hp
    simp only [List.mem_append] at hp
    rcases hp with (((((hp | hp) | hp) | hp) | hp) | hp) | hp
    · exact each_body bR _ p hp
    · split at hp
      · rw [List.mem_singleton] at hp; rw [hp]; exact bN _
      · cases hp
    · rw [show (saidB R Ns us Ln A bye).apps = [] from rfl] at hp; cases hp
    · exact each_body bK _ p hp
    · exact each_body bL _ p hp
    · exact each_body bA _ p hp
    · unfold eachP saidB at hp
      obtain ⟨x, hx, rfl⟩ := List.mem_map.1 (List.mem_filter.1 hp).1
      dsimp only at hx
      split at hx
      · rw [List.mem_singleton] at hx; rw [hx, bye_one]; simp
      · cases hx
structure SaidOk (R : R8) (Ns : List N9) (us : List Int) (Ln : R11) (A : List A11) : Prop where
  r : okR8 R
  n : ∀ x ∈ Ns, x.Ok
  nl : Ns.length ≤ maxLen
  u : ∀ n ∈ us, 0 ≤ n ∧ n < 65536
  ul : us.length ≤ maxLen
  l : okR11 Ln
  al : A.length ≤ maxLen
theorem cutN_ok {x : N9} (h : x.Ok) : (cutN x).Ok := ⟨h.1, by
  unfold cutN maxLen
  dsimp only
  rw [List.length_take]
  omega⟩
theorem said_sound {R : R8} {Ns : List N9} {us : List Int} {Ln : R11} {A : List A11} (bye : Bool) (h : SaidOk R Ns us Ln A) : (saidB R Ns us Ln A bye).Sound ∧ (saidB R Ns us Ln A bye).Tiny := by
  have hu : ∀ n ∈ us.take 40, 0 ≤ n ∧ n < 65536 := fun n hn => h.u n (List.mem_of_mem_take hn)
  have hul : (us.take 40).length ≤ 40 := by rw [List.length_take]; omega
  have hd := distL_len (us.take 40)
  have hpl := pairsW_len _ (distL (us.take 40)) (Nat.le_refl _)
  refine ⟨⟨fun x hx => ?_, fun x hx => ?_, fun x hx => ?_, fun x hx => ?_, fun x hx => ?_, fun x hx => ?_, fun x hx => ?_⟩, ⟨?_, ?_, ?_, ?_, ?_, ?_, ?_⟩⟩
  · rw [show (saidB R Ns us Ln A bye).reports = [R] from rfl, List.mem_singleton] at hx
    rw [hx]; exact h.r
  · obtain ⟨y, hy, rfl⟩ := List.mem_map.1 hx
    exact cutN_ok (h.n y (List.mem_of_mem_take hy))
  · unfold saidB at hx
    dsimp only at hx
    split at hx
    · rw [List.mem_singleton] at hx
      rw [hx]
      exact ⟨by simp [maxLen], by simp [maxLen], fun n hn => by simp at hn; omega⟩
    · cases hx
  · cases hx
  · unfold saidB at hx
    dsimp only at hx
    split at hx
    · cases hx
    · rw [List.mem_singleton] at hx
      rw [hx]
      exact ⟨⟨⟨by simp, by simp⟩, ⟨by simp, by simp⟩, fun p hp => pairsW_in _ _ (Nat.le_refl _) (fun y hy => hu y ((distL_mem _ y).1 hy)) p hp⟩, by unfold maxLen; dsimp only; omega⟩
  · rw [show (saidB R Ns us Ln A bye).lines = [Ln] from rfl, List.mem_singleton] at hx
    rw [hx]; exact h.l
  · rw [show (saidB R Ns us Ln A bye).ads = [⟨3, A.take 15⟩] from rfl, List.mem_singleton] at hx
    rw [hx]
    refine ⟨⟨by simp, by simp⟩, ?_⟩
    have := h.al
    dsimp only
    rw [List.length_take]
    omega
  · show [R].length ≤ 10000; simp
  · show ((Ns.take 5).map cutN).length ≤ 10000; rw [List.length_map, List.length_take]; omega
  · unfold saidB; dsimp only; split <;> simp
  · show ([] : List A9).length ≤ 10000; simp
  · unfold saidB; dsimp only; split <;> simp
  · show [Ln].length ≤ 10000; simp
  · show [S11.mk 3 (A.take 15)].length ≤ 10000; simp
set_option maxRecDepth 100000 in
set_option maxHeartbeats 8000000 in
theorem n9_ne (a1 b1 : Int) (a2 b2 : List UInt8) (w : World) : (binOp .neq 50 (.agg [.int .u32 a1, str a2].toArray) (.agg [.int .u32 b1, str b2].toArray)).run Tryz.prog w = .ok (.bool (!decide (a1 = b1 ∧ a2 = b2))) w := by
  by_cases h1 : a1 = b1
  · by_cases h2 : a2 = b2
    · subst h1 h2; simp [go_sem]
    · have e : (a2 == b2) = false := by simpa using h2
      simp [go_sem, h1, h2, e]
  · simp [go_sem, h1]
theorem cut_g {α : Type} (f : α → List V) (l : List α) (k : Nat) : (l.map f).take (min (l.length : Int) k).toNat = (l.take k).map f := by
  rw [← List.map_take]
  congr 1
  rcases Nat.le_total l.length k with h | h
  · rw [List.take_of_length_le (by omega), List.take_of_length_le h]
  · congr 1
    omega
theorem pairs_two : (pairsW (distL [1, 2])).length = 1 := by
  rw [show distL [1, 2] = [1, 2] by decide, pairsW, show leftF 1 [2] = [] by decide, pairsW]
  rfl
def wordsV (R : R8) (Ns : List N9) (us : List Int) (Ln : R11) (A : List A11) (bye : Bool) : List V := r8L R ++ [.lst 2 (Ns.map n9El), .lst 1 (us.map hEl)] ++ r11L Ln ++ [.lst 3 (A.map a11El), vb bye]
set_option maxRecDepth 100000 in
set_option maxHeartbeats 8000000 in
theorem said_walk (R : R8) (Ns : List N9) (us : List Int) (Ln : R11) (A : List A11) (bye : Bool) (h : SaidOk R Ns us Ln A) : Spec Tryz.prog 3 [.ca (.val (.agg (wordsV R Ns us Ln A bye)))] [] (.ca (.val (vb true))) [] := by
  have k1 := cmp_check [] ⟨by simp, fun p hp => by cases hp⟩
  rw [cmpE_nil] at k1
  have k2 := nack_pairs [1, 2] (by decide) (by decide)
  have k3 := pairs_two
  have k4 := pairsW_len _ (distL [1, 2]) (Nat.le_refl _)
  generalize pairsW (distL [1, 2]) = PW at *
  obtain ⟨B, hB⟩ : ∃ B, B = saidB R Ns us Ln A bye := ⟨_, rfl⟩
  unfold wordsV
  refine spec_of Tryz.func3 rfl Tryz.ntmps3 Tryz.results3 ⟨by decide, by simp⟩ fun C hC => ?_
  (repeat' ((fail_if_success (refine stop_reg 3 ?_)); (first | refine sp_ ?_ | exact ex0 | refine call_u Tryz.call4 (k1) [] ex1 ?_ | refine call_u Tryz.call5 (k2) [] ex1 ?_ | (refine ret_s [] ?_; simp (decide := true) (disch := omega) only [go_sem, ↓reduceIte, ↓put_at]))))
  have hNe : List.take (min (Ns.length : Int) 5).toNat (List.map n9El Ns) = (Ns.take 5).map n9El := cut_g n9El Ns 5
  simp only [hNe]
  refine ⟨⟨by omega, by omega, fun q hq => hq.elim⟩, ?_⟩
  have hN5 : (Ns.take 5).length ≤ 5 := by rw [List.length_take]; omega
  have hNo : ∀ x ∈ Ns.take 5, x.text.length ≤ maxLen := fun x hx => (h.n x (List.mem_of_mem_take hx)).2
  clear hNe k1 k2 k3 k4
  have hB2 : B.names = (Ns.take 5).map cutN := by rw [hB]; rfl
  generalize Ns.take 5 = N5 at *
  (repeat' ((fail_if_success (first | refine stop_at 5 ?_ | refine stop_l 5 ?_)); (first | refine sp_ ?_ | exact ex0 | (refine ret_s [] ?_; simp (decide := true) (disch := omega) only [go_sem, ↓reduceIte, ↓put_at]))))
  refine own_c (3, 0) 1 (3, 9) 50 2 ?_
  simp (decide := true) (disch := omega) only [go_sem, ↓reduceIte, ↓put_at]
  (repeat' ((fail_if_success (refine stop_reg 6 ?_)); (first | refine sp_ ?_ | exact ex0 | (refine ret_s [] ?_; simp (decide := true) (disch := omega) only [go_sem, ↓reduceIte, ↓put_at]))))
  refine loop_s (α := {i : Nat // i ≤ N5.length}) (fun i => [(.o (1, 0), .num 13), (.c (1, 0) 8, .av (.val (.lst 1 (List.map hEl us)))), (.c (1, 0) 9, .av (.val (vu Ln.src))), (.c (1, 0) 10, .av (.val (.lst 8 (List.map l11El Ln.all)))), (.c (1, 0) 11, .av (.val (.lst 3 (List.map a11El A)))), (.c (1, 0) 12, .av (.val (vb bye))), (.s 1, .av (.ptr (1, 0) 0 0)), (.o (3, 0), .num 7), (.s 3, .av (.ptr (3, 0) 0 0)), (.c (3, 0) 0, .av (.val (.lst 7 [[vu R.src, vb R.isS, vi R.sent.clock, vu R.sent.time, vu R.sent.packets, vu R.sent.bytes, .lst 7 (List.map b8El R.bs)]]))), (.k (3, 9), .row 50 2 ((N5.take i.1).map cutN).length), (.c (3, 0) 1, .av (.own (3, 9) 0 50 2 (((N5.take i.1).map cutN).map n9El))), (.c (3, 0) 2, .av (.val (.sc (.slice none 0 0)))), (.c (3, 0) 3, .av (.val (.sc (.slice none 0 0)))), (.c (3, 0) 4, .av (.val (.sc (.slice none 0 0)))), (.c (3, 0) 5, .av (.val (.sc (.slice none 0 0)))), (.c (3, 0) 6, .av (.val (.sc (.slice none 0 0)))), (.s 41, .av (.val (.lst 2 (N5.map n9El)))), (.s 42, .av (.val (vi N5.length))), (.s 43, .av (.val (vi i.1)))]) (fun i => N5.length - i.1) ⟨0, Nat.zero_le _⟩ ?_ (fun i => ?_)
  · rw [List.take_zero]
    simp (decide := true) (disch := omega) only [go_sem, ↓reduceIte, ↓put_at]
  obtain ⟨i, hi⟩ := i
  dsimp only at hi ⊢
  by_cases hlt : i < N5.length
  · have hge : (N5.map n9El).getD i [] = n9El N5[i] := by simp [hlt]
    have hst : (N5.take (i + 1)).map cutN = (N5.take i).map cutN ++ [cutN N5[i]] := by rw [List.take_succ_eq_append_getElem hlt, List.map_append]; rfl
    have hil : ((N5.take i).map cutN).length = i := by rw [List.length_map, List.length_take]; omega
    have cc := q_cut N5[i].text 40 (hNo _ (List.getElem_mem hlt)) (by decide)
    rw [show (40 : Int).toNat = 40 from rfl] at cc
    generalize (N5.take i).map cutN = D at *
    (repeat' ((first | refine sp_ ?_ | exact ex0 | refine call_u Tryz.call6 (cc) [] ex1 ?_ | (refine ret_s [] ?_; simp (decide := true) (disch := omega) only [go_sem, ↓reduceIte, ↓put_at]))))
    refine next_s (α := {i : Nat // i ≤ N5.length}) ⟨i + 1, hlt⟩ ⟨?_, by (try dsimp only); omega⟩
    (try dsimp only)
    rw [hst]
    simp (decide := true) (disch := omega) only [go_sem, ↓reduceIte, ↓put_at]
    exact ⟨by rw [hil, List.length_take, Nat.min_eq_left (by omega)], by rw [List.map_append]; rfl⟩
  obtain rfl : i = N5.length := by omega
  rw [List.take_length]
  clear hlt
  have hUe : List.take (min (us.length : Int) 40).toNat (List.map hEl us) = (us.take 40).map hEl := cut_g hEl us 40
  have hUl : (us.take 40).length ≤ 40 := by rw [List.length_take]; omega
  have hUo : ∀ x ∈ us.take 40, 0 ≤ x ∧ x < 65536 := fun x hx => h.u x (List.mem_of_mem_take hx)
  have hAe : List.take (min (A.length : Int) 15).toNat (List.map a11El A) = (A.take 15).map a11El := cut_g a11El A 15
  have k5 := nack_ask 1 2 (us.take 40) (by omega) hUo
  have hBK : B.nacks = if us.take 40 = [] then [] else [⟨1, 2, pairsW (distL (us.take 40))⟩] := by rw [hB]; rfl
  obtain ⟨L, hL⟩ : ∃ L, L = us.take 40 := ⟨_, rfl⟩
  obtain ⟨Ks, hKs⟩ : ∃ Ks, Ks = if L = [] then [] else [(⟨1, 2, pairsW (distL L)⟩ : N10)] := ⟨_, rfl⟩
  rw [← hL] at hUe hUl hUo k5 hBK
  rw [← hKs] at hBK
  (repeat' ((fail_if_success (refine stop_reg 11 ?_)); (first | refine sp_ ?_ | exact ex0 | (refine ret_s [] ?_; simp (decide := true) (disch := omega) only [go_sem, ↓reduceIte, ↓put_at]))))
  simp only [hUe]
  refine ⟨⟨by omega, by omega, fun q hq => hq.elim⟩, ?_⟩
  (repeat' ((fail_if_success (refine stop_reg 11 ?_)); (first | refine sp_ ?_ | exact ex0 | (refine ret_s [] ?_; simp (decide := true) (disch := omega) only [go_sem, ↓reduceIte, ↓put_at]))))
  refine meet_s (α := Unit) (fun _ => [(.o (1, 0), .num 13), (.c (1, 0) 9, .av (.val (vu Ln.src))), (.c (1, 0) 10, .av (.val (.lst 8 (List.map l11El Ln.all)))), (.c (1, 0) 11, .av (.val (.lst 3 (List.map a11El A)))), (.c (1, 0) 12, .av (.val (vb bye))), (.s 1, .av (.ptr (1, 0) 0 0)), (.o (3, 0), .num 7), (.s 3, .av (.ptr (3, 0) 0 0)), (.c (3, 0) 0, .av (.val (.lst 7 [[vu R.src, vb R.isS, vi R.sent.clock, vu R.sent.time, vu R.sent.packets, vu R.sent.bytes, .lst 7 (List.map b8El R.bs)]]))), (.c (3, 0) 1, .av (.val (.lst 2 ((N5.map cutN).map n9El)))), (.c (3, 0) 2, .av (.val (.sc (.slice none 0 0)))), (.c (3, 0) 3, .av (.val (.sc (.slice none 0 0)))), (.c (3, 0) 4, .av (.val (.lst 3 (Ks.map n10El)))), (.c (3, 0) 5, .av (.val (.sc (.slice none 0 0)))), (.c (3, 0) 6, .av (.val (.sc (.slice none 0 0)))), (.s 6, .av (.val (.lst 1 (L.map hEl))))]) ?_ (fun _ => ?_)
  · by_cases hl0 : L = []
    · have hK0 : Ks = [] := by rw [hKs, if_pos hl0]
      rw [hK0]
      subst hl0
      (repeat' ((first | refine sp_ ?_ | exact ex0 | (refine ret_s [] ?_; simp (decide := true) (disch := omega) only [go_sem, ↓reduceIte, ↓put_at]))))
      refine at_meet () ?_
      simp (decide := true) (disch := omega) only [go_sem, ↓reduceIte, ↓put_at]
    · have hK0 : Ks = [⟨1, 2, pairsW (distL L)⟩] := by rw [hKs, if_neg hl0]
      have hlp : 0 < L.length := List.length_pos_iff.2 hl0
      rw [hK0]
      (repeat' ((first | refine sp_ ?_ | exact ex0 | refine call_u Tryz.call7 (k5) [] ex1 ?_ | (refine ret_s [] ?_; simp (decide := true) (disch := omega) only [go_sem, ↓reduceIte, ↓put_at]))))
      refine at_meet () ?_
      simp (decide := true) (disch := omega) only [go_sem, ↓reduceIte, ↓put_at]
      first | done | rfl
  clear hUe k5
  obtain ⟨A15, hA15⟩ : ∃ A15, A15 = A.take 15 := ⟨_, rfl⟩
  rw [← hA15] at hAe
  (repeat' ((fail_if_success (refine stop_reg 15 ?_)); (first | refine sp_ ?_ | exact ex0 | (refine ret_s [] ?_; simp (decide := true) (disch := omega) only [go_sem, ↓reduceIte, ↓put_at]))))
  simp only [hAe]
  refine ⟨⟨by omega, by omega, fun q hq => hq.elim⟩, ?_⟩
  (repeat' ((fail_if_success (refine stop_reg 15 ?_)); (first | refine sp_ ?_ | exact ex0 | (refine ret_s [] ?_; simp (decide := true) (disch := omega) only [go_sem, ↓reduceIte, ↓put_at]))))
  obtain ⟨Ys, hYs⟩ : ∃ Ys, Ys = if bye = true then [(⟨[], [1]⟩ : Y9)] else [] := ⟨_, rfl⟩
  refine meet_s (α := Unit) (fun _ => [(.o (3, 0), .num 7), (.s 3, .av (.ptr (3, 0) 0 0)), (.c (3, 0) 0, .av (.val (.lst 7 [[vu R.src, vb R.isS, vi R.sent.clock, vu R.sent.time, vu R.sent.packets, vu R.sent.bytes, .lst 7 (List.map b8El R.bs)]]))), (.c (3, 0) 1, .av (.val (.lst 2 ((N5.map cutN).map n9El)))), (.c (3, 0) 2, .av (.val (.lst 2 (Ys.map y9El)))), (.c (3, 0) 3, .av (.val (.sc (.slice none 0 0)))), (.c (3, 0) 4, .av (.val (.lst 3 (Ks.map n10El)))), (.c (3, 0) 5, .av (.val (.lst 2 [[vu Ln.src, .lst 8 (List.map l11El Ln.all)]]))), (.c (3, 0) 6, .av (.val (.lst 2 [[vu 3, .lst 3 (A15.map a11El)]]))), (.s 6, .av (.val (.lst 1 (L.map hEl))))]) ?_ (fun _ => ?_)
  · cases bye with
    | true =>
      rw [if_pos rfl] at hYs
      rw [hYs]
      (repeat' ((first | refine sp_ ?_ | exact ex0 | (refine ret_s [] ?_; simp (decide := true) (disch := omega) only [go_sem, ↓reduceIte, ↓put_at]))))
      refine at_meet () ?_
      simp (decide := true) (disch := omega) only [go_sem, ↓reduceIte, ↓put_at]
      first | done | rfl
    | false =>
      rw [if_neg (by decide)] at hYs
      rw [hYs]
      (repeat' ((first | refine sp_ ?_ | exact ex0 | (refine ret_s [] ?_; simp (decide := true) (disch := omega) only [go_sem, ↓reduceIte, ↓put_at]))))
      refine at_meet () ?_
      simp (decide := true) (disch := omega) only [go_sem, ↓reduceIte, ↓put_at]
  clear hAe
  have hBe : B = ⟨[R], N5.map cutN, Ys, [], Ks, [Ln], [⟨3, A15⟩]⟩ := by
    have q1 : B.reports = [R] := by rw [hB]; rfl
    have q2 : B.byes = Ys := by rw [hB, hYs]; rfl
    have q3 : B.apps = [] := by rw [hB]; rfl
    have q4 : B.lines = [Ln] := by rw [hB]; rfl
    have q5 : B.ads = [⟨3, A15⟩] := by rw [hB, hA15]; rfl
    clear hB
    cases B
    dsimp only at *
    rw [q1, hB2, q2, q3, hBK, q4, q5]
  obtain ⟨so, ti⟩ := said_sound bye h
  have hpP := said_pcs R Ns us Ln A bye
  rw [← hB] at so ti hpP
  have cp := cmp_pieces B so ti
  have law := said_law R (N5.map cutN) Ks Ln ⟨3, A15⟩ Ys (by rw [← hB2]; exact so.names) (fun k hk => by
    have hko := so.nacks k (by rw [hBK]; exact hk)
    rw [hKs] at hk
    split at hk
    · cases hk
    · rename_i hl0
      rw [List.mem_singleton] at hk
      have hd := distL_len L
      have hpl := pairsW_len _ (distL L) (Nat.le_refl _)
      have hdn : distL L ≠ [] := fun e => by
        cases L with
        | nil => exact hl0 rfl
        | cons n l =>
          have : n ∈ distL (n :: l) := (distL_mem _ _).2 (by simp)
          rw [e] at this
          cases this
      refine ⟨hko.1, ?_, ?_⟩
      · rw [hk]; exact pairsW_ne hdn
      · rw [hk]; dsimp only; omega) (fun y hy => by
    rw [hYs] at hy
    split at hy
    · rw [List.mem_singleton] at hy; rw [hy, bye_one]; decide
    · cases hy)
  rw [← hBe] at law
  obtain ⟨P, hP⟩ : ∃ P, P = gotB B := ⟨_, rfl⟩
  rw [← hP] at law hpP cp
  have kc := cmp_check P hpP
  have kp := cmp_pack P hpP
  have hP1 := hpP.len
  rw [hBe] at cp
  clear so ti hBe hB
  have hal := ask_len hUo
  generalize hMM : N5.map cutN = M at *
  have hMl : M.length ≤ 5 := by rw [← hMM, List.length_map]; exact hN5
  simp only [bagV, List.map_cons, List.map_nil, r8El, r11El, s11El] at cp
  by_cases hc : cmpE P = 0
  · obtain ⟨l1, l2, l3⟩ := law hc
    obtain ⟨z1, _, z3, z4⟩ := pack_parse12 P hc
    have kt := rtp_control (packC P) (by unfold maxLen; omega)
    rw [control_is P hc] at kt
    have kpa := cmp_parse (packC P) (by omega)
    rw [z1] at kpa
    have ko := cmp_open P hpP
    obtain ⟨G, hG⟩ : ∃ G, G = openB P := ⟨_, rfl⟩
    have hGe : G = bagOf P := by rw [hG]; unfold openB; rw [if_pos hc]
    rw [← hGe] at l1 l2 l3
    rw [← hG] at ko
    obtain ⟨g1, g2, g3, g4, g5, g6, g7⟩ := G
    dsimp only at l1 l2 l3 ko
    subst l1 l2
    have hbe : (packC P == []) = false := by simpa using z4
    rw [hc] at kc
    clear hG hGe z1 law
    generalize packC P = s at *
    (repeat' ((fail_if_success (refine stop_reg 20 ?_)); (first | refine sp_ ?_ | exact ex0 | refine call_u Tryz.call8 (cp) [] ex1 ?_ | refine call_u Tryz.call9 (kp) [] ex1 ?_ | (refine ret_s [] ?_; simp (decide := true) (disch := omega) only [go_sem, ↓reduceIte, ↓put_at]))))
    simp only [hbe]
    (repeat' ((fail_if_success (refine stop_reg 25 ?_)); (first | refine sp_ ?_ | exact ex0 | refine call_u Tryz.call10 (kpa) [] ex1 ?_ | refine call_u Tryz.call11 (kt) [] ex1 ?_ | (refine ret_s [] ?_; simp (decide := true) (disch := omega) only [go_sem, ↓reduceIte, ↓put_at]))))
    refine loop_s (α := {i : Nat // i ≤ P.length}) (fun i => [(.o (3, 0), .num 7), (.s 3, .av (.ptr (3, 0) 0 0)), (.c (3, 0) 1, .av (.val (.lst 2 (g2.map n9El)))), (.c (3, 0) 2, .av (.val (.lst 2 (Ys.map y9El)))), (.c (3, 0) 4, .av (.val (.lst 3 (g5.map n10El)))), (.s 6, .av (.val (.lst 1 (L.map hEl)))), (.s 7, .av (.val (.lst 3 (P.map pcEl)))), (.s 9, .av (.val (.lst 3 (P.map pcEl)))), (.s 122, .av (.val (vi P.length))), (.s 123, .av (.val (vi i.1)))]) (fun i => P.length - i.1) ⟨0, Nat.zero_le _⟩ ?_ (fun i => ?_)
    · simp (decide := true) (disch := omega) only [go_sem, ↓reduceIte, ↓put_at]
    obtain ⟨i, hi⟩ := i
    dsimp only at hi ⊢
    by_cases hlt : i < P.length
    · have hge : (P.map pcEl).getD i [] = pcEl P[i] := by simp [hlt]
      have hcm := pp_ne P[i].1 P[i].1 P[i].2.1 P[i].2.1 P[i].2.2 P[i].2.2
      rw [show decide (P[i].1 = P[i].1 ∧ P[i].2.1 = P[i].2.1 ∧ P[i].2.2 = P[i].2.2) = true by simp, show (!true) = false from rfl] at hcm
      (repeat' ((first | refine sp_ ?_ | exact ex0 | (refine ret_s [] ?_; simp (decide := true) (disch := omega) only [go_sem, ↓reduceIte, ↓put_at]))))
      refine cmpA_s _ _ _ (.inr rfl) (by simp (decide := true) (disch := omega) only [go_sem, ↓reduceIte, ↓put_at]) (by simp (decide := true) (disch := omega) only [go_sem, ↓reduceIte, ↓put_at]) (by kernel_rfl) hcm ?_
      (repeat' ((first | refine sp_ ?_ | exact ex0 | (refine ret_s [] ?_; simp (decide := true) (disch := omega) only [go_sem, ↓reduceIte, ↓put_at]))))
      refine next_s (α := {i : Nat // i ≤ P.length}) ⟨i + 1, hlt⟩ ⟨?_, by (try dsimp only); omega⟩
      (try dsimp only)
      simp (decide := true) (disch := omega) only [go_sem, ↓reduceIte, ↓put_at]
    obtain rfl : i = P.length := by omega
    (repeat' ((fail_if_success (refine stop_reg 34 ?_)); (first | refine sp_ ?_ | exact ex0 | refine call_u Tryz.call12 (ko) [] ex1 ?_ | (refine ret_s [] ?_; simp (decide := true) (disch := omega) only [go_sem, ↓reduceIte, ↓put_at]))))
    refine loop_s (α := {i : Nat // i ≤ g2.length}) (fun i => [(.o (12, 0), .num 7), (.c (12, 0) 1, .av (.val (.lst 2 (g2.map n9El)))), (.c (12, 0) 4, .av (.val (.lst 3 (g5.map n10El)))), (.s 12, .av (.ptr (12, 0) 0 0)), (.s 6, .av (.val (.lst 1 (L.map hEl)))), (.s 164, .av (.val (.lst 2 (g2.map n9El)))), (.s 165, .av (.val (vi g2.length))), (.s 166, .av (.val (vi i.1)))]) (fun i => g2.length - i.1) ⟨0, Nat.zero_le _⟩ ?_ (fun i => ?_)
    · simp (decide := true) (disch := omega) only [go_sem, ↓reduceIte, ↓put_at]
    obtain ⟨i, hi2⟩ := i
    dsimp only at hi2 ⊢
    by_cases hlt : i < g2.length
    · have hge : (g2.map n9El).getD i [] = n9El g2[i] := by simp [hlt]
      have hcm := n9_ne g2[i].src g2[i].src g2[i].text g2[i].text
      rw [show decide (g2[i].src = g2[i].src ∧ g2[i].text = g2[i].text) = true by simp, show (!true) = false from rfl] at hcm
      (repeat' ((first | refine sp_ ?_ | exact ex0 | (refine ret_s [] ?_; simp (decide := true) (disch := omega) only [go_sem, ↓reduceIte, ↓put_at]))))
      refine cmpA_s _ _ _ (.inr rfl) (by simp (decide := true) (disch := omega) only [go_sem, ↓reduceIte, ↓put_at]) (by simp (decide := true) (disch := omega) only [go_sem, ↓reduceIte, ↓put_at]) (by kernel_rfl) hcm ?_
      (repeat' ((first | refine sp_ ?_ | exact ex0 | (refine ret_s [] ?_; simp (decide := true) (disch := omega) only [go_sem, ↓reduceIte, ↓put_at]))))
      refine next_s (α := {i : Nat // i ≤ g2.length}) ⟨i + 1, hlt⟩ ⟨?_, by (try dsimp only); omega⟩
      (try dsimp only)
      simp (decide := true) (disch := omega) only [go_sem, ↓reduceIte, ↓put_at]
    obtain rfl : i = g2.length := by omega
    by_cases hl0 : L = []
    · subst hl0
      (repeat' ((first | refine sp_ ?_ | exact ex0 | (refine ret_s [] ?_; simp (decide := true) (disch := omega) only [go_sem, ↓reduceIte, ↓put_at]))))
    · have hlp : 0 < L.length := List.length_pos_iff.2 hl0
      rw [if_neg hl0] at hKs
      have kn := nack_numbers ⟨1, 2, pairsW (distL L)⟩ (fun p hp => pairsW_in _ _ (Nat.le_refl _) (fun y hy => hUo y ((distL_mem _ y).1 hy)) p hp) (by have := distL_len L; have := pairsW_len _ (distL L) (Nat.le_refl _); dsimp only; omega)
      have ks := ser_dist L (by omega)
      obtain ⟨ha1, ha2⟩ := hal
      have hpl := pairsW_len _ (distL L) (Nat.le_refl _)
      have hal2 := allN_len (pairsW (distL L))
      have hdl := distL_len (allN (pairsW (distL L)))
      have hdl2 := distL_len L
      dsimp only at kn
      generalize pairsW (distL L) = ps at *
      generalize hD : distL (allN ps) = D at *
      subst hKs
      (repeat' ((fail_if_success (refine stop_reg 43 ?_)); (first | refine sp_ ?_ | exact ex0 | refine call_u Tryz.call13 (kn) [] ex1 ?_ | (refine ret_s [] ?_; simp (decide := true) (disch := omega) only [go_sem, ↓reduceIte, ↓put_at]))))
      refine loop_s (α := {i : Nat // i ≤ D.length}) (fun i => [(.s 6, .av (.val (.lst 1 (L.map hEl)))), (.r (182, 1), .tree (.mp (seenH (.av (.sc (.bool true))) (distL (D.take i.1))))), (.s 15, .av (.ref (182, 1) 0)), (.s 187, .av (.val (.lst 1 (D.map hEl)))), (.s 188, .av (.val (vi D.length))), (.s 189, .av (.val (vi i.1)))]) (fun i => D.length - i.1) ⟨0, Nat.zero_le _⟩ ?_ (fun i => ?_)
      · rw [List.take_zero, show distL [] = [] from rfl]
        simp (decide := true) (disch := omega) only [go_sem, ↓reduceIte, ↓put_at]
        first | done | exact rfl | (show _ = _; kernel_rfl)
      obtain ⟨i, hi3⟩ := i
      dsimp only at hi3 ⊢
      by_cases hlt2 : i < D.length
      · have hge2 : (D.map hEl).getD i [] = [vh D[i]] := by simp [hlt2]
        have hst := distL_take D i hlt2
        generalize distL (D.take i) = X at *
        (repeat' ((first | refine sp_ ?_ | exact ex0 | (refine ret_s [] ?_; simp (decide := true) (disch := omega) only [go_sem, ↓reduceIte, ↓put_at]))))
        refine next_s (α := {i : Nat // i ≤ D.length}) ⟨i + 1, hlt2⟩ ⟨?_, by (try dsimp only); omega⟩
        (try dsimp only)
        rw [hst]
        simp (decide := true) (disch := omega) only [go_sem, ↓reduceIte, ↓put_at]
      obtain rfl : i = D.length := by omega
      rw [List.take_length]
      have hX : ∀ x, x ∈ distL D ↔ x ∈ L := fun x => by rw [distL_mem]; exact ha1 x
      generalize distL D = X at *
      (repeat' ((fail_if_success (refine stop_reg 48 ?_)); (first | refine sp_ ?_ | exact ex0 | (refine ret_s [] ?_; simp (decide := true) (disch := omega) only [go_sem, ↓reduceIte, ↓put_at]))))
      refine loop_s (α := {i : Nat // i ≤ L.length}) (fun i => [(.s 6, .av (.val (.lst 1 (L.map hEl)))), (.r (182, 1), .tree (.mp (seenH (.av (.sc (.bool true))) X))), (.s 15, .av (.ref (182, 1) 0)), (.s 196, .av (.val (.lst 1 (L.map hEl)))), (.s 197, .av (.val (vi L.length))), (.s 198, .av (.val (vi i.1)))]) (fun i => L.length - i.1) ⟨0, Nat.zero_le _⟩ ?_ (fun i => ?_)
      · simp (decide := true) (disch := omega) only [go_sem, ↓reduceIte, ↓put_at]
      obtain ⟨i, hi4⟩ := i
      dsimp only at hi4 ⊢
      by_cases hlt3 : i < L.length
      · have hge3 : (L.map hEl).getD i [] = [vh L[i]] := by simp [hlt3]
        have hg := seenH_get (.av (.sc (.bool true))) X L[i]
        rw [if_pos ((hX _).2 (List.getElem_mem hlt3))] at hg
        (repeat' ((first | refine sp_ ?_ | exact ex0 | (refine ret_s [] ?_; simp (decide := true) (disch := omega) only [go_sem, ↓reduceIte, ↓put_at]))))
        (try simp only [hg])
        (repeat' ((first | refine sp_ ?_ | exact ex0 | (refine ret_s [] ?_; simp (decide := true) (disch := omega) only [go_sem, ↓reduceIte, ↓put_at]))))
        refine next_s (α := {i : Nat // i ≤ L.length}) ⟨i + 1, hlt3⟩ ⟨?_, by (try dsimp only); omega⟩
        (try dsimp only)
        simp (decide := true) (disch := omega) only [go_sem, ↓reduceIte, ↓put_at]
      obtain rfl : i = L.length := by omega
      have hsl : (seenH (.av (.sc (.bool true))) X).length = X.length := by simp [seenH]
      generalize distL L = DL at *
      (repeat' ((first | refine sp_ ?_ | exact ex0 | refine call_u Tryz.call14 (ks) [] ex1 ?_ | (refine ret_s [] ?_; simp (decide := true) (disch := omega) only [go_sem, ↓reduceIte, ↓put_at]))))
  · have hs0 : packC P = [] := by unfold packC; rw [if_neg hc]
    rw [hs0] at kp
    (repeat' ((first | refine sp_ ?_ | exact ex0 | refine call_u Tryz.call8 (cp) [] ex1 ?_ | refine call_u Tryz.call9 (kp) [] ex1 ?_ | refine call_u Tryz.call4 (kc) [] ex1 ?_ | (refine ret_s [] ?_; simp (decide := true) (disch := omega) only [go_sem, ↓reduceIte, ↓put_at]))))
end Go.Proofs.YtbnnfmleoebelaaGreat

