
/- Package net: all of a lane; another net like it; walked. -/
import Derived.Test.YtdkgnlmojmafbaaNet3
import Derived.Test.YtdkgnlmojmafbaaRW
namespace Go.Proofs.Ytdkgnlmojmafbaa
open Go.RowKit
set_option linter.unusedVariables false
set_option linter.unusedSimpArgs false

theorem tx_len (b : List (List UInt8)) : ∀ r ∈ b.map (fun s => [vs s]), r.length = 1 := fun r h => by obtain ⟨e, _, rfl⟩ := List.mem_map.1 h; rfl
theorem tx_one (b : List (List UInt8)) : ∀ r ∈ b.map (fun s => [vs s]), ∀ y ∈ r, oneV y = true := fun r h y hy => by obtain ⟨e, _, rfl⟩ := List.mem_map.1 h; simp at hy; subst hy; rfl
theorem tx_flat (b : List (List UInt8)) : flatR (b.map fun s => [vs s]) := fun r h y hy => by obtain ⟨e, _, rfl⟩ := List.mem_map.1 h; simp at hy; subst hy; trivial
set_option maxRecDepth 100000 in
set_option maxHeartbeats 8000000 in
theorem net_all (N : N28) (l : Ln) {K : Int} (h : N.Ok K) : Spec Try.prog 26 [.ptr 0 0, .ca (.val (vi l.1)), .ca (.val (vi l.2))] [netO N] (.ca (.hd (.rw 9 1 ((bagB N.m l).map fun s => [vs s])))) [netO N] := by
  obtain ⟨B1, _⟩ := bagB_small h l
  have hm := h.most
  have cc := sl_clone_str ((bagB N.m l).map fun s => [vs s]) (by rw [List.length_map]; omega) (tx_len _) (tx_one _)
  have fl := tx_flat (bagB N.m l)
  have hnd := h.nd
  clear h
  cases hg : getB N.m l with
  | none =>
    have hbag : bagB N.m l = [] := by unfold bagB; rw [hg]; rfl
    rw [hbag] at cc fl ⊢
    simp only [List.map_nil] at cc fl ⊢
    refine spec_of Try.func26 rfl Try.ntmps26 Try.results26 ⟨by decide, by simp⟩ fun C hC => ?_
    (repeat' ((first | refine sp_ ?_ | exact ex0 | (refine ret_s [] ?_; simp (decide := true) (disch := omega) only [go_sem, ↓reduceIte, ↓put_at]))))
    refine lkS_s (1000, 3) (kvB 9 N.m) (lnV l) (.slice none 0 0) (lnE l) (.sc (.slice none 0 0)) _ _ ln_map (by simp (decide := true) (disch := omega) only [go_sem, ↓reduceIte, ↓put_at]) (ln_val l) (ln_keys l _) ln_zero (by rw [kv_get, hg]; rfl) ?_
    (repeat' ((first | refine sp_ ?_ | exact ex0 | refine pcallT_u Try.call30 (cc) (fl) ex1 ?_ | (refine ret_s [] ?_; simp (decide := true) (disch := omega) only [go_sem, ↓reduceIte, ↓put_at]))))
  | some b =>
    obtain ⟨j, hj⟩ := getB_at 9 l b N.m hg
    have hbag : bagB N.m l = b := by unfold bagB; rw [hg]; rfl
    obtain ⟨o1, o2, o3, o4, o5⟩ := kv_over (kvB_nodup 9 hnd) (a := .av .any) hj
    rw [hbag] at cc fl ⊢
    refine spec_of Try.func26 rfl Try.ntmps26 Try.results26 ⟨by decide, by simp⟩ fun C hC => ?_
    (repeat' ((first | refine sp_ ?_ | exact ex0 | (refine ret_s [] ?_; simp (decide := true) (disch := omega) only [go_sem, ↓reduceIte, ↓put_at]))))
    refine lkR_s (1000, 3) (kvB 9 N.m) j (lnV l) (lnE l) 9 1 (b.map fun s => [vs s]) _ _ ln_map (by simp (decide := true) (disch := omega) only [go_sem, ↓reduceIte, ↓put_at]) (ln_val l) (ln_keys l _) hj (by decide) ?_
    generalize (kvB 9 N.m).set j (lnV l, .av .any) = M1 at *
    (repeat' ((fail_if_success (refine stop_ret ?_)); (first | refine sp_ ?_ | exact ex0 | refine pcallT_u Try.call30 (cc) (fl) ex1 ?_ | (refine ret_s [] ?_; simp (decide := true) (disch := omega) only [go_sem, ↓reduceIte, ↓put_at]))))
    refine bck_s (1000, 3) (14, 1) M1 (kvB 9 N.m) j (lnV l) .any 9 1 (b.map fun s => [vs s]) o4 o3 ⟨by simp (decide := true) (disch := omega) only [go_sem, ↓reduceIte, ↓put_at], ?_⟩
    (repeat' ((first | refine sp_ ?_ | exact ex0 | (refine ret_s [] ?_; simp (decide := true) (disch := omega) only [go_sem, ↓reduceIte, ↓put_at]))))
/-- The lanes that were gone through, and what is on them. -/
def someB (m : Bags) (s : List Nat) : Bags := s.filterMap fun i => m[i]?
theorem someB_snoc (m : Bags) (s : List Nat) (i : Nat) (p : Ln × List (List UInt8)) (h : m[i]? = some p) : someB m (s ++ [i]) = someB m s ++ [p] := by
  unfold someB
  rw [List.filterMap_append]
  simp [h]
theorem someB_mem {m : Bags} {s : List Nat} {p : Ln × List (List UInt8)} (h : p ∈ someB m s) : ∃ i ∈ s, m[i]? = some p := by
  unfold someB at h
  obtain ⟨i, hi, he⟩ := List.mem_filterMap.1 h
  exact ⟨i, hi, he⟩
theorem setB_new {l : Ln} {b : List (List UInt8)} : ∀ {m : Bags}, l ∉ m.map (·.1) → setB m l b = m ++ [(l, b)]
  | [], _ => rfl
  | q :: m, h => by
    simp only [List.map_cons, List.mem_cons, not_or] at h
    unfold setB
    rw [if_neg (fun e => h.1 e.symm), setB_new h.2]
    rfl
theorem someB_new {m : Bags} (hn : (m.map (·.1)).Nodup) {s : List Nat} {i : Nat} {p : Ln × List (List UInt8)} (h : m[i]? = some p) (hi : i ∉ s) : p.1 ∉ (someB m s).map (·.1) := fun hm => by
  obtain ⟨q, hq, he⟩ := List.mem_map.1 hm
  obtain ⟨j, hj, hjq⟩ := someB_mem hq
  have a1 : (m.map (·.1))[i]? = some p.1 := by rw [List.getElem?_map, h]; rfl
  have a2 : (m.map (·.1))[j]? = some p.1 := by rw [List.getElem?_map, hjq, ← he]; rfl
  have := nodup_inj hn a1 a2
  subst this
  exact hi hj
theorem someB_range : ∀ m : Bags, someB m (List.range m.length) = m
  | [] => rfl
  | q :: m => by
    have ih := someB_range m
    unfold someB at ih ⊢
    rw [List.length_cons, List.range_succ_eq_map, List.filterMap_cons, List.filterMap_map]
    show q :: List.filterMap (fun i => m[i]?) (List.range m.length) = q :: m
    rw [ih]
theorem someB_perm (m : Bags) {s : List Nat} (h1 : s.Nodup) (h2 : ∀ i ∈ s, i < m.length) (h3 : ∀ i, i < m.length → i ∈ s) : (someB m s).Perm m := by
  have hp : s.Perm (List.range m.length) := (List.perm_ext_iff_of_nodup h1 List.nodup_range).2 fun i => ⟨fun h => List.mem_range.2 (h2 i h), fun h => h3 i (List.mem_range.1 h)⟩
  have := hp.filterMap fun i => m[i]?
  have e := someB_range m
  unfold someB at e ⊢
  rwa [e] at this
def likeN (N N' : N28) : Prop := N' = { N with m := N'.m } ∧ N'.m.Perm N.m
abbrev netP (N : N28) : List CA := [.val (vi N.most), .val (vi N.bytes), .hd (.pm (kvB 9 N.m)), .val (vi N.sent), .val (vi N.lost), .val (vi N.taken), .val (vi N.twins), .val (vi N.turned), .val (vi N.forged)]
theorem kvB_perm {e : TypeId} : ∀ {m : Bags} {l : List (Value × T)}, l.Perm (kvB e m) → ∃ m' : Bags, l = kvB e m' ∧ m'.Perm m := by
  have key : ∀ {l l' : List (Value × T)}, l.Perm l' → ∀ m : Bags, l' = kvB e m → ∃ m' : Bags, l = kvB e m' ∧ m'.Perm m := by
    intro l l' h
    induction h with
    | nil => intro m hm; exact ⟨m, hm, List.Perm.refl _⟩
    | @cons x l1 l2 h ih =>
      intro m hm
      cases m with
      | nil => cases hm
      | cons q m =>
        have hm2 : x :: l2 = (lnV q.1, rowB e q.2) :: kvB e m := hm
        injection hm2 with e1 e2
        obtain ⟨m', h1, h2⟩ := ih m e2
        exact ⟨q :: m', by rw [h1, e1]; rfl, h2.cons _⟩
    | swap x y l =>
      intro m hm
      match m, hm with
      | q1 :: q2 :: m, hm =>
        have hm2 : x :: y :: l = (lnV q1.1, rowB e q1.2) :: (lnV q2.1, rowB e q2.2) :: kvB e m := hm
        injection hm2 with e1 e2
        injection e2 with e2 e3
        exact ⟨q2 :: q1 :: m, by rw [e1, e2, e3]; rfl, List.Perm.swap ..⟩
    | trans h1 h2 ih1 ih2 =>
      intro m hm
      obtain ⟨m2, a1, a2⟩ := ih2 m hm
      obtain ⟨m1, b1, b2⟩ := ih1 m2 a1
      exact ⟨m1, b1, b2.trans a2⟩
  intro m l h
  exact key h m rfl
set_option maxRecDepth 100000 in
set_option maxHeartbeats 8000000 in
theorem net_clone (N : N28) {K : Int} (h : N.Ok K) : Spec Try.prog 9 [.ptr 0 0] [netO N] (.ptr 1 0) [netO N, netP N] := by
  have hm := h.most
  have hby := h.bytes
  have cn := net_new N.most N.bytes
  rw [show newB N.most N.bytes = ⟨N.most, N.bytes, [], 0, 0, 0, 0, 0, 0⟩ by unfold newB; congr 1; omega; omega] at cn
  have hnd := h.nd
  have hbs : ∀ p ∈ N.m, p.2.length ≤ 1024 := fun p hp => by have := (h.bags p hp).2.2.1; omega
  clear h
  refine spec_of Try.func9 rfl Try.ntmps9 Try.results9 ⟨by decide, by simp⟩ fun C hC => ?_
  (repeat' ((fail_if_success (refine stop_reg 4 ?_)); (first | refine sp_ ?_ | exact ex0 | refine call_u Try.call5 (cn) [] ex1 ?_ | (refine ret_s [] ?_; simp (decide := true) (disch := omega) only [go_sem, ↓reduceIte, ↓put_at]))))
  refine loop_s (α := {s : List Nat // s.Nodup ∧ ∀ i ∈ s, i < N.m.length}) (fun s => [(.o (1000, 0), .num 9), (.c (1000, 0) 0, .av (.val (vi N.most))), (.c (1000, 0) 1, .av (.val (vi N.bytes))), (.c (1000, 0) 2, .av (.ref (1000, 3) 0)), (.c (1000, 0) 3, .av (.val (vi N.sent))), (.c (1000, 0) 4, .av (.val (vi N.lost))), (.c (1000, 0) 5, .av (.val (vi N.taken))), (.c (1000, 0) 6, .av (.val (vi N.twins))), (.c (1000, 0) 7, .av (.val (vi N.turned))), (.c (1000, 0) 8, .av (.val (vi N.forged))), (.r (1000, 3), .tree (.mp (kvB 9 N.m))), (.s 0, .av (.ptr (1000, 0) 0 0)), (.o (10, 0), .num 9), (.c (10, 0) 0, .av (.val (vi N.most))), (.c (10, 0) 1, .av (.val (vi N.bytes))), (.c (10, 0) 2, .av (.ref (10, 3) 0)), (.c (10, 0) 3, .av (.val (vi N.sent))), (.c (10, 0) 4, .av (.val (vi N.lost))), (.c (10, 0) 5, .av (.val (vi N.taken))), (.c (10, 0) 6, .av (.val (vi N.twins))), (.c (10, 0) 7, .av (.val (vi N.turned))), (.c (10, 0) 8, .av (.val (vi N.forged))), (.r (10, 3), .tree (.mp (kvB 9 (someB N.m s.1)))), (.s 3, .av (.ptr (10, 0) 0 0)), (.o (22, 0), .itr (1000, 3) 0 s.1), (.s 22, .av (.ptr (22, 0) 0 0))]) (fun s => N.m.length - s.1.length) ⟨[], by simp, by simp⟩ ?_ (fun s => ?_)
  · rw [show someB N.m [] = [] from rfl]
    simp (decide := true) (disch := omega) only [go_sem, ↓reduceIte, ↓put_at]
  obtain ⟨s, hs1, hs2⟩ := s
  dsimp only at hs1 hs2 ⊢
  (repeat' ((first | refine sp_ ?_ | exact ex0 | (refine ret_s [] ?_; simp (decide := true) (disch := omega) only [go_sem, ↓reduceIte, ↓put_at]))))
  refine nxt_s (22, 0) (1000, 3) s (kvB 9 N.m) (by simp (decide := true) (disch := omega) only [go_sem, ↓reduceIte, ↓put_at]) (fun i q hq hi => ?_) (fun hall => ?_)
  · obtain ⟨p, hp⟩ : ∃ p, N.m[i]? = some p := by
      have : i < N.m.length := by have := (List.getElem?_eq_some_iff.1 hq).1; simpa [kvB] using this
      exact ⟨N.m[i], by simp [this]⟩
    have hil := (List.getElem?_eq_some_iff.1 hp).1
    have hq2 : q = (lnV p.1, rowB 9 p.2) := by
      unfold kvB at hq
      rw [List.getElem?_map, hp] at hq
      exact (Option.some.inj hq).symm
    subst hq2
    obtain ⟨l, b⟩ := p
    dsimp only at hq ⊢
    have hnd2 := nodup_snoc hs1 hi
    have hin2 : ∀ j ∈ s ++ [i], j < N.m.length := fun j hj => by
      rcases List.mem_append.1 hj with hj | hj
      · exact hs2 j hj
      · simp at hj; omega
    have hnew := nodup_len N.m.length (s ++ [i]) hnd2 hin2
    rw [List.length_append, List.length_singleton] at hnew
    have hbl := hbs _ (List.mem_of_getElem? hp)
    dsimp only at hbl
    have cc := sl_clone_str (b.map fun s => [vs s]) (by rw [List.length_map]; omega) (tx_len _) (tx_one _)
    have fl := tx_flat b
    have hset : kvSet (kvB 9 (someB N.m s)) (lnV l) (rowB 9 b) = kvB 9 (someB N.m (s ++ [i])) := by
      rw [kv_set, setB_new (someB_new hnd hp hi), someB_snoc _ _ _ _ hp]
    have hold : ∀ y, kvGet (kvB 9 (someB N.m s)) (lnV l) = some y → ∃ x, y = .av x := fun y hy => by
      rw [kv_get, getB_none (someB_new hnd hp hi)] at hy
      cases hy
    (repeat' ((fail_if_success (first | refine stop_at 5 ?_ | refine stop_l 5 ?_)); (first | refine sp_ ?_ | exact ex0 | (refine ret_s [] ?_; simp (decide := true) (disch := omega) only [go_sem, ↓reduceIte, ↓put_at]))))
    refine tkI_s (1000, 3) (27, 1) (kvB 9 N.m) i (lnV l) 9 1 (b.map fun s => [vs s]) hq (by simp (decide := true) (disch := omega) only [go_sem, ↓reduceIte, ↓put_at]) fun v => ?_
    obtain ⟨o1, o2, o3, o4, o5⟩ := kv_over (kvB_nodup 9 hnd) (a := .av (.sc v)) hq
    have hlast : (s ++ [i]).getLast? = some i := by simp
    generalize (kvB 9 N.m).set i (lnV l, .av (.sc v)) = M1 at *
    have g1 : (M1.map (·.1)).getD i undef = lnV l := by simp [List.getD_eq_getElem?_getD, o4]
    have g2 : (M1.map (·.2))[i]? = some (.av (.sc v)) := by simp [o4]
    (repeat' ((first | refine sp_ ?_ | exact ex0 | (refine ret_s [] ?_; simp (decide := true) (disch := omega) only [go_sem, ↓reduceIte, ↓put_at]))))
    simp only [hlast, g1, g2]
    (repeat' ((first | refine sp_ ?_ | exact ex0 | (refine ret_s [] ?_; simp (decide := true) (disch := omega) only [go_sem, ↓reduceIte, ↓put_at]))))
    refine stw_s (o := (4, 0)) (g := 1) (i := 0) (n := 2) (u0 := .int .i64 l.1) (u1 := .int .i64 l.2) ti69 ⟨rfl, rfl⟩ (by simp (decide := true) (disch := omega) only [go_sem, ↓reduceIte, ↓put_at]) (by show _ = AV.val (.sc (lnV l)); simp (decide := true) (disch := omega) only [go_sem, ↓reduceIte, ↓put_at]) (by simp (decide := true) (disch := omega) only [go_sem, ↓reduceIte, ↓put_at]) (by simp (decide := true) (disch := omega) only [go_sem, ↓reduceIte, ↓put_at]) ?_
    (repeat' ((fail_if_success (first | refine stop_at 6 ?_ | refine stop_l 6 ?_)); (first | refine sp_ ?_ | exact ex0 | (refine ret_s [] ?_; simp (decide := true) (disch := omega) only [go_sem, ↓reduceIte, ↓put_at]))))
    refine snp_s 5 (1000, 3) (27, 1) M1 i (lnV l) v o4 ⟨by rw [hC]; simp (decide := true) (disch := omega) only [go_sem, ↓reduceIte, ↓put_at], ?_⟩
    refine post_s ?_
    (repeat' ((first | refine sp_ ?_ | exact ex0 | refine pcallT_u Try.call30 (cc) (fl) ex1 ?_ | (refine ret_s [] ?_; simp (decide := true) (disch := omega) only [go_sem, ↓reduceIte, ↓put_at]))))
    refine upR_s (.inr rfl) (10, 3) (34, 1) (kvB 9 (someB N.m s)) (kvB 9 (someB N.m (s ++ [i]))) (lnV l) (lnE l) 9 1 (b.map fun s => [vs s]) _ _ ln_map (by simp (decide := true) (disch := omega) only [go_sem, ↓reduceIte, ↓put_at]) (ln_val l) (ln_keys l _) hold (by decide) hset ?_
    (repeat' ((first | refine sp_ ?_ | exact ex0 | (refine ret_s [] ?_; simp (decide := true) (disch := omega) only [go_sem, ↓reduceIte, ↓put_at]))))
    refine bkL_s (1000, 3) (27, 1) M1 (kvB 9 N.m) i (lnV l) (.sc v) 9 1 (b.map fun s => [vs s]) o4 o3 ⟨by simp (decide := true) (disch := omega) only [go_sem, ↓reduceIte, ↓put_at], ?_⟩
    (repeat' ((first | refine sp_ ?_ | exact ex0 | (refine ret_s [] ?_; simp (decide := true) (disch := omega) only [go_sem, ↓reduceIte, ↓put_at]))))
    refine next_s ⟨s ++ [i], hnd2, hin2⟩ ⟨?_, by dsimp only; rw [List.length_append, List.length_singleton]; omega⟩
    simp (decide := true) (disch := omega) only [go_sem, ↓reduceIte, ↓put_at]
  · have hperm := someB_perm N.m hs1 hs2 (fun i hi => hall i (by simpa [kvB] using hi))
    (repeat' ((fail_if_success (refine stop_ret ?_)); (first | refine sp_ ?_ | exact ex0 | (refine ret_s [] ?_; simp (decide := true) (disch := omega) only [go_sem, ↓reduceIte, ↓put_at]))))
    refine clm_s (10, 3) (kvB 9 (someB N.m s)) (kvB 9 N.m) (hperm.map _) ?_
    simp (decide := true) (disch := omega) only [go_sem, ↓reduceIte, ↓put_at]
    (repeat' ((first | refine sp_ ?_ | exact ex0 | (refine ret_s [(10, 0)] ?_; simp (decide := true) (disch := omega) only [go_sem, ↓reduceIte, ↓put_at]))))
end Go.Proofs.Ytdkgnlmojmafbaa
