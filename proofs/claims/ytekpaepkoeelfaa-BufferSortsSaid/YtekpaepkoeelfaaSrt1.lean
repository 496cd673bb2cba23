
/- The statement BufferSorts of layer 24, walked. -/
import Derived.Test.YtekpaepkoeelfaaSrtM
import Derived.Test.YtekpaepkoeelfaaSeeU
namespace Go.Proofs.Ytekpaepkoeelfaa
open Go.RowKit
set_option linter.unusedVariables false
set_option linter.unusedSimpArgs false

attribute [go_sem] srtB
theorem byte_el (t : Nat) : byteEl (UInt8.ofNat t) = [.sc (.int .u8 (IntKind.u8.wrap t))] := by
  unfold byteEl
  rw [show (UInt8.ofNat t).toNat = t % 256 from rfl, IntKind.wrap_u8]
  simp
theorem srt_nil (now : Int) : SrtI now [] [] := ⟨(fun f h => by cases h), List.Pairwise.nil, rfl, (fun t => by simp), List.nodup_nil⟩
section
variable {P : Program} {ops : Array Oper} {C : Ctx} {md : Bool} {σ : St} {K : St → List FP → Prop} {acc : List FP} {rest : List Oper}
/-- string(b) behind a guard. -/
theorem gconvBS_s {j : Nat} {g : Bool} {d : Tmp} {s t : TypeId} {x : Operand} {ty : TypeId} {pos : String} {af : Array Edge} (l : List UInt8)
    (hd : ((ops[j]?).bind (·.dst)).isSome = true ∧ σ (.s (gslot ops j)) = .av (.val (.sc (.bool g)))) (h : elsOf (ev σ x) = some (l.map byteEl)) (hl : isSliceA (ev σ x) = true)
    (hc : (tiOf P s).map (·.sh) = some .slice ∧ ((tiOf P s).bind fun T => tiOf P T.elem).map (·.sh) = some (.int .u8) ∧ (tiOf P t).map (·.sh) = some .str)
    (k : exec P ops C md K rest (put σ (.s d) (.av (.val (.sc (str l))))) ((.s (gslot ops j) :: rdl x, [.s d]) :: acc)) : Run P ops C md K (⟨some d, .convert s t x, ty, pos, af, some (j, g)⟩ :: rest) σ acc :=
  run_cons (ok_guard hd.1 hd.2 (ok_convBS h hl _ _ _ rfl hc ops ty pos af)) (exec_run k)
end

set_option maxRecDepth 100000 in
set_option maxHeartbeats 8000000 in
theorem sorts24 (ts : List Nat) (n : Int) (hl : ts.length ≤ maxLen) (ht : ∀ t ∈ ts, t < 4294967296) : Spec Try.prog 3 [.ca (.val (.lst 1 (ts.map fun t : Nat => [vu t]))), .ca (.val (vi n))] [] (.ca (.val (vb true))) [] := by
  unfold maxLen at hl
  have c0 := awake24
  have c1 := buf_new 100 100 1000
  have hb0 : newB24 100 100 1000 = srtB [] := by kernel_rfl
  rw [hb0] at c1
  have hm := i64_and65535 n
  have hm0 : 0 ≤ n % 65536 := by omega
  have hm1 : n % 65536 ≤ 65535 := by omega
  refine spec_of Try.func3 rfl Try.ntmps3 Try.results3 ⟨by decide, by simp⟩ fun C hC => ?_
  (repeat' ((fail_if_success (refine stop_reg 9 ?_)); (first | refine sp_ ?_ | exact ex0 | refine call_u Try.call7 (c0) [] ex1 ?_ | refine call_u Try.call8 (c1) [] ex1 ?_ | refine pnil_u (by first | exact .inl rfl | exact .inr rfl) (by simp (decide := true) (disch := omega) only [go_sem, ↓reduceIte, ↓put_at]; first | done | assumption | omega) ?_ | (refine ret_s [] ?_; simp (decide := true) (disch := omega) only [go_sem, ↓reduceIte, ↓put_at]))))
  (try simp only [hm])
  generalize n % 65536 = now at *
  refine meetB_s (α := {x : List Fr × List Nat // x.2.length ≤ 40 ∧ SrtI now x.1 x.2}) (fun x => [(.o (18, 0), .num 11), (.c (18, 0) 0, .av (.val (vi 100))), (.c (18, 0) 1, .av (.val (vi 100))), (.c (18, 0) 2, .av (.val (vi 1000))), (.c (18, 0) 3, .av (.val (vi x.1.1.length))), (.c (18, 0) 4, .av (.val (vi (pkts x.1.1)))), (.c (18, 0) 5, .av (.val (vi (bts x.1.1)))), (.c (18, 0) 6, .av (.ref (18, 7) 0)), (.c (18, 0) 7, .av (.val (vi (-1)))), (.c (18, 0) 8, .av (.val (vi 0))), (.c (18, 0) 9, .av (.val (vi 0))), (.c (18, 0) 10, .av (.val (vi 0))), (.r (18, 7), .tree (.row 66 1 (x.1.1.map fun f => [T.box (frT f)]))), (.s 5, .av (.ptr (18, 0) 0 0)), (.s 1, .av (.val (vi now))), (.r (23, 1), .tree (.mp (seenU x.1.2))), (.s 6, .av (.ref (23, 1) 0))]) ?_ (fun x => ?_)
  · refine loop_s (α := {x : Nat × List Fr × List Nat // x.1 ≤ ts.length ∧ x.1 ≤ 40 ∧ x.2.2.length ≤ x.1 ∧ SrtI now x.2.1 x.2.2}) (fun x => [(.o (18, 0), .num 11), (.c (18, 0) 0, .av (.val (vi 100))), (.c (18, 0) 1, .av (.val (vi 100))), (.c (18, 0) 2, .av (.val (vi 1000))), (.c (18, 0) 3, .av (.val (vi x.1.2.1.length))), (.c (18, 0) 4, .av (.val (vi (pkts x.1.2.1)))), (.c (18, 0) 5, .av (.val (vi (bts x.1.2.1)))), (.c (18, 0) 6, .av (.ref (18, 7) 0)), (.c (18, 0) 7, .av (.val (vi (-1)))), (.c (18, 0) 8, .av (.val (vi 0))), (.c (18, 0) 9, .av (.val (vi 0))), (.c (18, 0) 10, .av (.val (vi 0))), (.r (18, 7), .tree (.row 66 1 (x.1.2.1.map fun f => [T.box (frT f)]))), (.s 5, .av (.ptr (18, 0) 0 0)), (.s 0, .av (.val (.lst 1 (ts.map fun t : Nat => [vu t])))), (.s 1, .av (.val (vi now))), (.r (23, 1), .tree (.mp (seenU x.1.2.2))), (.s 6, .av (.ref (23, 1) 0)), (.s 7, .av (.val (vi x.1.1)))]) (fun x => ts.length - x.1.1) ⟨(0, [], []), Nat.zero_le _, by omega, Nat.le_refl _, srt_nil now⟩ ?_ (fun x => ?_)
    · rw [show seenU [] = [] from rfl]
      simp (decide := true) (disch := omega) only [go_sem, ↓reduceIte, ↓put_at]
    obtain ⟨⟨i, l, s⟩, h1, h2, h3, h4⟩ := x
    dsimp only at h1 h2 h3 h4 ⊢
    by_cases hlt : i < ts.length ∧ i < 40
    · obtain ⟨hlt, hlt2⟩ := hlt
      have hltz : (i : Int) < ts.length := by omega
      have h32 := ht _ (List.getElem_mem hlt)
      have hbe := byte_el ts[i]
      have hget := seenU_get s ts[i]
      have h5 := srt_ok h4 (by omega) hm0 (by omega)
      have cput := buf_put h5 (by omega) ts[i] 0 1 [UInt8.ofNat ts[i]] now h32 (by simp) (by omega) (by omega)
      by_cases hs : ts[i] ∈ s
      · rw [srt_put_in h4 (by omega) hs] at cput
        rw [if_pos hs] at hget
        dsimp only at cput
        (repeat' ((first | refine sp_ ?_ | exact ex0 | (refine ret_s [] ?_; simp (decide := true) (disch := omega) only [go_sem, ↓reduceIte, ↓put_at]))))
        refine convBS_s [UInt8.ofNat ts[i]] (by simp (decide := true) (disch := omega) only [go_sem, ↓reduceIte, ↓put_at]; rw [hbe]) (by simp (decide := true) (disch := omega) only [go_sem, ↓reduceIte, ↓put_at]) (by simp (decide := true) (disch := omega) only [go_sem, ↓reduceIte, ↓put_at]) ?_
        (repeat' ((first | refine sp_ ?_ | exact ex0 | refine call_u Try.call9 (cput) [(18, 0)] ex1 ?_ | (refine ret_s [] ?_; simp (decide := true) (disch := omega) only [go_sem, ↓reduceIte, ↓put_at]))))
        (try simp only [hget])
        (repeat' ((first | refine sp_ ?_ | exact ex0 | (refine ret_s [] ?_; simp (decide := true) (disch := omega) only [go_sem, ↓reduceIte, ↓put_at]))))
        (try simp only [hget])
        (repeat' ((first | refine sp_ ?_ | exact ex0 | (refine ret_s [] ?_; simp (decide := true) (disch := omega) only [go_sem, ↓reduceIte, ↓put_at]))))
        rw [if_pos hs]
        refine next_s (α := {x : Nat × List Fr × List Nat // x.1 ≤ ts.length ∧ x.1 ≤ 40 ∧ x.2.2.length ≤ x.1 ∧ SrtI now x.2.1 x.2.2}) ⟨(i + 1, l, s), hlt, by omega, by dsimp only; omega, h4⟩ ⟨?_, by (try dsimp only); omega⟩
        (try dsimp only)
        simp (decide := true) (disch := omega) only [go_sem, ↓reduceIte, ↓put_at]
      · obtain ⟨p1, p2⟩ := srt_put_new h4 (by omega) hs h32
        rw [p1] at cput
        rw [if_neg hs] at hget
        dsimp only at cput
        generalize l.take (atF l ts[i]) ++ sfr now ts[i] :: l.drop (atF l ts[i]) = l2 at *
        (repeat' ((first | refine sp_ ?_ | exact ex0 | (refine ret_s [] ?_; simp (decide := true) (disch := omega) only [go_sem, ↓reduceIte, ↓put_at]))))
        refine convBS_s [UInt8.ofNat ts[i]] (by simp (decide := true) (disch := omega) only [go_sem, ↓reduceIte, ↓put_at]; rw [hbe]) (by simp (decide := true) (disch := omega) only [go_sem, ↓reduceIte, ↓put_at]) (by simp (decide := true) (disch := omega) only [go_sem, ↓reduceIte, ↓put_at]) ?_
        (repeat' ((first | refine sp_ ?_ | exact ex0 | refine call_u Try.call9 (cput) [(18, 0)] ex1 ?_ | (refine ret_s [] ?_; simp (decide := true) (disch := omega) only [go_sem, ↓reduceIte, ↓put_at]))))
        (try simp only [hget])
        (repeat' ((first | refine sp_ ?_ | exact ex0 | (refine ret_s [] ?_; simp (decide := true) (disch := omega) only [go_sem, ↓reduceIte, ↓put_at]))))
        (try simp only [hget])
        (repeat' ((first | refine sp_ ?_ | exact ex0 | (refine ret_s [] ?_; simp (decide := true) (disch := omega) only [go_sem, ↓reduceIte, ↓put_at]))))
        rw [if_neg hs]
        refine next_s (α := {x : Nat × List Fr × List Nat // x.1 ≤ ts.length ∧ x.1 ≤ 40 ∧ x.2.2.length ≤ x.1 ∧ SrtI now x.2.1 x.2.2}) ⟨(i + 1, l2, s ++ [ts[i]]), hlt, by omega, by dsimp only; rw [List.length_append]; simp; omega, p2⟩ ⟨?_, by (try dsimp only); omega⟩
        (try dsimp only)
        simp (decide := true) (disch := omega) only [go_sem, ↓reduceIte, ↓put_at]
    · rcases Nat.lt_or_ge i 40 with h | h
      · have hge : (ts.length : Int) ≤ i := by omega
        (repeat' ((first | refine sp_ ?_ | exact ex0 | (refine ret_s [] ?_; simp (decide := true) (disch := omega) only [go_sem, ↓reduceIte, ↓put_at]))))
        refine at_meet ⟨(l, s), by dsimp only; omega, h4⟩ ?_
        simp (decide := true) (disch := omega) only [go_sem, ↓reduceIte, ↓put_at]
      · have hge : (40 : Int) ≤ i := by omega
        by_cases hi : (i : Int) < ts.length
        · (repeat' ((first | refine sp_ ?_ | exact ex0 | (refine ret_s [] ?_; simp (decide := true) (disch := omega) only [go_sem, ↓reduceIte, ↓put_at]))))
          refine at_meet ⟨(l, s), by dsimp only; omega, h4⟩ ?_
          simp (decide := true) (disch := omega) only [go_sem, ↓reduceIte, ↓put_at]
        · (repeat' ((first | refine sp_ ?_ | exact ex0 | (refine ret_s [] ?_; simp (decide := true) (disch := omega) only [go_sem, ↓reduceIte, ↓put_at]))))
          refine at_meet ⟨(l, s), by dsimp only; omega, h4⟩ ?_
          simp (decide := true) (disch := omega) only [go_sem, ↓reduceIte, ↓put_at]
  obtain ⟨⟨l, s⟩, h3, h4⟩ := x
  dsimp only at h3 h4 ⊢
  have h5 := srt_ok h4 (by omega) hm0 (by omega)
  have p1 := buf_play (srtB l) (now + 4) 5 9 (play_prog h5 (by omega)) (by omega) (by omega) (by omega)
  have p2 := buf_play (srtB l) (now + 5) 5 9 (play_prog h5 (by omega)) (by omega) (by omega) (by omega)
  rw [srt_early h4] at p1
  obtain ⟨b', e1, e2⟩ := srt_late h4
  rw [e1] at p2
  dsimp only at p1 p2
  have hln := h4.ln
  have cl := buf_len b'
  rw [e2] at cl
  have hget : ∀ k (h : k < l.length), (List.map plE (List.map (fun f : Fr => (f.tm, [UInt8.ofNat f.tm])) l)).getD k [] = [vu l[k].tm, vs [UInt8.ofNat l[k].tm]] := fun k h => by
    rw [List.map_map, List.getD_eq_getElem?_getD, List.getElem?_map, List.getElem?_eq_getElem h]; rfl
  have hLl : (List.map plE (List.map (fun f : Fr => (f.tm, [UInt8.ofNat f.tm])) l)).length = l.length := by simp
  generalize List.map plE (List.map (fun f : Fr => (f.tm, [UInt8.ofNat f.tm])) l) = LE at *
  (repeat' ((fail_if_success (refine stop_reg 20 ?_)); (first | refine sp_ ?_ | exact ex0 | refine call_u Try.call10 (p1) [(18, 0)] ex1 ?_ | refine call_u Try.call10 (p2) [(18, 0)] ex1 ?_ | (refine ret_s [] ?_; simp (decide := true) (disch := omega) only [go_sem, ↓reduceIte, ↓put_at]))))
  refine loop_s (α := {i : Nat // i ≤ LE.length}) (fun i => bufI 18 b' ++ [(.s 5, .av (.ptr (18, 0) 0 0)), (.r (23, 1), .tree (.mp (seenU s))), (.s 6, .av (.ref (23, 1) 0)), (.s 11, .av (.val (.lst 2 LE))), (.s 107, .av (.val (.lst 2 LE))), (.s 108, .av (.val (vi LE.length))), (.s 109, .av (.val (vi i.1)))]) (fun i => LE.length - i.1) ⟨0, by omega⟩ ?_ (fun i => ?_)
  · simp (decide := true) (disch := omega) only [go_sem, ↓reduceIte, ↓put_at]
  obtain ⟨i, hi⟩ := i
  dsimp only
  by_cases hlt : i < l.length
  · have hgi := hget i hlt
    have hltz : (i : Int) < LE.length := by omega
    have hsm := (h4.mm l[i].tm).1 ⟨l[i], List.getElem_mem hlt, rfl⟩
    have hbe2 := byte_el l[i].tm
    have hget2 := seenU_get s l[i].tm
    rw [if_pos hsm] at hget2
    (repeat' ((first | refine sp_ ?_ | exact ex0 | (refine ret_s [] ?_; simp (decide := true) (disch := omega) only [go_sem, ↓reduceIte, ↓put_at]))))
    (try simp only [hgi])
    (repeat' ((first | refine sp_ ?_ | exact ex0 | (refine ret_s [] ?_; simp (decide := true) (disch := omega) only [go_sem, ↓reduceIte, ↓put_at]))))
    (try simp only [hget2])
    (repeat' ((first | refine sp_ ?_ | exact ex0 | (refine ret_s [] ?_; simp (decide := true) (disch := omega) only [go_sem, ↓reduceIte, ↓put_at]))))
    refine gconvBS_s [UInt8.ofNat l[i].tm] (by simp (decide := true) (disch := omega) only [go_sem, ↓reduceIte, ↓put_at]) (by simp (decide := true) (disch := omega) only [go_sem, ↓reduceIte, ↓put_at]; rw [hbe2]) (by simp (decide := true) (disch := omega) only [go_sem, ↓reduceIte, ↓put_at]) (by simp (decide := true) (disch := omega) only [go_sem, ↓reduceIte, ↓put_at]) ?_
    rcases Nat.eq_zero_or_pos i with h0 | h0
    · subst h0
      (repeat' ((first | refine sp_ ?_ | exact ex0 | (refine ret_s [] ?_; simp (decide := true) (disch := omega) only [go_sem, ↓reduceIte, ↓put_at]))))
      refine next_s (α := {i : Nat // i ≤ LE.length}) ⟨1, by omega⟩ ⟨?_, by (try dsimp only); omega⟩
      (try dsimp only)
      simp (decide := true) (disch := omega) only [go_sem, ↓reduceIte, ↓put_at]
    · obtain ⟨k, hik⟩ : ∃ k : Nat, i = k + 1 := ⟨i - 1, by omega⟩
      have hgk := hget k (by omega)
      have hlt2 := List.pairwise_iff_getElem.1 h4.so k i (by omega) hlt (by omega)
      have hkz : 0 < (i : Int) := by omega
      have hkt : ((i : Int) - 1).toNat = k := by omega
      have hgk2 : LE.getD ((i : Int) - 1).toNat [] = [vu l[k].tm, vs [UInt8.ofNat l[k].tm]] := by rw [hkt]; exact hgk
      simp (decide := true) (disch := omega) only [go_sem, hgk2, ↓reduceIte, ↓put_at]
      (repeat' ((first | refine sp_ ?_ | exact ex0 | (refine ret_s [] ?_; simp (decide := true) (disch := omega) only [go_sem, ↓reduceIte, ↓put_at]))))
      refine next_s (α := {i : Nat // i ≤ LE.length}) ⟨i + 1, by omega⟩ ⟨?_, by (try dsimp only); omega⟩
      (try dsimp only)
      simp (decide := true) (disch := omega) only [go_sem, ↓reduceIte, ↓put_at]
  · obtain rfl : i = LE.length := by omega
    (repeat' ((first | refine sp_ ?_ | exact ex0 | refine call_u Try.call11 (cl) [(18, 0)] ex1 ?_ | (refine ret_s [] ?_; simp (decide := true) (disch := omega) only [go_sem, ↓reduceIte, ↓put_at]))))
    skip
end Go.Proofs.Ytekpaepkoeelfaa
