
/- Package net: what one does with it; walked. -/
import Derived.Test.YtdkgnlmojmafbaaNet2
namespace Go.Proofs.Ytdkgnlmojmafbaa
open Go.RowKit
set_option linter.unusedVariables false
set_option linter.unusedSimpArgs false

def sendB (N : N28) (l : Ln) (s : List UInt8) : N28 := if canB N l s = true then { putB N l s with sent := (putB N l s).sent + 1 } else { putB N l s with lost := (putB N l s).lost + 1 }
def forgeB (N : N28) (l : Ln) (s : List UInt8) : N28 := if canB N l s = true then { putB N l s with forged := (putB N l s).forged + 1 } else { putB N l s with lost := (putB N l s).lost + 1 }
def takeB (N : N28) (l : Ln) (i : Int) : N28 := if isB N l i = true then { cutB N l i with taken := (cutB N l i).taken + 1 } else cutB N l i
def loseB (N : N28) (l : Ln) (i : Int) : N28 := if isB N l i = true then { cutB N l i with lost := (cutB N l i).lost + 1 } else cutB N l i
def twinOk (N : N28) (l : Ln) (i : Int) : Bool := isB N l i && canB N l (atB N l i)
def twinB (N : N28) (l : Ln) (i : Int) : N28 := if twinOk N l i = true then { putB N l (atB N l i) with twins := (putB N l (atB N l i)).twins + 1 } else N
theorem Ok.sent {N : N28} {K : Int} (h : N.Ok K) : ({ N with sent := N.sent + 1 } : N28).Ok (K + 1) := by
  have g := h.mono (K' := K + 1) (by omega)
  exact ⟨g.most, g.bytes, g.nd, g.bags, ⟨by have := h.c1; dsimp only; omega, by have := h.c1; dsimp only; omega⟩, g.c2, g.c3, g.c4, g.c5, g.c6⟩
theorem Ok.lost {N : N28} {K : Int} (h : N.Ok K) : ({ N with lost := N.lost + 1 } : N28).Ok (K + 1) := by
  have g := h.mono (K' := K + 1) (by omega)
  exact ⟨g.most, g.bytes, g.nd, g.bags, g.c1, ⟨by have := h.c2; dsimp only; omega, by have := h.c2; dsimp only; omega⟩, g.c3, g.c4, g.c5, g.c6⟩
theorem Ok.taken {N : N28} {K : Int} (h : N.Ok K) : ({ N with taken := N.taken + 1 } : N28).Ok (K + 1) := by
  have g := h.mono (K' := K + 1) (by omega)
  exact ⟨g.most, g.bytes, g.nd, g.bags, g.c1, g.c2, ⟨by have := h.c3; dsimp only; omega, by have := h.c3; dsimp only; omega⟩, g.c4, g.c5, g.c6⟩
theorem Ok.twins {N : N28} {K : Int} (h : N.Ok K) : ({ N with twins := N.twins + 1 } : N28).Ok (K + 1) := by
  have g := h.mono (K' := K + 1) (by omega)
  exact ⟨g.most, g.bytes, g.nd, g.bags, g.c1, g.c2, g.c3, ⟨by have := h.c4; dsimp only; omega, by have := h.c4; dsimp only; omega⟩, g.c5, g.c6⟩
theorem Ok.turned {N : N28} {K : Int} (h : N.Ok K) : ({ N with turned := N.turned + 1 } : N28).Ok (K + 1) := by
  have g := h.mono (K' := K + 1) (by omega)
  exact ⟨g.most, g.bytes, g.nd, g.bags, g.c1, g.c2, g.c3, g.c4, ⟨by have := h.c5; dsimp only; omega, by have := h.c5; dsimp only; omega⟩, g.c6⟩
theorem Ok.forged {N : N28} {K : Int} (h : N.Ok K) : ({ N with forged := N.forged + 1 } : N28).Ok (K + 1) := by
  have g := h.mono (K' := K + 1) (by omega)
  exact ⟨g.most, g.bytes, g.nd, g.bags, g.c1, g.c2, g.c3, g.c4, g.c5, ⟨by have := h.c6; dsimp only; omega, by have := h.c6; dsimp only; omega⟩⟩
theorem send_ok {N : N28} {K : Int} (h : N.Ok K) (l : Ln) (s : List UInt8) : (sendB N l s).Ok (K + 1) := by
  unfold sendB
  split
  · exact Ok.sent (put_ok h l s)
  · exact Ok.lost (put_ok h l s)
theorem forge_ok {N : N28} {K : Int} (h : N.Ok K) (l : Ln) (s : List UInt8) : (forgeB N l s).Ok (K + 1) := by
  unfold forgeB
  split
  · exact Ok.forged (put_ok h l s)
  · exact Ok.lost (put_ok h l s)
theorem take_ok {N : N28} {K : Int} (h : N.Ok K) (l : Ln) (i : Int) : (takeB N l i).Ok (K + 1) := by
  unfold takeB
  split
  · exact Ok.taken (cut_ok h l i)
  · exact (cut_ok h l i).mono (by omega)
theorem lose_ok {N : N28} {K : Int} (h : N.Ok K) (l : Ln) (i : Int) : (loseB N l i).Ok (K + 1) := by
  unfold loseB
  split
  · exact Ok.lost (cut_ok h l i)
  · exact (cut_ok h l i).mono (by omega)
theorem twin_ok {N : N28} {K : Int} (h : N.Ok K) (l : Ln) (i : Int) : (twinB N l i).Ok (K + 1) := by
  unfold twinB
  split
  · exact Ok.twins (put_ok h l _)
  · exact h.mono (by omega)
set_option maxRecDepth 100000 in
set_option maxHeartbeats 8000000 in
theorem net_count2 (b : Bool) (N : N28) {K : Int} (h : N.Ok K) (hK : K ≤ 1099511627776) : Spec Try.prog 31 [.ca (.val (vb b)), .ptr 0 8, .ptr 0 4] [netO N] (.ca (.val (vb b))) [netO (if b = true then { N with forged := N.forged + 1 } else { N with lost := N.lost + 1 })] := by
  have h1 := h.c6
  have h2 := h.c2
  obtain ⟨a1, a2, a3, a4, a5, a6, a7, a8, a9⟩ := N
  dsimp only at h1 h2
  cases b with
  | true =>
    rw [if_pos rfl]
    dsimp only
    refine spec_of Try.func31 rfl Try.ntmps31 Try.results31 ⟨by decide, by simp⟩ fun C hC => ?_
    (repeat' ((first | refine sp_ ?_ | exact ex0 | (refine ret_s [] ?_; simp (decide := true) (disch := omega) only [go_sem, ↓reduceIte, ↓put_at]))))
  | false =>
    rw [if_neg (by decide)]
    dsimp only
    refine spec_of Try.func31 rfl Try.ntmps31 Try.results31 ⟨by decide, by simp⟩ fun C hC => ?_
    (repeat' ((first | refine sp_ ?_ | exact ex0 | (refine ret_s [] ?_; simp (decide := true) (disch := omega) only [go_sem, ↓reduceIte, ↓put_at]))))
set_option maxRecDepth 100000 in
set_option maxHeartbeats 8000000 in
theorem net_send (N : N28) (l : Ln) (s : List UInt8) {K : Int} (h : N.Ok K) (hK : K ≤ 1099511627776) (hs : s.length ≤ 1099511627776) : Spec Try.prog 11 [.ptr 0 0, .ca (.val (vi l.1)), .ca (.val (vi l.2)), .ca (.val (vs s))] [netO N] (.ca (.val (vb (canB N l s)))) [netO (sendB N l s)] := by
  have c1 := net_put N l s h hs
  have c2 := net_count1 (canB N l s) (putB N l s) (put_ok h l s) hK
  unfold sendB
  clear h
  generalize putB N l s = N1 at *
  generalize canB N l s = b at *
  cases b with
  | true =>
    rw [if_pos rfl] at c2 ⊢
    refine spec_of Try.func11 rfl Try.ntmps11 Try.results11 ⟨by decide, by simp⟩ fun C hC => ?_
    (repeat' ((first | refine sp_ ?_ | exact ex0 | refine callG_u Try.call32 (c1) [(1000, 0)] ex1 ex1 ?_ | refine call_u Try.call31 (c2) [(1000, 0)] ex1 ?_ | (refine ret_s [] ?_; simp (decide := true) (disch := omega) only [go_sem, ↓reduceIte, ↓put_at]))))
  | false =>
    rw [if_neg (by decide)] at c2 ⊢
    refine spec_of Try.func11 rfl Try.ntmps11 Try.results11 ⟨by decide, by simp⟩ fun C hC => ?_
    (repeat' ((first | refine sp_ ?_ | exact ex0 | refine callG_u Try.call32 (c1) [(1000, 0)] ex1 ex1 ?_ | refine call_u Try.call31 (c2) [(1000, 0)] ex1 ?_ | (refine ret_s [] ?_; simp (decide := true) (disch := omega) only [go_sem, ↓reduceIte, ↓put_at]))))
set_option maxRecDepth 100000 in
set_option maxHeartbeats 8000000 in
theorem net_forge (N : N28) (l : Ln) (s : List UInt8) {K : Int} (h : N.Ok K) (hK : K ≤ 1099511627776) (hs : s.length ≤ 1099511627776) : Spec Try.prog 24 [.ptr 0 0, .ca (.val (vi l.1)), .ca (.val (vi l.2)), .ca (.val (vs s))] [netO N] (.ca (.val (vb (canB N l s)))) [netO (forgeB N l s)] := by
  have c1 := net_put N l s h hs
  have c2 := net_count2 (canB N l s) (putB N l s) (put_ok h l s) hK
  unfold forgeB
  clear h
  generalize putB N l s = N1 at *
  generalize canB N l s = b at *
  cases b with
  | true =>
    rw [if_pos rfl] at c2 ⊢
    refine spec_of Try.func24 rfl Try.ntmps24 Try.results24 ⟨by decide, by simp⟩ fun C hC => ?_
    (repeat' ((first | refine sp_ ?_ | exact ex0 | refine callG_u Try.call32 (c1) [(1000, 0)] ex1 ex1 ?_ | refine call_u Try.call31 (c2) [(1000, 0)] ex1 ?_ | (refine ret_s [] ?_; simp (decide := true) (disch := omega) only [go_sem, ↓reduceIte, ↓put_at]))))
  | false =>
    rw [if_neg (by decide)] at c2 ⊢
    refine spec_of Try.func24 rfl Try.ntmps24 Try.results24 ⟨by decide, by simp⟩ fun C hC => ?_
    (repeat' ((first | refine sp_ ?_ | exact ex0 | refine callG_u Try.call32 (c1) [(1000, 0)] ex1 ex1 ?_ | refine call_u Try.call31 (c2) [(1000, 0)] ex1 ?_ | (refine ret_s [] ?_; simp (decide := true) (disch := omega) only [go_sem, ↓reduceIte, ↓put_at]))))
set_option maxRecDepth 100000 in
set_option maxHeartbeats 8000000 in
theorem net_take (N : N28) (l : Ln) (i : Int) {K : Int} (h : N.Ok K) (hK : K ≤ 1099511627776) : Spec Try.prog 13 [.ptr 0 0, .ca (.val (vi l.1)), .ca (.val (vi l.2)), .ca (.val (vi i))] [netO N] (.ca (.val (.tup [vs (atB N l i), vb (isB N l i)]))) [netO (takeB N l i)] := by
  have c1 := net_cut N l i h
  have hc := (cut_ok h l i).c3
  unfold takeB
  clear h
  generalize cutB N l i = N1 at *
  generalize isB N l i = b at *
  generalize atB N l i = s at *
  cases b with
  | true =>
    rw [if_pos rfl]
    refine spec_of Try.func13 rfl Try.ntmps13 Try.results13 ⟨by decide, by simp⟩ fun C hC => ?_
    (repeat' ((first | refine sp_ ?_ | exact ex0 | refine call_u Try.call34 (c1) [(1000, 0)] ex1 ?_ | (refine ret_s [] ?_; simp (decide := true) (disch := omega) only [go_sem, ↓reduceIte, ↓put_at]))))
  | false =>
    rw [if_neg (by decide)]
    refine spec_of Try.func13 rfl Try.ntmps13 Try.results13 ⟨by decide, by simp⟩ fun C hC => ?_
    (repeat' ((first | refine sp_ ?_ | exact ex0 | refine call_u Try.call34 (c1) [(1000, 0)] ex1 ?_ | (refine ret_s [] ?_; simp (decide := true) (disch := omega) only [go_sem, ↓reduceIte, ↓put_at]))))
set_option maxRecDepth 100000 in
set_option maxHeartbeats 8000000 in
theorem net_lose (N : N28) (l : Ln) (i : Int) {K : Int} (h : N.Ok K) (hK : K ≤ 1099511627776) : Spec Try.prog 19 [.ptr 0 0, .ca (.val (vi l.1)), .ca (.val (vi l.2)), .ca (.val (vi i))] [netO N] (.ca (.val (vb (isB N l i)))) [netO (loseB N l i)] := by
  have c1 := net_cut N l i h
  have hc := (cut_ok h l i).c2
  unfold loseB
  clear h
  generalize cutB N l i = N1 at *
  generalize isB N l i = b at *
  generalize atB N l i = s at *
  cases b with
  | true =>
    rw [if_pos rfl]
    refine spec_of Try.func19 rfl Try.ntmps19 Try.results19 ⟨by decide, by simp⟩ fun C hC => ?_
    (repeat' ((first | refine sp_ ?_ | exact ex0 | refine call_u Try.call34 (c1) [(1000, 0)] ex1 ?_ | (refine ret_s [] ?_; simp (decide := true) (disch := omega) only [go_sem, ↓reduceIte, ↓put_at]))))
  | false =>
    rw [if_neg (by decide)]
    refine spec_of Try.func19 rfl Try.ntmps19 Try.results19 ⟨by decide, by simp⟩ fun C hC => ?_
    (repeat' ((first | refine sp_ ?_ | exact ex0 | refine call_u Try.call34 (c1) [(1000, 0)] ex1 ?_ | (refine ret_s [] ?_; simp (decide := true) (disch := omega) only [go_sem, ↓reduceIte, ↓put_at]))))
theorem atB_len {N : N28} {K : Int} (h : N.Ok K) (l : Ln) (i : Int) : (atB N l i).length ≤ 16777216 := by
  unfold atB
  split
  · rename_i hi
    unfold isB at hi
    rw [decide_eq_true_eq] at hi
    have h1 := bagB_small h l
    have hlt : i.toNat < (bagB N.m l).length := by omega
    have h2 : (bagB N.m l).getD i.toNat [] = (bagB N.m l)[i.toNat] := by simp [hlt]
    have h3 := sumB_mem (List.getElem_mem hlt)
    have h4 := h.bytes
    rw [h2]
    omega
  · simp
set_option maxRecDepth 100000 in
set_option maxHeartbeats 8000000 in
theorem net_twin (N : N28) (l : Ln) (i : Int) {K : Int} (h : N.Ok K) (hK : K ≤ 1099511627776) : Spec Try.prog 12 [.ptr 0 0, .ca (.val (vi l.1)), .ca (.val (vi l.2)), .ca (.val (vi i))] [netO N] (.ca (.val (vb (twinOk N l i)))) [netO (twinB N l i)] := by
  have c1 := net_at N l i h
  have hl := atB_len h l i
  have c2 := net_put N l (atB N l i) h (by omega)
  have hc := (put_ok h l (atB N l i)).c4
  have hn : canB N l (atB N l i) = false → putB N l (atB N l i) = N := fun e => by unfold putB; rw [e, if_neg (by decide)]
  unfold twinB twinOk
  clear h
  generalize atB N l i = s at *
  generalize putB N l s = N1 at *
  generalize isB N l i = b at *
  generalize canB N l s = b2 at *
  cases b with
  | true =>
    cases b2 with
    | true =>
      rw [Bool.and_self, if_pos rfl]
      refine spec_of Try.func12 rfl Try.ntmps12 Try.results12 ⟨by decide, by simp⟩ fun C hC => ?_
      (repeat' ((first | refine sp_ ?_ | exact ex0 | refine call_u Try.call33 (c1) [(1000, 0)] ex1 ?_ | refine call_u Try.call32 (c2) [(1000, 0)] ex1 ?_ | (refine ret_s [] ?_; simp (decide := true) (disch := omega) only [go_sem, ↓reduceIte, ↓put_at]))))
    | false =>
      obtain rfl := hn rfl
      rw [Bool.and_false, if_neg (by decide)]
      refine spec_of Try.func12 rfl Try.ntmps12 Try.results12 ⟨by decide, by simp⟩ fun C hC => ?_
      (repeat' ((first | refine sp_ ?_ | exact ex0 | refine call_u Try.call33 (c1) [(1000, 0)] ex1 ?_ | refine call_u Try.call32 (c2) [(1000, 0)] ex1 ?_ | (refine ret_s [] ?_; simp (decide := true) (disch := omega) only [go_sem, ↓reduceIte, ↓put_at]))))
  | false =>
    rw [Bool.false_and, if_neg (by decide)]
    refine spec_of Try.func12 rfl Try.ntmps12 Try.results12 ⟨by decide, by simp⟩ fun C hC => ?_
    (repeat' ((first | refine sp_ ?_ | exact ex0 | refine call_u Try.call33 (c1) [(1000, 0)] ex1 ?_ | refine call_u Try.call32 (c2) [(1000, 0)] ex1 ?_ | (refine ret_s [] ?_; simp (decide := true) (disch := omega) only [go_sem, ↓reduceIte, ↓put_at]))))
set_option maxRecDepth 100000 in
set_option maxHeartbeats 8000000 in
theorem net_len (N : N28) (l : Ln) {K : Int} (h : N.Ok K) : Spec Try.prog 14 [.ptr 0 0, .ca (.val (vi l.1)), .ca (.val (vi l.2))] [netO N] (.ca (.val (vi (bagB N.m l).length))) [netO N] := by
  have hnd := h.nd
  clear h
  cases hg : getB N.m l with
  | none =>
    have hbag : bagB N.m l = [] := by unfold bagB; rw [hg]; rfl
    rw [hbag]
    refine spec_of Try.func14 rfl Try.ntmps14 Try.results14 ⟨by decide, by simp⟩ fun C hC => ?_
    (repeat' ((first | refine sp_ ?_ | exact ex0 | (refine ret_s [] ?_; simp (decide := true) (disch := omega) only [go_sem, ↓reduceIte, ↓put_at]))))
    refine lkS_s (1000, 3) (kvB 9 N.m) (lnV l) (.slice none 0 0) (lnE l) (.sc (.slice none 0 0)) _ _ ln_map (by simp (decide := true) (disch := omega) only [go_sem, ↓reduceIte, ↓put_at]) (ln_val l) (ln_keys l _) ln_zero (by rw [kv_get, hg]; rfl) ?_
    (repeat' ((first | refine sp_ ?_ | exact ex0 | (refine ret_s [] ?_; simp (decide := true) (disch := omega) only [go_sem, ↓reduceIte, ↓put_at]))))
  | some b =>
    obtain ⟨j, hj⟩ := getB_at 9 l b N.m hg
    have hbag : bagB N.m l = b := by unfold bagB; rw [hg]; rfl
    obtain ⟨o1, o2, o3, o4, o5⟩ := kv_over (kvB_nodup 9 hnd) (a := .av .any) hj
    rw [hbag]
    refine spec_of Try.func14 rfl Try.ntmps14 Try.results14 ⟨by decide, by simp⟩ fun C hC => ?_
    (repeat' ((first | refine sp_ ?_ | exact ex0 | (refine ret_s [] ?_; simp (decide := true) (disch := omega) only [go_sem, ↓reduceIte, ↓put_at]))))
    refine lkR_s (1000, 3) (kvB 9 N.m) j (lnV l) (lnE l) 9 1 (b.map fun s => [vs s]) _ _ ln_map (by simp (decide := true) (disch := omega) only [go_sem, ↓reduceIte, ↓put_at]) (ln_val l) (ln_keys l _) hj (by decide) ?_
    generalize (kvB 9 N.m).set j (lnV l, .av .any) = M1 at *
    (repeat' ((fail_if_success (refine stop_ret ?_)); (first | refine sp_ ?_ | exact ex0 | (refine ret_s [] ?_; simp (decide := true) (disch := omega) only [go_sem, ↓reduceIte, ↓put_at]))))
    refine bck_s (1000, 3) (14, 1) M1 (kvB 9 N.m) j (lnV l) .any 9 1 (b.map fun s => [vs s]) o4 o3 ⟨by simp (decide := true) (disch := omega) only [go_sem, ↓reduceIte, ↓put_at], ?_⟩
    (repeat' ((first | refine sp_ ?_ | exact ex0 | (refine ret_s [] ?_; simp (decide := true) (disch := omega) only [go_sem, ↓reduceIte, ↓put_at]))))
set_option maxRecDepth 100000 in
set_option maxHeartbeats 8000000 in
theorem net_counts (N : N28) : Spec Try.prog 25 [.ptr 0 0] [netO N] (.ca (.val (.agg [vi N.sent, vi N.lost, vi N.taken, vi N.twins, vi N.turned, vi N.forged]))) [netO N] := by
  refine spec_of Try.func25 rfl Try.ntmps25 Try.results25 ⟨by decide, by simp⟩ fun C hC => ?_
  (repeat' ((first | refine sp_ ?_ | exact ex0 | (refine ret_s [] ?_; simp (decide := true) (disch := omega) only [go_sem, ↓reduceIte, ↓put_at]))))
end Go.Proofs.Ytdkgnlmojmafbaa
