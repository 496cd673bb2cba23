
/- Layer 18 in plain Lean: FAIR. -/
import Derived.Test.YtdgkehoodlncmaaShP
namespace Go.Proofs.Ytdgkehoodlncmaa
set_option linter.unusedVariables false
set_option linter.unusedSimpArgs false

abbrev leL (a b : Ld) : Prop := a.b * b.w ≤ b.b * a.w
theorem leL_trans {a b c : Ld} (h1 : leL a b) (h2 : leL b c) (ha : 0 ≤ a.w) (hb : 1 ≤ b.w) (hc : 0 ≤ c.w) : leL a c := by
  have k1 := Int.mul_le_mul_of_nonneg_right h1 hc
  have k2 := Int.mul_le_mul_of_nonneg_right h2 ha
  have e1 : b.b * a.w * c.w = b.b * c.w * a.w := by rw [Int.mul_assoc, Int.mul_comm a.w, ← Int.mul_assoc]
  have e2 : a.b * b.w * c.w = b.w * (a.b * c.w) := by rw [Int.mul_comm a.b, Int.mul_assoc]
  have e3 : c.b * b.w * a.w = b.w * (c.b * a.w) := by rw [Int.mul_comm c.b, Int.mul_assoc]
  rw [e1, e2] at k1
  rw [e3] at k2
  exact Int.le_of_mul_le_mul_left (Int.le_trans k1 k2) (by omega)
theorem cmpL_lt {a b : Ld} (h : cmpL a b < 0) : leL a b := by
  unfold cmpL cmpZ at h
  unfold leL
  by_cases h1 : a.b * b.w < b.b * a.w
  · omega
  · rw [if_neg h1] at h
    by_cases h2 : b.b * a.w < a.b * b.w
    · rw [if_pos h2] at h; simp at h
    · omega
theorem cmpL_ge {a b : Ld} (h : ¬ cmpL a b < 0) : leL b a := by
  unfold cmpL cmpZ at h
  unfold leL
  by_cases h1 : a.b * b.w < b.b * a.w
  · rw [if_pos h1] at h; simp at h
  · omega
theorem minF_le : ∀ (ys : List Ld) (m : Ld), 1 ≤ m.w → (∀ y ∈ ys, 1 ≤ y.w) → (minF cmpL m ys = m ∨ minF cmpL m ys ∈ ys) ∧ leL (minF cmpL m ys) m ∧ ∀ z ∈ ys, leL (minF cmpL m ys) z
  | [], m, _, _ => ⟨.inl rfl, Int.le_refl _, fun z h => by simp at h⟩
  | x :: xs, m, hm, hw => by
    have hx := hw x (List.mem_cons_self ..)
    have hxs : ∀ y ∈ xs, 1 ≤ y.w := fun y hy => hw y (List.mem_cons_of_mem _ hy)
    unfold minF
    by_cases hc : cmpL x m < 0
    · rw [if_pos hc]
      obtain ⟨h1, h2, h3⟩ := minF_le xs x hx hxs
      have hr : 1 ≤ (minF cmpL x xs).w := by
        rcases h1 with e | e
        · rw [e]; exact hx
        · exact hxs _ e
      refine ⟨.inr (by rcases h1 with e | e; · rw [e]; exact List.mem_cons_self ..
                       · exact List.mem_cons_of_mem _ e), leL_trans h2 (cmpL_lt hc) (by omega) hx (by omega), fun z hz => ?_⟩
      rcases List.mem_cons.1 hz with rfl | hz
      · exact h2
      · exact h3 z hz
    · rw [if_neg hc]
      obtain ⟨h1, h2, h3⟩ := minF_le xs m hm hxs
      have hr : 1 ≤ (minF cmpL m xs).w := by
        rcases h1 with e | e
        · rw [e]; exact hm
        · exact hxs _ e
      refine ⟨by rcases h1 with e | e; · exact .inl e
                 · exact .inr (List.mem_cons_of_mem _ e), h2, fun z hz => ?_⟩
      rcases List.mem_cons.1 hz with rfl | hz
      · exact leL_trans h2 (cmpL_ge hc) (by omega) hm (by omega)
      · exact h3 z hz
/-- Nobody is ahead of another one by more than M. -/
def invF (M : Int) (l : List Ld) : Prop := ∀ x ∈ l, ∀ y ∈ l, (x.b - M) * y.w ≤ y.b * x.w
theorem upE_get {l : List Ld} (h : Up16 (l.map toE)) {i j : Nat} (hi : i < j) (hj : j < l.length) : (l[i]'(by omega)).p < (l[j]).p := by
  have := up_get h hi (by simpa using hj)
  simpa [toE] using this
theorem upE_inj {l : List Ld} (h : Up16 (l.map toE)) {i j : Nat} (hi : i < l.length) (hj : j < l.length) (e : (l[i]).p = (l[j]).p) : i = j := by
  rcases Nat.lt_trichotomy i j with h1 | h1 | h1
  · have := upE_get h h1 hj; omega
  · exact h1
  · have := upE_get h h1 hi; omega
/-- The next one, and what it carries. -/
theorem fair_step {B M n : Int} {l : List Ld} {k : Nat} (ok : ShOk B l) (hps : l.map (·.p) = psOf k) (hk : 0 < k) (hM : 0 ≤ M) (hn : 0 ≤ n ∧ n ≤ 1073741824) (inv : invF M l) :
    (carryF l (pickF l (psOf k)).1 n).2 = true ∧ invF (max M n) (carryF l (pickF l (psOf k)).1 n).1 := by
  have hlen : l.length = k := by have := congrArg List.length hps; rwa [List.length_map, psOf_len] at this
  have hw : ∀ x ∈ l, 1 ≤ x.w := fun x hx => (ok.ok x hx).1
  obtain ⟨m, hm, hml, hp⟩ : ∃ m ∈ l, (∀ z ∈ l, leL m z) ∧ (pickF l (psOf k)).1 = m.p := by
    unfold pickF
    rw [pick_all hps]
    cases l with
    | nil => simp at hlen; omega
    | cons y ys =>
      obtain ⟨h1, h2, h3⟩ := minF_le ys y (hw y (List.mem_cons_self ..)) (fun z hz => hw z (List.mem_cons_of_mem _ hz))
      refine ⟨minF cmpL y ys, ?_, fun z hz => ?_, rfl⟩
      · rcases h1 with e | e
        · rw [e]; exact List.mem_cons_self ..
        · exact List.mem_cons_of_mem _ e
      · rcases List.mem_cons.1 hz with rfl | hz
        · exact h2
        · exact h3 z hz
  rw [hp]
  obtain ⟨a, ha, rfl⟩ := List.mem_iff_getElem.1 hm
  have hcn : carN n = n := by unfold carN; omega
  rcases idxF_lt (fun x => decide (x.p = l[a].p)) l with h0 | ⟨h1, h2, h3, h4⟩
  · exfalso
    have : ∀ (xs : List Ld) (b : Nat) (hb : b < xs.length), (fun x : Ld => decide (x.p = l[a].p)) xs[b] = true → 0 ≤ idxF (fun x => decide (x.p = l[a].p)) xs := fun xs => by
      induction xs with
      | nil => intro b hb; simp at hb
      | cons y ys ih =>
        intro b hb h
        simp only [idxF]
        split
        · omega
        · rename_i hne
          cases b with
          | zero => exact absurd h hne
          | succ b =>
            have := ih b (by simpa using hb) (by simpa using h)
            split <;> omega
    have := this l a ha (by simp)
    omega
  · have h2 : l[(idxF (fun x => decide (x.p = l[a].p)) l).toNat].p = l[a].p := by simpa using h2
    have hia := upE_inj ok.up h1 ha h2
    have e : carryF l l[a].p n = (l.modify a fun x => { x with b := x.b + n }, true) := by
      unfold carryF
      dsimp only
      rw [if_neg (by omega), hia, hcn]
    rw [e]
    refine ⟨rfl, fun x hx y hy => ?_⟩
    obtain ⟨i, hi, rfl⟩ := List.mem_iff_getElem.1 hx
    obtain ⟨j, hj, rfl⟩ := List.mem_iff_getElem.1 hy
    have hi2 : i < l.length := by simpa using hi
    have hj2 : j < l.length := by simpa using hj
    have wi := hw _ (List.getElem_mem hi2)
    have wj := hw _ (List.getElem_mem hj2)
    have bi := (ok.ok _ (List.getElem_mem hi2)).2.2.1
    have bj := (ok.ok _ (List.getElem_mem hj2)).2.2.1
    have h0 := inv _ (List.getElem_mem hi2) _ (List.getElem_mem hj2)
    have hle := hml _ (List.getElem_mem hj2)
    rw [List.getElem_modify, List.getElem_modify]
    have mono : ∀ u v : Int, u ≤ v → u * l[j].w ≤ v * l[j].w := fun u v h => Int.mul_le_mul_of_nonneg_right h (by omega)
    have mono2 : ∀ u v : Int, u ≤ v → u * l[i].w ≤ v * l[i].w := fun u v h => Int.mul_le_mul_of_nonneg_right h (by omega)
    by_cases hai : a = i
    · subst hai
      rw [if_pos rfl]
      by_cases haj : a = j
      · subst haj
        rw [if_pos rfl]
        exact mono _ _ (by dsimp only; omega)
      · rw [if_neg haj]
        exact Int.le_trans (mono _ _ (by dsimp only; omega)) hle
    · rw [if_neg hai]
      by_cases haj : a = j
      · subst haj
        rw [if_pos rfl]
        exact Int.le_trans (mono _ _ (by omega)) (Int.le_trans h0 (mono2 _ _ (by dsimp only; omega)))
      · rw [if_neg haj]
        exact Int.le_trans (mono _ _ (by omega)) h0
theorem fair_hi {M : Int} (x : Ld) : ∀ (l : List Ld), (∀ y ∈ l, (x.b - M) * y.w ≤ y.b * x.w) → x.b * (l.map (·.w)).sum - totF l * x.w ≤ M * (l.map (·.w)).sum
  | [], _ => by simp [totF]
  | y :: ys, h => by
    have h1 := h y (List.mem_cons_self ..)
    have h2 := fair_hi x ys fun z hz => h z (List.mem_cons_of_mem _ hz)
    have e : totF (y :: ys) = y.b + totF ys := by simp [totF]
    rw [e]
    simp only [List.map_cons, List.sum_cons, Int.mul_add, Int.add_mul, Int.sub_mul] at h1 ⊢
    omega
theorem fair_lo0 {M : Int} (x : Ld) : ∀ (l : List Ld), (∀ y ∈ l, (y.b - M) * x.w ≤ x.b * y.w) → totF l * x.w - x.b * (l.map (·.w)).sum ≤ l.length * (M * x.w)
  | [], _ => by simp [totF]
  | y :: ys, h => by
    have h1 := h y (List.mem_cons_self ..)
    have h2 := fair_lo0 x ys fun z hz => h z (List.mem_cons_of_mem _ hz)
    have e : totF (y :: ys) = y.b + totF ys := by simp [totF]
    rw [e]
    simp only [List.map_cons, List.sum_cons, List.length_cons, Int.natCast_add, Int.mul_add, Int.add_mul, Int.sub_mul] at h1 ⊢
    simp
    omega
theorem fair_lo1 {M : Int} (x : Ld) : ∀ (l : List Ld), x ∈ l → (∀ y ∈ l, (y.b - M) * x.w ≤ x.b * y.w) → totF l * x.w - x.b * (l.map (·.w)).sum ≤ (l.length - 1) * (M * x.w)
  | [], hx, _ => by simp at hx
  | y :: ys, hx, h => by
    have e : totF (y :: ys) = y.b + totF ys := by simp [totF]
    have el : (((y :: ys).length : Int) - 1) = ys.length := by simp
    rw [e, el]
    rcases List.mem_cons.1 hx with rfl | hx
    · have h2 := fair_lo0 x ys fun z hz => h z (List.mem_cons_of_mem _ hz)
      simp only [List.map_cons, List.sum_cons, Int.mul_add, Int.add_mul] at h2 ⊢
      omega
    · have h1 := h y (List.mem_cons_self ..)
      have h2 := fair_lo1 x ys hx fun z hz => h z (List.mem_cons_of_mem _ hz)
      simp only [List.map_cons, List.sum_cons, Int.mul_add, Int.add_mul, Int.sub_mul, Int.one_mul] at h1 h2 ⊢
      omega
theorem w_sum {x : Ld} : ∀ {l : List Ld}, (∀ y ∈ l, 1 ≤ y.w) → x ∈ l → x.w ≤ (l.map (·.w)).sum
  | [], _, h => by simp at h
  | y :: ys, hw, h => by
    have hs : ∀ zs : List Ld, (∀ y ∈ zs, 1 ≤ y.w) → 0 ≤ (zs.map (·.w)).sum := fun zs => by
      induction zs with
      | nil => intro _; simp
      | cons a zs2 ih => intro h; have := h a (List.mem_cons_self ..); have := ih fun b hb => h b (List.mem_cons_of_mem _ hb); simp; omega
    have hy := hw y (List.mem_cons_self ..)
    have hys := hs ys fun z hz => hw z (List.mem_cons_of_mem _ hz)
    simp only [List.map_cons, List.sum_cons]
    rcases List.mem_cons.1 h with rfl | h
    · omega
    · have := w_sum (fun z hz => hw z (List.mem_cons_of_mem _ hz)) h; omega
/-- FAIR, at one path. -/
theorem fair_at {B M : Int} {l : List Ld} (ok : ShOk B l) (hM : 0 ≤ M) (inv : invF M l) {x : Ld} (hx : x ∈ l) :
    x.b * (l.map (·.w)).sum - totF l * x.w ≤ M * (l.map (·.w)).sum ∧ -(x.b * (l.map (·.w)).sum - totF l * x.w) ≤ M * (l.map (·.w)).sum * max 0 ((l.length : Int) - 1) := by
  refine ⟨fair_hi x l fun y hy => inv x hx y hy, ?_⟩
  have h1 := fair_lo1 x l hx fun y hy => inv y hy x hx
  have h2 := w_sum (fun y hy => (ok.ok y hy).1) hx
  have hl : 1 ≤ l.length := List.length_pos_of_mem hx
  have e : max 0 ((l.length : Int) - 1) = (l.length : Int) - 1 := by omega
  rw [e]
  have h3 : ((l.length : Int) - 1) * (M * x.w) ≤ ((l.length : Int) - 1) * (M * (l.map (·.w)).sum) := Int.mul_le_mul_of_nonneg_left (Int.mul_le_mul_of_nonneg_left h2 hM) (by omega)
  rw [Int.mul_comm (M * (l.map (·.w)).sum)]
  omega
theorem car_at {B : Int} {l : List Ld} (ok : ShOk B l) {k : Nat} (hps : l.map (·.p) = psOf k) {j : Nat} (hj : j < l.length) : carF l (1 + j) = l[j].b := by
  have hp : l[j].p = 1 + j := by
    have : (l.map (·.p))[j]'(by simpa using hj) = l[j].p := by simp
    rw [← this]
    simp only [hps]
    simp [psOf]
  unfold carF
  dsimp only
  rcases idxF_lt (fun x => decide (x.p = 1 + (j : Int))) l with h0 | ⟨h1, h2, h3, h4⟩
  · exfalso
    have : ∀ (xs : List Ld) (b : Nat) (hb : b < xs.length), (fun x : Ld => decide (x.p = 1 + (j : Int))) xs[b] = true → 0 ≤ idxF (fun x => decide (x.p = 1 + (j : Int))) xs := fun xs => by
      induction xs with
      | nil => intro b hb; simp at hb
      | cons y ys ih =>
        intro b hb h
        simp only [idxF]
        split
        · omega
        · rename_i hne
          cases b with
          | zero => exact absurd h hne
          | succ b =>
            have := ih b (by simpa using hb) (by simpa using h)
            split <;> omega
    have := this l j hj (by simpa using hp)
    omega
  · have h2 : l[(idxF (fun x => decide (x.p = 1 + (j : Int))) l).toNat].p = l[j].p := by rw [hp]; simpa using h2
    have hia := upE_inj ok.up h1 hj h2
    rw [if_neg (by omega), hia]
    simp [hj]
theorem inv0 (ks : List Int) : invF 0 (ldOf ks) := fun x hx y hy => by
  unfold ldOf at hx hy
  obtain ⟨i, hi, rfl⟩ := List.mem_mapIdx.1 hx
  obtain ⟨j, hj, rfl⟩ := List.mem_mapIdx.1 hy
  simp
end Go.Proofs.Ytdgkehoodlncmaa
