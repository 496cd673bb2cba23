
/- Rows that grow. -/
import Derived.Test.YtojcjbaimdjhoaaGreatDoorR4
namespace Go.Proofs.YtojcjbaimdjhoaaGreatDoor
open Go.RowKit
set_option linter.unusedVariables false
set_option linter.unusedSimpArgs false

section
variable {P : Program} {ops : Array Oper} {C : Ctx} {E : Env} {σ : St} {a : Act} {w : World}

theorem rd_row {m : Mem} {e : TypeId} {sz n : Nat} {v : Value} {xs : List Value} {es : List (List V)} (hown : w.ownsRow 0 e sz v n xs) (hes : es.length = n) (hsz : ∀ i (h : i < es.length), es[i].length = sz)
    (hm : ∀ b i u, v.ownBlock = some b → xs[i]? = some u → m b i = some u) (hr : ∀ i j (hi : i < es.length) (hj : j < es[i].length), ∃ u, xs[i * sz + j]? = some u ∧ Rd m (es[i][j]) u) : Rd m (.lst sz es) v := by
  rcases hown.2 with ⟨rfl, h⟩ | ⟨g, cap, cur, rfl, _, hh, hc, _⟩
  · have h0 : es = [] := List.eq_nil_of_length_eq_zero (by omega)
    subst h0
    exact Rd.nil0 sz
  · subst hes
    have hex : ∀ i j, i < es.length → j < sz → ∃ u, xs[i * sz + j]? = some u ∧ (∀ (hi : i < es.length) (hj : j < es[i].length), Rd m (es[i][j]) u) := fun i j hi hj => by
      obtain ⟨u, h1, h2⟩ := hr i j hi (by rw [hsz i hi]; exact hj)
      exact ⟨u, h1, fun _ _ => h2⟩
    obtain ⟨f, hf⟩ : ∃ f : Nat → Nat → Value, ∀ i j, i < es.length → j < sz → xs[i * sz + j]? = some (f i j) ∧ (∀ (hi : i < es.length) (hj : j < es[i].length), Rd m (es[i][j]) (f i j)) :=
      ⟨fun i j => if h : i < es.length ∧ j < sz then (hex i j h.1 h.2).choose else undef, fun i j h1 h2 => by simp only [dif_pos (And.intro h1 h2)]; exact (hex i j h1 h2).choose_spec⟩
    refine Rd.lst sz es g 0 cap f hc hsz (fun i j hi hj => ?_) (fun i j hi hj => (hf i j hi (by rw [← hsz i hi]; exact hj)).2 hi hj)
    rw [Nat.zero_add]
    exact hm g _ _ rfl (hf i j hi hj).1
/-- What a readable list's elements are, as cells. -/
theorem rd_cells {m : Mem} {sz : Nat} {es : List (List V)} {v : Value} (h : Rd m (.lst sz es) v) : ∃ A cap, v = .slice A es.length cap ∧ es.length ≤ cap ∧ (A = none → cap = 0) ∧ (∀ i (h : i < es.length), es[i].length = sz) ∧
    ∃ xs : List Value, xs.length = es.length * sz ∧ (∀ i j (hi : i < es.length) (hj : j < es[i].length), ∃ u, xs[i * sz + j]? = some u ∧ Rd m (es[i][j]) u) ∧
    (∀ t u, xs[t]? = some u → ∃ b o, A = some ⟨b, o, none⟩ ∧ m b (o + t) = some u) := by
  cases h with
  | nil _ A c hA => exact ⟨A, c, rfl, Nat.zero_le _, hA, (fun i h => by simp at h), [], by simp, (fun i j hi => by simp at hi), (fun t u h => by simp at h)⟩
  | lst _ _ b o cap f hc hsz hm hr =>
    have hdiv : ∀ i j, j < sz → (i * sz + j) / sz = i ∧ (i * sz + j) % sz = j := fun i j hj => by
      have h0 : 0 < sz := by omega
      rw [Nat.mul_comm, Nat.mul_add_div h0, Nat.mul_add_mod, Nat.div_eq_of_lt hj, Nat.mod_eq_of_lt hj]
      exact ⟨rfl, rfl⟩
    refine ⟨some ⟨b, o, none⟩, cap, rfl, hc, (fun h => by cases h), hsz, (List.range (es.length * sz)).map fun t => f (t / sz) (t % sz), by simp, fun i j hi hj => ?_, fun t u h => ?_⟩
    · have hj' : j < sz := by rw [← hsz i hi]; exact hj
      have hlt : i * sz + j < es.length * sz := by
        calc i * sz + j < i * sz + sz := by omega
          _ = (i + 1) * sz := by rw [Nat.add_mul, Nat.one_mul]
          _ ≤ es.length * sz := Nat.mul_le_mul_right _ hi
      refine ⟨f i j, ?_, hr i j hi hj⟩
      simp [hlt, hdiv i j hj']
    · have ht : t < es.length * sz := by have := (List.getElem?_eq_some_iff.1 h).1; simpa using this
      simp [ht] at h
      have h0 : 0 < sz := by rcases Nat.eq_zero_or_pos sz with h | h; subst h; simp at ht; exact h
      have h1 : t / sz < es.length := Nat.div_lt_of_lt_mul (by rw [Nat.mul_comm]; exact ht)
      have h2 := hm (t / sz) (t % sz) h1 (Nat.mod_lt _ h0)
      refine ⟨b, o, rfl, ?_⟩
      rw [← h, ← h2, Nat.add_assoc, Nat.mul_comm, Nat.div_add_mod]

/-- A row that is new, or has grown. -/
theorem Gm.row (h : Gm C E σ a w) (k : Id) (G G' : Nat) (hG : gq σ k = G) (e : TypeId) (sz n : Nat) (v' : Value) (w' : World) (xs : List Value)
    (hgg : (G' = G ∧ ∃ T, σ (.k k) = .row e sz T ∧ T ≤ n ∧ (T = n → v' = E.rv k)) ∨ G' = G + 1)
    (hb : ∀ b, v'.ownBlock = some b → w.heap.size ≤ b ∨ (∃ e' sz' T, σ (.k k) = .row e' sz' T ∧ (E.rv k).ownBlock = some b ∧ ∀ i, i < (E.rx k).length → xs[i]? = (E.rx k)[i]?))
    (hown : w'.ownsRow 0 e sz v' n xs) (hf : Chg (fun b => v'.ownBlock = some b) w w') :
    ∃ E', Gm C E' (puts σ [(.q k, .num G'), (.k k, .row e sz n)]) a w' ∧ Mo E σ E' (puts σ [(.q k, .num G'), (.k k, .row e sz n)]) ∧ E'.m.le E'.m ∧ (∀ b i u, v'.ownBlock = some b → xs[i]? = some u → E'.m b i = some u) ∧ E.m.le E'.m ∧
      ∀ es : List (List V), es.length = n → Rd E'.m (.lst sz es) v' → RdA E' (puts σ [(.q k, .num G'), (.k k, .row e sz n)]) (.own k G' e sz es) v' := by
  obtain ⟨σ', hσ'⟩ : ∃ s, s = puts σ [(.q k, .num G'), (.k k, .row e sz n)] := ⟨_, rfl⟩
  have qq : ∀ k', σ' (.q k') = if k' = k then .num G' else σ (.q k') := by
    intro k'; rw [hσ']; show put (put σ (.q k) (.num G')) (.k k) (.row e sz n) (.q k') = _
    rw [put_ne _ _ (by simp)]; by_cases hk : k' = k
    · subst hk; simp [put]
    · simp [put, hk]
  have qk : ∀ k', σ' (.k k') = if k' = k then .row e sz n else σ (.k k') := by
    intro k'; rw [hσ']; show put (put σ (.q k) (.num G')) (.k k) (.row e sz n) (.k k') = _
    by_cases hk : k' = k
    · subst hk; simp [put]
    · simp [put, hk]
  have qg : ∀ o, σ' (.g o) = σ (.g o) := by intro o; rw [hσ']; simp [puts, put]
  have qo : ∀ o, σ' (.o o) = σ (.o o) := by intro o; rw [hσ']; simp [puts, put]
  have qs : ∀ o, σ' (.s o) = σ (.s o) := by intro o; rw [hσ']; simp [puts, put]
  have qc : ∀ o i, σ' (.c o i) = σ (.c o i) := by intro o i; rw [hσ']; simp [puts, put]
  have qh : ∀ o, σ' (.h o) = σ (.h o) := by intro o; rw [hσ']; simp [puts, put]
  have qr : ∀ o, σ' (.r o) = σ (.r o) := by intro o; rw [hσ']; simp [puts, put]
  have ql : ∀ o, σ' (.l o) = σ (.l o) := by intro o; rw [hσ']; simp [puts, put]
  rw [← hσ']
  clear hσ'
  have hfresh : ∀ b i, w.heap.size ≤ b → E.m b i = none := by
    intro b i hb
    cases hc : E.m b i with
    | none => rfl
    | some u => have := h.ms _ _ _ hc; have h2 : w.heap[b]? = none := Array.getElem?_eq_none hb; simp [World.cell?, h2] at this
  obtain ⟨E', hE'⟩ : ∃ E' : Env, E' = { E with m := fun b i => if v'.ownBlock = some b then xs[i]? else E.m b i, rv := fun k' => if k' = k then v' else E.rv k', rx := fun k' => if k' = k then xs else E.rx k' } := ⟨_, rfl⟩
  have em : ∀ b i, E'.m b i = if v'.ownBlock = some b then xs[i]? else E.m b i := by intro b i; rw [hE']
  have eloc : E'.loc = E.loc := by rw [hE']
  have erv : ∀ k', E'.rv k' = if k' = k then v' else E.rv k' := by intro k'; rw [hE']
  have erx : ∀ k', E'.rx k' = if k' = k then xs else E.rx k' := by intro k'; rw [hE']
  have ebv : E'.bv = E.bv := by rw [hE']
  have ebf : E'.bf = E.bf := by rw [hE']
  clear hE'
  have hmle : E.m.le E'.m := by
    intro b i u hu
    rw [em]
    by_cases hbb : v'.ownBlock = some b
    · rw [if_pos hbb]
      rcases hb b hbb with h1 | ⟨e', sz', T, h1, h2, h3⟩
      · rw [hfresh b i h1] at hu; cases hu
      · have h4 := ((h.ro k e' sz' T h1).2 b h2).1 i
        rw [hu] at h4
        have hi : i < (E.rx k).length := by
          rcases Nat.lt_or_ge i (E.rx k).length with hi | hi
          · exact hi
          · rw [List.getElem?_eq_none hi] at h4; cases h4
        rw [h3 i hi]; exact h4.symm
    · rw [if_neg hbb]; exact hu
  have hmo : Mo E σ E' σ' := by
    refine ⟨hmle, fun o => ⟨Nat.le_of_eq (gg_of (qg o)).symm, fun _ => by rw [eloc]⟩, fun k' => ?_, fun k' => ⟨Nat.le_of_eq (gh_of (qh k')).symm, fun _ => by rw [ebv]⟩⟩
    by_cases hk : k' = k
    · subst hk
      have hq' : gq σ' k' = G' := gq_num (by rw [qq, if_pos rfl])
      refine ⟨by rcases hgg with ⟨h2, _⟩ | h2 <;> omega, fun he e1 sz1 T1 h2 => ?_⟩
      rw [qk, if_pos rfl] at h2
      cases h2
      rcases hgg with ⟨_, T, h3, h4, h5⟩ | h3
      · exact ⟨T, h3, h4, fun he => by rw [erv, if_pos rfl]; exact h5 he⟩
      · omega
    · have hq' : gq σ' k' = gq σ k' := gq_of (by rw [qq, if_neg hk])
      refine ⟨by omega, fun _ e1 sz1 T1 h2 => ?_⟩
      rw [qk, if_neg hk] at h2
      exact ⟨T1, h2, Nat.le_refl _, fun _ => by rw [erv, if_neg hk]⟩
  have htree : ∀ k' x b, σ (.r k') = .tree x → b ∈ E.bf k' → b < w.heap.size → v'.ownBlock ≠ some b := by
    intro k' x b h1 h2 h3 he
    rcases hb b he with h4 | ⟨e', sz', T, h4, h5, _⟩
    · omega
    · exact h.tr.tk k e' sz' T k' x b h4 h1 h2 h5
  have hnlt : ∀ o n, σ (.o o) = .num n → E.loc o < w.heap.size := by
    intro o n h1
    obtain ⟨⟨c1, t1, h2, _⟩, _⟩ := h.ob o n h1
    exact (Array.getElem?_eq_some_iff.1 h2).1
  have hobj : ∀ o n, σ (.o o) = .num n → v'.ownBlock ≠ some (E.loc o) := by
    intro o n h1 he
    rcases hb _ he with h2 | ⟨e', sz', T, h2, h3, _⟩
    · have := hnlt o n h1; omega
    · exact h.or o n k e' sz' T h1 h2 h3
  have hrow : ∀ k' e' sz' T b, σ (.k k') = .row e' sz' T → k' ≠ k → (E.rv k').ownBlock = some b → v'.ownBlock ≠ some b := by
    intro k' e' sz' T b h1 hk h2 he
    rcases hb _ he with h3 | ⟨e1, sz1, T1, h3, h4, _⟩
    · have := ((h.ro k' e' sz' T h1).1.lt b h2).2; omega
    · exact hk (h.rr k' k e' sz' T e1 sz1 T1 b h1 h3 h2 h4)
  have hkeep : ∀ b, b < w.heap.size → v'.ownBlock ≠ some b → w'.heap[b]? = w.heap[b]? := fun b h1 h2 => hf.block b h1 h2
  have hD : ∀ b, v'.ownBlock = some b → C.D b ∨ C.w0.heap.size ≤ b := by
    intro b hbb
    rcases hb b hbb with h1 | ⟨e', sz', T, h1, h2, h3⟩
    · have := h.fr.size; exact .inr (by omega)
    · exact ((h.ro k e' sz' T h1).2 b h2).2
  refine ⟨E', ⟨h.sz, h.df, fun b i u hu => ?_, h.fr.step hf (fun i hi he => by rcases hD i he with h1 | h1; exact h1; omega), fun t x h1 => (h.sl t x (by rw [← qs]; exact h1)).mo hmo, fun o i x n h1 h2 h3 => ?_, fun o n h1 => ?_, fun k' e1 s1 T1 h1 => ?_, fun o o' n n' h1 h2 h3 => ?_, fun k1 k2 e1 s1 T1 e2 s2 T2 b h1 h2 h3 h4 => ?_, fun o n k' e1 s1 T1 h1 h2 => ?_, fun o b h1 => by rw [eloc]; exact h.pi o b h1, Mem.le_trans h.ml hmle, fun b i h1 h2 => by rw [em, if_neg (fun hb => by rcases hD b hb with h3 | h3; exact h2 h3; omega)]; exact h.mx b i h1 h2,
    h.tr.step hmo ebv ebf (fun k x hx => by rw [← qr]; exact hx) (fun k i y hy => by rw [← ql]; exact hy) (fun _ _ _ _ => by rw [eloc]) (fun k' x b h1 h2 h3 h4 => ⟨hf.block b h3 (htree k' x b h1 h2 h3), fun i => by rw [em, if_neg (htree k' x b h1 h2 h3)]; exact h4 i⟩)
      (fun o n k' x h1 _ _ _ => ⟨n, by rw [← qo]; exact h1, by rw [eloc]⟩)
      (fun k1 e1 s1 T1 b k' x h1 h2 h3 h4 h5 => by
        by_cases hk : k1 = k
        · subst hk; rw [erv, if_pos rfl] at h4; exact absurd h4 (htree k' x b h2 h3 h5)
        · rw [qk, if_neg hk] at h1; rw [erv, if_neg hk] at h4; exact ⟨e1, s1, T1, h1, h4⟩)
      (fun o k' g s h1 => ⟨by rw [← qo]; exact h1, by rw [eloc]⟩)
      (fun b mb c bs l h1 => hf.block b (Array.getElem?_eq_some_iff.1 h1).1 (fun he => by
        rcases hb b he with h2 | ⟨e', sz', T, h2, h3, _⟩
        · have := (Array.getElem?_eq_some_iff.1 h1).1; omega
        · obtain ⟨cur, h4⟩ := own_block (h.ro k e' sz' T h2).1 h3
          rw [h4] at h1; cases h1))⟩, hmo, Mem.le_refl _, fun b i u h1 h2 => by rw [em, if_pos h1]; exact h2, hmle, fun es hes hrd => ⟨hrd, ?_⟩⟩
  · rw [em] at hu
    by_cases hbb : v'.ownBlock = some b
    · rw [if_pos hbb] at hu
      have := hown.cells hbb i u hu
      rwa [addr_add, Nat.zero_add] at this
    · rw [if_neg hbb] at hu
      have h1 := h.ms b i u hu
      have hlt : b < w.heap.size := by
        rcases Nat.lt_or_ge b w.heap.size with hl | hl
        · exact hl
        · rw [hfresh b i hl] at hu; cases hu
      rw [World.cell?_of_block (w := w) (a := ⟨b, i, none⟩) (hkeep b hlt hbb)]; exact h1
  · rw [qc] at h1
    rw [qo] at h2
    obtain ⟨u, hu, hr⟩ := h.ce o i x n h1 h2 h3
    refine ⟨u, ?_, hr.mo hmo⟩
    rw [eloc, World.cell?_of_block (w := w) (a := ⟨E.loc o, i, none⟩) (hkeep _ (hnlt o n h2) (hobj o n h2))]; exact hu
  · rw [qo] at h1
    obtain ⟨⟨cs, ty, h2, h3⟩, h4, h5⟩ := h.ob o n h1
    rw [eloc]
    exact ⟨⟨cs, ty, by rw [hkeep _ (hnlt o n h1) (hobj o n h1)]; exact h2, h3⟩, fun i => by rw [em, if_neg (hobj o n h1)]; exact h4 i, h5⟩
  · rw [qk] at h1
    by_cases hk : k' = k
    · subst hk
      rw [if_pos rfl] at h1
      cases h1
      rw [erv, erx, if_pos rfl, if_pos rfl]
      exact ⟨hown, fun b h1 => ⟨fun i => by rw [em, if_pos h1], hD b h1⟩⟩
    · rw [if_neg hk] at h1
      rw [erv, erx, if_neg hk, if_neg hk]
      obtain ⟨h2, h3⟩ := h.ro k' e1 s1 T1 h1
      exact ⟨own_heap h2 fun b hb => hkeep b (h2.lt b hb).2 (hrow k' e1 s1 T1 b h1 hk hb), fun b hb => ⟨fun i => by rw [em, if_neg (hrow k' e1 s1 T1 b h1 hk hb)]; exact (h3 b hb).1 i, (h3 b hb).2⟩⟩
  · rw [qo] at h1 h2
    rw [eloc] at h3
    exact h.oo o o' n n' h1 h2 h3
  · rw [qk] at h1 h2
    rw [erv] at h3 h4
    by_cases hk1 : k1 = k
    · by_cases hk2 : k2 = k
      · rw [hk1, hk2]
      · rw [if_pos hk1] at h3
        rw [if_neg hk2] at h2 h4
        exact absurd h3 (hrow k2 e2 s2 T2 b h2 hk2 h4)
    · rw [if_neg hk1] at h1 h3
      by_cases hk2 : k2 = k
      · rw [if_pos hk2] at h4
        exact absurd h4 (hrow k1 e1 s1 T1 b h1 hk1 h3)
      · rw [if_neg hk2] at h2 h4
        exact h.rr k1 k2 e1 s1 T1 e2 s2 T2 b h1 h2 h3 h4
  · rw [qo] at h1
    rw [qk] at h2
    rw [erv, eloc]
    by_cases hk : k' = k
    · rw [if_pos hk]; exact hobj o n h1
    · rw [if_neg hk] at h2 ⊢
      exact h.or o n k' e1 s1 T1 h1 h2
  · have hq' : gq σ' k = G' := gq_num (by rw [qq, if_pos rfl])
    refine ⟨by omega, fun _ e1 sz1 T1 h2 => ?_⟩
    rw [qk, if_pos rfl] at h2
    cases h2
    exact ⟨by omega, fun _ => ⟨rfl, rfl, by rw [erv, if_pos rfl]⟩⟩

/-- append: in place, or in a new block. -/
theorem run_append_two (w : World) (t tx ty e : TypeId) (i : TypeInfo) (z : Value) (size bytes : Nat) (ht : P.underlying t = some (.slice e)) (hi : P.info? e = some i) (hz : i.zero = some z)
    (hsize : i.size = size) (hby : i.bytes = bytes) (hzs : z.cells.size = size) (hsz : 0 < size)
    (v : Value) (n : Nat) (xs : List Value) (hown : w.ownsRow 0 e size v n xs) (x : Value) (m : Nat) (news : List Value) (hs : Src P size tx x m news w)
    (h63 : n + m ≤ maxLen) (hbytes : (n + m) * bytes ≤ 140737488355328) :
    ∃ v' w', (Builtin.append_ #[t, tx] ty #[v, x]).run P w = .ok v' w' ∧ w'.ownsRow 0 e size v' (n + m) (xs ++ news) ∧ Chg (fun b => v'.ownBlock = some b) w w' ∧
      (∀ b, v'.ownBlock = some b → w.heap.size ≤ b ∨ v.ownBlock = some b) ∧ (m = 0 → v' = v) := by
  subst hsize
  subst hby
  have hsmall : n + m ≤ 9223372036854775807 := by simp only [maxLen] at h63; omega
  have hlen : (xs ++ news).length = (n + m) * i.size := by rw [List.length_append, hown.1, hs.newsLen, Nat.add_mul]
  have grown : ∀ (old : Nat), old < n + m →
      (w.drew.alloc (.cells ((xs ++ news).toArray ++ Builtin.zeroCells z.cells (grownCap w (n + m) old e - (n + m))) e)).ownsRow 0 e i.size
        (.slice (some ⟨w.heap.size, 0, none⟩) (n + m) (grownCap w (n + m) old e)) (n + m) (xs ++ news) := by
    intro old ho
    have hge := grownCap_ge w (n + m) old e
    have hcm : grownCap w (n + m) old e ≤ maxLen := grownCap_le_maxLen w (n + m) old e h63
    refine ⟨hlen, .inr ⟨w.heap.size, _, _, rfl, Nat.zero_le _, heap_alloc_new w.drew _, hge, hcm, ?_, ?_⟩⟩
    · simp only [Array.size_append, List.size_toArray, size_zeroCells, hzs, hlen, ← Nat.add_mul]
      congr 1
      omega
    · simp only [Array.toList_append]
      rw [← hlen]
      exact List.take_left
  rcases hown.2 with ⟨rfl, hn0⟩ | ⟨g, cap, cur, rfl, _, hg, hnc, hcm, hcs, htake⟩
  · subst hn0
    have hx : xs = [] := List.eq_nil_of_length_eq_zero (by simpa using hown.1)
    subst hx
    by_cases hm : m = 0
    · subst hm
      have hn : news = [] := List.eq_nil_of_length_eq_zero (by simpa using hs.newsLen)
      subst hn
      refine ⟨.slice none 0 0, w, ?_, World.ownsRow_nil w 0 e i.size, Chg.refl _ _, (fun b h => by cases h), fun _ => rfl⟩
      rcases hs.kind with ⟨e', hk⟩ | hk <;> simp [Builtin.append_, run_underlying ht, run_underlying hk, sizeOf, typeInfo, hi, hs.len, hs.cells]
    · have hr := run_append_grow_src (P := P) w t tx ty e i z ht hi hz none 0 0 [] (by simp [Builtin.firstCells, loadCells, loadCellsFrom]) x m news hs (by omega) (by omega)
        (growslice_fits (by omega) (by simpa using hbytes))
      exact ⟨_, _, hr, grown 0 (by omega), ((Chg.refl _ _).drew).alloc _, (fun b h => .inl (by cases h; exact Nat.le_refl _)), fun h => absurd h hm⟩
  · by_cases hroom : n + m ≤ cap
    · have hfit : n * i.size + news.length ≤ cur.size := by rw [hs.newsLen, hcs, ← Nat.add_mul]; exact Nat.mul_le_mul_right _ hroom
      have hr : (Builtin.append_ #[t, tx] ty #[.slice (some ⟨g, 0, none⟩) n cap, x]).run P w =
          .ok (.slice (some ⟨g, 0, none⟩) (n + m) cap) (w.setRow g (cur.toList.take (n * i.size) ++ news ++ cur.toList.drop (n * i.size + news.length)).toArray) := by
        have hst := run_storeCells_at P g (n * i.size) e news 0 cur w hg (by simpa using hfit) hs.one
        simp only [Nat.add_zero] at hst
        rcases hs.kind with ⟨e', hk⟩ | hk <;> simp [Builtin.append_, run_underlying ht, run_underlying hk, sizeOf, typeInfo, hi, hs.len, hroom, hs.cells, Addr.add_lit, hst]
      refine ⟨_, _, hr, ⟨hlen, .inr ⟨g, cap, _, rfl, Nat.zero_le _, setRow_heap w g cur _ e _ hg, hroom, hcm, ?_, ?_⟩⟩, ⟨rfl, rfl, rfl, by simp, fun k _ hk => setRow_other w g k _ (fun e => hk (by simp [Value.ownBlock, e]))⟩, fun b h => .inr h, fun h => by subst h; rfl⟩
      · simp only [List.size_toArray, List.length_append, List.length_take, List.length_drop, Array.length_toList]
        omega
      · rw [htake, ← hlen]
        exact List.take_left
    · have holds : ∀ j u, xs[j]? = some u → w.cell? ((⟨g, 0, none⟩ : Addr).add j) = some u := hown.cells (g := g) rfl
      have hr := run_append_grow_src (P := P) w t tx ty e i z ht hi hz (some ⟨g, 0, none⟩) n cap xs
        (run_firstCells_some w.drew i.size n ⟨g, 0, none⟩ n cap xs hown.1 (by simpa using holds)) x m news hs (by omega) (by omega) (growslice_fits (by omega) hbytes)
      exact ⟨_, _, hr, grown cap (by omega), ((Chg.refl _ _).drew).alloc _, (fun b h => .inl (by cases h; exact Nat.le_refl _)), fun h => by subst h; exact absurd hnc hroom⟩

/-! ### what is appended -/
def byteEl (b : UInt8) : List V := [.sc (.int .u8 b.toNat)]
/-- Elements of an operand that is read as a list. -/
def elsOf : AV → Option (List (List V))
  | .val (.lst _ es) | .own _ _ _ _ es => some es
  | .val (.sc (.slice none 0 0)) => some []
  | .val (.sc (.string s)) => some (s.data.toList.map byteEl)
  | _ => none
def isSliceA : AV → Bool
  | .val (.sc (.string _)) => false
  | _ => true
theorem src_of (hg : Gm C E σ a w) {x : AV} {v : Value} {es : List (List V)} {sz : Nat} {tx : TypeId} (hx : RdA E σ x v) (he : elsOf x = some es) (hsz : ∀ r ∈ es, r.length = sz) (hone : ∀ r ∈ es, ∀ y ∈ r, oneV y = true)
    (hk : if isSliceA x then ∃ e', P.underlying tx = some (.slice e') else P.underlying tx = some .string ∧ sz = 1) :
    ∃ news, Src P sz tx v es.length news w ∧ ∀ i j (hi : i < es.length) (hj : j < es[i].length), ∃ u, news[i * sz + j]? = some u ∧ Rd E.m (es[i][j]) u := by
  have hlist : ∀ sz0, Rd E.m (.lst sz0 es) v → (∃ e', P.underlying tx = some (.slice e')) → ∃ news, Src P sz tx v es.length news w ∧ ∀ i j (hi : i < es.length) (hj : j < es[i].length), ∃ u, news[i * sz + j]? = some u ∧ Rd E.m (es[i][j]) u := by
    intro sz0 hr ⟨e', hk0⟩
    obtain ⟨A, cap, rfl, hc, hA, hs0, xs, hxl, hxr, hxm⟩ := rd_cells hr
    by_cases hes : es = []
    · subst hes
      have hx0 : xs = [] := List.eq_nil_of_length_eq_zero (by simpa using hxl)
      refine ⟨[], ?_, fun i j hi => by simp at hi⟩
      cases A with
      | none => obtain rfl := hA rfl; exact Src.ofNil w hk0 0
      | some A => exact Src.ofSlice w hk0 A 0 cap [] (by simp) (fun j u h => by simp at h) (fun u h => by cases h)
    · have hsz0 : sz0 = sz := by
        have hp : 0 < es.length := List.length_pos_iff.2 hes
        have h1 := hs0 0 hp
        have h2 := hsz es[0] (by simp)
        omega
      subst hsz0
      cases A with
      | none =>
        have := hA rfl
        have hp : 0 < es.length := List.length_pos_iff.2 hes
        omega
      | some A =>
        refine ⟨xs, Src.ofSlice w hk0 A es.length cap xs hxl (fun j u h => ?_) (fun u hu => ?_), hxr⟩
        · obtain ⟨b, o, h1, h2⟩ := hxm j u h
          cases h1
          rw [addr_add]; exact hg.ms _ _ _ h2
        · obtain ⟨t, ht, rfl⟩ := List.getElem_of_mem hu
          have h0 : 0 < sz0 := by rcases Nat.eq_zero_or_pos sz0 with h | h; subst h; rw [hxl] at ht; simp at ht; exact h
          have h1 : t / sz0 < es.length := Nat.div_lt_of_lt_mul (by rw [Nat.mul_comm]; omega)
          obtain ⟨u, hu1, hu2⟩ := hxr (t / sz0) (t % sz0) h1 (by rw [hs0 _ h1]; exact Nat.mod_lt _ h0)
          rw [Nat.mul_comm, Nat.div_add_mod] at hu1
          have : xs[t] = u := by rw [List.getElem?_eq_getElem ht] at hu1; exact Option.some.inj hu1
          rw [this]
          exact oneV_ok hu2 (hone (es[t / sz0]) (List.getElem_mem h1) _ (List.getElem_mem _))
  cases x with
  | ptr => simp [elsOf] at he
  | ref => simp [elsOf] at he
  | elp => simp [elsOf] at he
  | ag => simp [elsOf] at he
  | fn => simp [elsOf] at he
  | own k g e sz0 es0 =>
    simp [elsOf] at he
    subst he
    exact hlist sz0 hx.1 (by simpa [isSliceA] using hk)
  | val y =>
    cases y with
    | lst sz0 es0 =>
      simp [elsOf] at he
      subst he
      exact hlist sz0 hx (by simpa [isSliceA] using hk)
    | sc u =>
      have hv : v = u := Rd.sc_eq hx
      subst hv
      cases v with
      | slice A n c =>
        cases A with
        | some A => simp [elsOf] at he
        | none =>
          cases n with
          | succ n => simp [elsOf] at he
          | zero =>
            cases c with
            | succ c => simp [elsOf] at he
            | zero =>
              simp [elsOf] at he
              subst he
              exact hlist sz (Rd.nil0 sz) (by simpa [isSliceA] using hk)
      | string s =>
        simp [elsOf] at he
        subst he
        simp only [isSliceA, Bool.false_eq_true, if_false] at hk
        obtain ⟨hk, rfl⟩ := hk
        refine ⟨byteCells s, by rw [show (List.map byteEl s.data.toList).length = s.size by rw [List.length_map]; rfl]; exact Src.ofString (P := P) w hk s, fun i j hi hj => ?_⟩
        simp only [List.length_map] at hi
        have hj0 : j = 0 := by simp [byteEl] at hj; exact hj
        subst hj0
        refine ⟨.int .u8 ((s.data.toList[i]'hi).toNat), ?_, ?_⟩
        · have he : (byteCells s)[i * 1 + 0]? = (s.data.toList[i]?).map (fun b => Value.int .u8 b.toNat) := by rw [Nat.mul_one, Nat.add_zero, byteCells, List.getElem?_map]
          rw [he, List.getElem?_eq_getElem hi]; rfl
        · simp [byteEl]; exact Rd.sc _
      | _ => simp [elsOf] at he
    | _ => simp [elsOf] at he

/-- The first operand of an append: a row that it may grow. -/
def stAppend (P : Program) (σ : St) (d : Tmp) (t tx : TypeId) (s x : Operand) : Stp :=
  match tiOf P t with
  | some { sh := .slice, elem := e, .. } => match tiOf P e, elsOf (ev σ x) with
    | some { size := sz, bytes := by_, zero := z, zok := true, .. }, some new =>
      let c0 : Nat → Prop := fun n => (n + new.length) * by_ ≤ 140737488355328 ∧ n + new.length ≤ 9223372036854775807 ∧ z.length = sz ∧ 0 < sz ∧ (∀ r ∈ new, r.length = sz) ∧ (∀ r ∈ new, ∀ y ∈ r, oneV y = true) ∧
        (if isSliceA (ev σ x) then (tiOf P tx).map (·.sh) = some .slice else (tiOf P tx).map (·.sh) = some .str ∧ sz = 1)
      match ev σ s with
      | .val (.sc (.slice none 0 0)) => some (c0 0, .q (d, 0) :: (rdl s ++ rdl x), [(.q (d, 0), .num (gq σ (d, 0) + 1)), (.k (d, 0), .row e sz new.length)] ++ [(.s d, .av (.own (d, 0) (gq σ (d, 0) + 1) e sz new))])
      | .own k g e' sz' old => some (c0 old.length ∧ e' = e ∧ sz' = sz ∧ gq σ k = g ∧ σ (.k k) = .row e sz old.length, .q k :: .k k :: (rdl s ++ rdl x), [(.q k, .num g), (.k k, .row e sz (old.length + new.length))] ++ [(.s d, .av (.own k g e sz (old ++ new)))])
      | _ => none
    | _, _ => none
  | _ => none
theorem sh_slice {t : TypeId} (h : (tiOf P t).map (·.sh) = some .slice) : ∃ e, P.underlying t = some (.slice e) := by
  cases ht : tiOf P t with
  | none => rw [ht] at h; cases h
  | some T => rw [ht] at h; simp at h; obtain ⟨i, d, _, h2, _, _, _, h3, _⟩ := tiOf_some ht; exact ⟨T.elem, by rw [h2, h3 h]⟩
theorem sh_str {t : TypeId} (h : (tiOf P t).map (·.sh) = some .str) : P.underlying t = some .string := by
  cases ht : tiOf P t with
  | none => rw [ht] at h; cases h
  | some T => rw [ht] at h; simp at h; obtain ⟨i, d, _, h2, _, _, _, _, _, h3, _⟩ := tiOf_some ht; rw [h2, h3 h]
theorem append_el {m : Mem} {old new : List (List V)} {xs news : List Value} {sz : Nat} (hxl : xs.length = old.length * sz) (hso : ∀ i (h : i < old.length), old[i].length = sz)
    (h1 : ∀ i j (hi : i < old.length) (hj : j < old[i].length), ∃ u, xs[i * sz + j]? = some u ∧ Rd m (old[i][j]) u) (h2 : ∀ i j (hi : i < new.length) (hj : j < new[i].length), ∃ u, news[i * sz + j]? = some u ∧ Rd m (new[i][j]) u) :
    ∀ i j (hi : i < (old ++ new).length) (hj : j < (old ++ new)[i].length), ∃ u, (xs ++ news)[i * sz + j]? = some u ∧ Rd m ((old ++ new)[i][j]) u := by
  intro i j hi hj
  by_cases hlt : i < old.length
  · have e1 : (old ++ new)[i] = old[i] := List.getElem_append_left hlt
    have hj' : j < old[i].length := by rw [← e1]; exact hj
    obtain ⟨u, h3, h4⟩ := h1 i j hlt hj'
    refine ⟨u, ?_, by simp only [e1]; exact h4⟩
    rw [List.getElem?_append_left (List.getElem?_eq_some_iff.1 h3).1]; exact h3
  · have hge : old.length ≤ i := Nat.le_of_not_lt hlt
    have e1 : (old ++ new)[i] = new[i - old.length]'(by rw [List.length_append] at hi; omega) := List.getElem_append_right hge
    have hj' : j < (new[i - old.length]'(by rw [List.length_append] at hi; omega)).length := by rw [← e1]; exact hj
    obtain ⟨u, h3, h4⟩ := h2 (i - old.length) j (by rw [List.length_append] at hi; omega) hj'
    refine ⟨u, ?_, by simp only [e1]; exact h4⟩
    have hmul : old.length * sz ≤ i * sz := Nat.mul_le_mul_right _ hge
    rw [List.getElem?_append_right (by omega), hxl, show i * sz + j - old.length * sz = (i - old.length) * sz + j by rw [Nat.sub_mul]; omega]
    exact h3
theorem ok_append (d : Tmp) (t tx : TypeId) (s x : Operand) : StOk P C σ (some d) (.call { callee := .builtin .append, args := #[s, x], argTypes := #[t, tx] }) (stAppend P σ d t tx s x) := by
  unfold stAppend
  split
  · rename_i ag0 sz0 by0 z0 e f0 fk0 zk0 ht
    obtain ⟨it, dt, _, hdt, _, _, _, hsl, _⟩ := tiOf_some ht
    have hsl : dt = .slice e := hsl rfl
    subst hsl
    split
    · rename_i sh0 ag1 sz by_ z el fs fk new hte hnew
      obtain ⟨ie, de, hie, hde, hsz, hby, _, _, _, _, _, _, _, hz, _, _, _, hzk⟩ := tiOf_some hte
      obtain ⟨zv, hzv⟩ := Option.isSome_iff_exists.1 hzk.symm
      have hz : z = zv.cells.toList := by rw [hzv] at hz; exact hz
      -- the run, whatever the first operand is
      have main : ∀ (E : Env) (σ' : St) (a : Act) (w : World) (v : Value) (n : Nat) (xs : List Value), Gm C E σ' a w → (∀ l ∈ rdl x, σ' l = σ l) → w.ownsRow 0 e sz v n xs → a.eval s = v →
          ((n + new.length) * by_ ≤ 140737488355328 ∧ n + new.length ≤ 9223372036854775807 ∧ z.length = sz ∧ 0 < sz ∧ (∀ r ∈ new, r.length = sz) ∧ (∀ r ∈ new, ∀ y ∈ r, oneV y = true) ∧
            (if isSliceA (ev σ x) then (tiOf P tx).map (·.sh) = some .slice else (tiOf P tx).map (·.sh) = some .str ∧ sz = 1)) →
          ∃ v' w' news, (∀ ty pos af, (execOp a.eval ⟨some d, .call { callee := .builtin .append, args := #[s, x], argTypes := #[t, tx] }, ty, pos, af, none⟩).run P w = .ok (.value v') w') ∧ w'.ownsRow 0 e sz v' (n + new.length) (xs ++ news) ∧
            Chg (fun b => v'.ownBlock = some b) w w' ∧ (∀ b, v'.ownBlock = some b → w.heap.size ≤ b ∨ v.ownBlock = some b) ∧ (new.length = 0 → v' = v) ∧
            (∀ i j (hi : i < new.length) (hj : j < new[i].length), ∃ u, news[i * sz + j]? = some u ∧ Rd E.m (new[i][j]) u) := by
        intro E σ' a w v n xs hg hrx hown hv hc
        obtain ⟨c1, c2, c3, c4, c5, c6, c7⟩ := hc
        have hx := ev_ok hg x
        rw [ev_congr hrx] at hx
        obtain ⟨news, hsrc, hnr⟩ := src_of (P := P) (tx := tx) hg hx hnew c5 c6 (by
          split
          · rename_i hb; rw [if_pos hb] at c7; exact sh_slice c7
          · rename_i hb; rw [if_neg hb] at c7; exact ⟨sh_str c7.1, c7.2⟩)
        have hzs : zv.cells.size = sz := by rw [← c3, hz]; simp
        have hrunall : ∀ ty, ∃ v' w', (Builtin.append_ #[t, tx] ty #[v, a.eval x]).run P w = .ok v' w' ∧ w'.ownsRow 0 e sz v' (n + new.length) (xs ++ news) ∧ Chg (fun b => v'.ownBlock = some b) w w' ∧
            (∀ b, v'.ownBlock = some b → w.heap.size ≤ b ∨ v.ownBlock = some b) ∧ (new.length = 0 → v' = v) := fun ty =>
          run_append_two w t tx ty e ie zv sz by_ hdt hie hzv hsz.symm hby.symm hzs c4 v n xs hown _ _ _ hsrc (by unfold maxLen; omega) c1
        obtain ⟨v', w', h1, h2⟩ := hrunall 0
        refine ⟨v', w', news, fun ty pos af => ?_, h2.1, h2.2.1, h2.2.2.1, h2.2.2.2, hnr⟩
        have hty : Builtin.append_ #[t, tx] ty #[v, a.eval x] = Builtin.append_ #[t, tx] 0 #[v, a.eval x] := rfl
        simp [execOp, resolve, invoke, builtin, hv, hty, h1]
      dsimp only
      split
      · rename_i hs
        · obtain ⟨G, hG⟩ : ∃ G, gq σ (d, 0) = G := ⟨_, rfl⟩
          rw [hG]
          refine ok_value (W0 := [(.q (d, 0), .num (G + 1)), (.k (d, 0), .row e sz new.length)]) fun hc ty pos af E σ' a w hr hg hd => ?_
          have hr1 : ∀ l ∈ rdl s ++ rdl x, σ' l = σ l := fun l hl => hr l (List.mem_cons_of_mem _ hl)
          obtain ⟨hr2, hr3⟩ := mem_l hr1
          have hsv : a.eval s = .slice none 0 0 := scOf_ok (by unfold scOf; rw [hs]) hr2 hg
          obtain ⟨v', w', news, h1, h2, h3, h4, h5, h6⟩ := main E σ' a w (.slice none 0 0) 0 [] hg hr3 (World.ownsRow_nil _ _ _ _) hsv hc
          simp only [Nat.zero_add, List.nil_append] at h2
          obtain ⟨E', g1, g2, _, g3, g4, g5⟩ := hg.row (d, 0) G (G + 1) (by rw [gq_of (hr _ (by simp))]; exact hG) e sz new.length v' w' news (.inr rfl) (fun b hb => (h4 b hb).imp id (fun h => by cases h)) h2 h3
          obtain ⟨c1, c2, c3, c4, c5, c6, c7⟩ := hc
          exact ⟨v', w', E', h1 ty pos af, g1, g5 new rfl (rd_row h2 rfl (fun i h => c5 _ (by simp)) g3 (fun i j hi hj => by
            obtain ⟨u, h7, h8⟩ := h6 i j hi hj
            exact ⟨u, h7, h8.mono g4⟩))⟩
      · rename_i k g e' sz' old hs
        refine ok_value (W0 := [(.q k, .num g), (.k k, .row e sz (old.length + new.length))]) fun hc ty pos af E σ' a w hr hg hd => ?_
        obtain ⟨hc0, rfl, rfl, hcq, hck⟩ := hc
        have hr1 : ∀ l ∈ rdl s ++ rdl x, σ' l = σ l := fun l hl => hr l (List.mem_cons_of_mem _ (List.mem_cons_of_mem _ hl))
        obtain ⟨hr2, hr3⟩ := mem_l hr1
        have hq : gq σ' k = g := by rw [gq_of (hr _ (by simp))]; exact hcq
        have hk : σ' (.k k) = .row e' sz' old.length := by rw [hr _ (by simp)]; exact hck
        have hx := ev_ok hg s
        rw [ev_congr hr2, hs] at hx
        obtain ⟨hx1, hx2⟩ := hx
        have hrv := (hx2.2 hq.symm e' sz' old.length hk).2 rfl
        obtain ⟨_, _, hrv⟩ := hrv
        obtain ⟨hown, hmm⟩ := hg.ro k e' sz' old.length hk
        obtain ⟨v', w', news, h1, h2, h3, h4, h5, h6⟩ := main E σ' a w (E.rv k) old.length (E.rx k) hg hr3 hown hrv hc0
        obtain ⟨E', g1, g2, _, g3, g4, g5⟩ := hg.row k g g hq e' sz' (old.length + new.length) v' w' (E.rx k ++ news) (.inl ⟨rfl, old.length, hk, by omega, fun h => h5 (by omega)⟩)
          (fun b hb => (h4 b hb).imp id (fun h => ⟨e', sz', old.length, hk, h, fun i hi => List.getElem?_append_left hi⟩)) h2 h3
        have hold : ∀ i j (hi : i < old.length) (hj : j < old[i].length), ∃ u, (E.rx k)[i * sz' + j]? = some u ∧ Rd E.m (old[i][j]) u := by
          intro i j hi hj
          rw [hrv] at hx1
          obtain ⟨A, cap, hA, _, _, hs0, ys, hyl, hyr, hym⟩ := rd_cells hx1
          obtain ⟨u, h7, h8⟩ := hyr i j hi hj
          refine ⟨u, ?_, h8⟩
          obtain ⟨b, o, h9, h10⟩ := hym _ _ h7
          have hblk : (E.rv k).ownBlock = some b := by rw [hA, h9]; rfl
          have ho : o = 0 := by
            rcases hown.2 with ⟨h11, _⟩ | ⟨gg, cap', cur, h11, _⟩
            · rw [h11] at hA; injection hA with hA1; rw [← hA1] at h9; cases h9
            · rw [h11] at hA; injection hA with hA1; rw [← hA1] at h9; cases h9; rfl
          subst ho
          rw [← ((hmm b hblk).1 _), ← h10]; simp
        obtain ⟨c1, c2, c3, c4, c5, c6, c7⟩ := hc0
        have hso : ∀ i (h : i < old.length), old[i].length = sz' := by
          obtain ⟨A, cap, hA, _, _, hs0, _⟩ := rd_cells hx1
          exact hs0
        refine ⟨v', w', E', h1 ty pos af, g1, g5 (old ++ new) (by simp) (rd_row h2 (by simp) (fun i h => ?_) g3 ?_)⟩
        · by_cases hlt : i < old.length
          · rw [List.getElem_append_left hlt]; exact hso i hlt
          · rw [List.getElem_append_right (by omega)]; exact c5 _ (by simp)
        · intro i j hi hj
          obtain ⟨u, h7, h8⟩ := append_el hown.1 hso hold h6 i j hi hj
          exact ⟨u, h7, h8.mono g4⟩
      · intro _ _ _ h; cases h
    · intro _ _ _ h; cases h
  · intro _ _ _ h; cases h
end
end Go.Proofs.YtojcjbaimdjhoaaGreatDoor
