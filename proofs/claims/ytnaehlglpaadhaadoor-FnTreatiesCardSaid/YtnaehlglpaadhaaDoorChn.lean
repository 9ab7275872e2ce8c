/- Paths in a graph of nine nodes: the best path, what a search breadth first keeps, what distances keep. Plain lists and numbers, no program. -/
namespace Go.Proofs.YtnaehlglpaadhaaDoor
set_option linter.unusedVariables false
set_option linter.unusedSimpArgs false

theorem len_of_nodup : ∀ (R L : List Int), R.Nodup → (∀ x ∈ R, x ∈ L) → R.length ≤ L.length
  | [], L, _, _ => Nat.zero_le _
  | x :: r, L, h, hs => by
    have hx := hs x (List.mem_cons_self ..)
    rw [List.nodup_cons] at h
    have := len_of_nodup r (L.erase x) h.2 (fun y hy => (List.mem_erase_of_ne (by rintro rfl; exact h.1 hy)).2 (hs y (List.mem_cons_of_mem _ hy)))
    rw [List.length_erase_of_mem hx] at this
    have : 0 < L.length := List.length_pos_of_mem hx
    simp; omega

/-- The nine nodes. -/
def posts : List Int := [0, 1, 2, 3, 4, 5, 6, 7, 8]
theorem mem_posts {x : Int} : x ∈ posts ↔ 0 ≤ x ∧ x ≤ 8 := by simp only [posts, List.mem_cons, List.not_mem_nil, or_false]; omega
def InP (R : List Int) : Prop := ∀ x ∈ R, 0 ≤ x ∧ x ≤ 8
theorem nodup_len {R : List Int} (h : R.Nodup) (hp : InP R) : R.length ≤ 9 := len_of_nodup R posts h (fun x hx => mem_posts.2 (hp x hx))
structure Graph (adj : Int → Int → Bool) : Prop where
  sym : ∀ x y, adj x y = adj y x
  rng : ∀ x y, adj x y = true → 0 ≤ x ∧ x ≤ 8

/-- A list as a number: the longer list is the greater, of two of one length the later one in the order of the reversed lists. -/
def code : List Int → Int
  | [] => 0
  | x :: r => 10 * code r + (x + 1)
theorem InP.tail {x : Int} {r : List Int} (h : InP (x :: r)) : InP r := fun y hy => h y (List.mem_cons_of_mem _ hy)
theorem InP.head {x : Int} {r : List Int} (h : InP (x :: r)) : 0 ≤ x ∧ x ≤ 8 := h x (List.mem_cons_self ..)
theorem code_nonneg : ∀ {R : List Int}, InP R → 0 ≤ code R
  | [], _ => by simp [code]
  | x :: r, h => by have := code_nonneg h.tail; have := h.head; simp only [code]; omega
theorem code_inj : ∀ {R S : List Int}, InP R → InP S → code R = code S → R = S
  | [], [], _, _, _ => rfl
  | [], y :: s, _, hs, e => by have := code_nonneg hs.tail; have := hs.head; simp only [code] at e; omega
  | x :: r, [], hr, _, e => by have := code_nonneg hr.tail; have := hr.head; simp only [code] at e; omega
  | x :: r, y :: s, hr, hs, e => by
    have := hr.head; have := hs.head
    simp only [code] at e
    obtain rfl : x = y := by omega
    rw [code_inj hr.tail hs.tail (by omega)]
theorem code_len : ∀ {R S : List Int}, InP R → InP S → R.length < S.length → code R < code S
  | _, [], _, _, h => by simp at h
  | [], y :: s, _, hs, _ => by have := code_nonneg hs.tail; have := hs.head; simp only [code]; omega
  | x :: r, y :: s, hr, hs, h => by
    have := code_len hr.tail hs.tail (by simpa using h)
    have := hr.head; have := hs.head
    simp only [code]; omega

/-! ### Paths: the list's head is the path's end -/
section
variable {adj : Int → Int → Bool}
def Wk (adj : Int → Int → Bool) (R : List Int) : Prop := ∀ (i : Nat) (x y : Int), R[i]? = some x → R[i + 1]? = some y → adj x y = true
/-- A path from a to b, b in front. -/
structure Path (adj : Int → Int → Bool) (a b : Int) (R : List Int) : Prop where
  first : R[0]? = some b
  last : R[R.length - 1]? = some a
  wk : Wk adj R
  inP : InP R
theorem Path.pos {a b : Int} {R : List Int} (h : Path adj a b R) : 0 < R.length := (List.getElem?_eq_some_iff.1 h.first).1
theorem Path.form {a b : Int} {R : List Int} (h : Path adj a b R) : ∃ r, R = b :: r := by
  have := h.first
  cases R with
  | nil => simp at this
  | cons x r => simp at this; subst this; exact ⟨r, rfl⟩
theorem path_one {a : Int} (ha : 0 ≤ a ∧ a ≤ 8) : Path adj a a [a] := ⟨rfl, rfl, fun i x y h1 h2 => by simp at h2, fun x hx => by simp at hx; subst hx; exact ha⟩
theorem path_one_eq {a b : Int} (h : Path adj a b [b]) : b = a := by have := h.last; simpa using this
theorem Path.cons {a b q : Int} {R : List Int} (G : Graph adj) (h : Path adj a b R) (hq : adj b q = true) : Path adj a q (q :: R) := by
  refine ⟨rfl, ?_, ?_, ?_⟩
  · have := h.pos
    rw [List.length_cons, Nat.add_sub_cancel, show R.length = R.length - 1 + 1 by omega, List.getElem?_cons_succ]; exact h.last
  · rintro (_ | i) x y h1 h2
    · simp at h1; subst h1
      rw [List.getElem?_cons_succ, h.first] at h2; injection h2 with h2; subst h2
      rw [G.sym]; exact hq
    · exact h.wk i x y (by simpa using h1) (by simpa using h2)
  · intro x hx
    rcases List.mem_cons.1 hx with rfl | hx
    · exact G.rng x b (by rw [G.sym]; exact hq)
    · exact h.inP x hx
theorem Path.tail {a b u : Int} {r : List Int} (h : Path adj a b (b :: u :: r)) : Path adj a u (u :: r) ∧ adj b u = true := by
  refine ⟨⟨rfl, ?_, ?_, h.inP.tail⟩, h.wk 0 b u rfl rfl⟩
  · have := h.last
    simpa using this
  · intro i x y h1 h2
    exact h.wk (i + 1) x y (by simpa using h1) (by simpa using h2)
theorem mem_at {R : List Int} {x : Int} (h : x ∈ R) : ∃ i : Nat, R[i]? = some x := List.mem_iff_getElem?.1 h
/-- The way back. -/
theorem Path.rev {a b : Int} {R : List Int} (G : Graph adj) (h : Path adj a b R) : Path adj b a R.reverse := by
  have hp := h.pos
  refine ⟨?_, ?_, ?_, fun x hx => h.inP x (by simpa using hx)⟩
  · rw [List.getElem?_reverse (by omega)]; exact h.last
  · rw [List.length_reverse, List.getElem?_reverse (by omega), show R.length - 1 - (R.length - 1) = 0 by omega]; exact h.first
  · intro i x y h1 h2
    have hi : i + 1 < R.length := by have := (List.getElem?_eq_some_iff.1 h2).1; simpa using this
    rw [List.getElem?_reverse (by omega)] at h1 h2
    have := h.wk (R.length - 1 - (i + 1)) y x h2 (by rw [show R.length - 1 - (i + 1) + 1 = R.length - 1 - i by omega]; exact h1)
    rw [G.sym]; exact this
/-- Of a path: what lies behind the first m nodes from its end on is a path. -/
theorem Path.drop {a b u : Int} {R : List Int} {m : Nat} (h : Path adj a b R) (hu : R[m]? = some u) : Path adj a u (R.drop m) := by
  have hm := (List.getElem?_eq_some_iff.1 hu).1
  refine ⟨by rw [List.getElem?_drop]; exact hu, ?_, ?_, fun x hx => h.inP x (List.mem_of_mem_drop hx)⟩
  · rw [List.getElem?_drop, List.length_drop, show m + (R.length - m - 1) = R.length - 1 by omega]; exact h.last
  · intro i x y h1 h2
    rw [List.getElem?_drop] at h1 h2
    exact h.wk (m + i) x y h1 (by rw [← h2]; congr 1)
theorem Path.take {a b u : Int} {R : List Int} {m : Nat} (h : Path adj a b R) (hu : R[m]? = some u) : Path adj u b (R.take (m + 1)) := by
  have hm := (List.getElem?_eq_some_iff.1 hu).1
  refine ⟨by rw [List.getElem?_take, if_pos (by omega)]; exact h.first, ?_, ?_, fun x hx => h.inP x (List.mem_of_mem_take hx)⟩
  · rw [List.length_take, List.getElem?_take, if_pos (by omega), show min (m + 1) R.length - 1 = m by omega]; exact hu
  · intro i x y h1 h2
    rw [List.getElem?_take] at h1 h2
    split at h1 <;> split at h2
    · exact h.wk i x y h1 h2
    all_goals simp at h1 h2
/-- Each path has one of no more than nine nodes beside it, no longer. -/
theorem Path.short {a b : Int} : ∀ (n : Nat) {R : List Int}, R.length ≤ n → Path adj a b R → ∃ S, Path adj a b S ∧ S.length ≤ 9 ∧ S.length ≤ R.length
  | 0, R, hn, h => by have := h.pos; omega
  | n + 1, R, hn, h => by
    by_cases hd : R.Nodup
    · exact ⟨R, h, nodup_len hd h.inP, Nat.le_refl _⟩
    · rw [List.Nodup, List.pairwise_iff_getElem] at hd
      simp only [Classical.not_forall, Decidable.not_not] at hd
      obtain ⟨i, j, hi, hj, hij, e⟩ := hd
      have hS : Path adj a b (R.take i ++ R.drop j) := by
        have hl : (R.take i).length = i := by rw [List.length_take]; omega
        refine ⟨?_, ?_, ?_, ?_⟩
        · rcases Nat.eq_zero_or_pos i with h0 | h0
          · subst h0
            simp only [List.take_zero, List.nil_append, List.getElem?_drop, Nat.add_zero]
            rw [List.getElem?_eq_getElem hj, ← e, ← List.getElem?_eq_getElem hi]; exact h.first
          · rw [List.getElem?_append_left (by omega), List.getElem?_take, if_pos h0]; exact h.first
        · rw [List.length_append, hl, List.length_drop, List.getElem?_append_right (by omega), hl, List.getElem?_drop, show j + (i + (R.length - j) - 1 - i) = R.length - 1 by omega]; exact h.last
        · intro k x y h1 h2
          rcases Nat.lt_or_ge (k + 1) i with hk | hk
          · rw [List.getElem?_append_left (by omega), List.getElem?_take, if_pos (by omega)] at h1 h2
            exact h.wk k x y h1 h2
          · rw [List.getElem?_append_right (by omega), hl, List.getElem?_drop] at h2
            rcases Nat.lt_or_ge k i with hk2 | hk2
            · rw [List.getElem?_append_left (by omega), List.getElem?_take, if_pos (by omega)] at h1
              rw [show j + (k + 1 - i) = j by omega, List.getElem?_eq_getElem hj, ← e, ← List.getElem?_eq_getElem hi] at h2
              exact h.wk k x y h1 (by rw [show k + 1 = i by omega]; exact h2)
            · rw [List.getElem?_append_right (by omega), hl, List.getElem?_drop] at h1
              exact h.wk (j + (k - i)) x y h1 (by rw [← h2]; congr 1; omega)
        · intro x hx
          rcases List.mem_append.1 hx with hx | hx
          · exact h.inP x (List.mem_of_mem_take hx)
          · exact h.inP x (List.mem_of_mem_drop hx)
      have hlen : (R.take i ++ R.drop j).length < R.length := by simp; omega
      obtain ⟨S, h1, h2, h3⟩ := Path.short n (by omega) hS
      exact ⟨S, h1, h2, by omega⟩

/-- The path that a search finds: the least number. -/
def Best (adj : Int → Int → Bool) (a b : Int) (R : List Int) : Prop := Path adj a b R ∧ ∀ S, Path adj a b S → code R ≤ code S
theorem Best.unique {a b : Int} {R S : List Int} (h : Best adj a b R) (g : Best adj a b S) : R = S :=
  code_inj h.1.inP g.1.inP (by have := h.2 S g.1; have := g.2 R h.1; omega)
def Reach (adj : Int → Int → Bool) (a b : Int) : Prop := ∃ R, Path adj a b R
/-- The best path in its order from a to b, or nothing. -/
noncomputable def chV (adj : Int → Int → Bool) (a b : Int) : List Int := Classical.epsilon (fun L => (∃ R, Best adj a b R ∧ L = R.reverse) ∨ (¬ Reach adj a b) ∧ L = [])
theorem chV_best {a b : Int} {R : List Int} (h : Best adj a b R) : chV adj a b = R.reverse := by
  have hs := Classical.epsilon_spec (p := fun L => (∃ R, Best adj a b R ∧ L = R.reverse) ∨ (¬ Reach adj a b) ∧ L = []) ⟨R.reverse, .inl ⟨R, h, rfl⟩⟩
  rcases hs with ⟨S, h1, h2⟩ | ⟨h1, _⟩
  · rw [h.unique h1]; exact h2
  · exact absurd ⟨R, h.1⟩ h1
theorem chV_none {a b : Int} (h : ¬ Reach adj a b) : chV adj a b = [] := by
  have hs := Classical.epsilon_spec (p := fun L => (∃ R, Best adj a b R ∧ L = R.reverse) ∨ (¬ Reach adj a b) ∧ L = []) ⟨[], .inr ⟨h, rfl⟩⟩
  rcases hs with ⟨S, h1, h2⟩ | ⟨_, h2⟩
  · exact absurd ⟨S, h1.1⟩ h
  · exact h2

theorem best_of_path {a b : Int} : ∀ (n : Nat) {R : List Int}, (code R).toNat ≤ n → Path adj a b R → ∃ S, Best adj a b S
  | 0, R, hn, h => by
    have := code_nonneg h.inP
    exact ⟨R, h, fun S hS => by have := code_nonneg hS.inP; omega⟩
  | n + 1, R, hn, h => by
    by_cases hall : ∀ S, Path adj a b S → code R ≤ code S
    · exact ⟨R, h, hall⟩
    · simp only [Classical.not_forall] at hall
      obtain ⟨S, hS, hlt⟩ := hall
      have := code_nonneg hS.inP
      exact best_of_path n (by omega) hS
theorem Reach.best {a b : Int} (h : Reach adj a b) : ∃ S, Best adj a b S := by obtain ⟨R, hR⟩ := h; exact best_of_path _ (Nat.le_refl _) hR
theorem chV_pos {a b : Int} : 0 < (chV adj a b).length ↔ Reach adj a b := by
  constructor
  · intro h
    apply Classical.byContradiction
    intro hn
    rw [chV_none hn] at h; simp at h
  · intro h
    obtain ⟨S, hS⟩ := h.best
    rw [chV_best hS, List.length_reverse]; exact hS.1.pos
theorem Path.mono {adj' : Int → Int → Bool} {a b : Int} {R : List Int} (h : Path adj a b R) (hm : ∀ x y, adj x y = true → adj' x y = true) : Path adj' a b R :=
  ⟨h.first, h.last, fun i x y h1 h2 => hm x y (h.wk i x y h1 h2), h.inP⟩
theorem Reach.mono {adj' : Int → Int → Bool} {a b : Int} (h : Reach adj a b) (hm : ∀ x y, adj x y = true → adj' x y = true) : Reach adj' a b := by obtain ⟨R, hR⟩ := h; exact ⟨R, hR.mono hm⟩
theorem Best.len9 {a b : Int} {R : List Int} (h : Best adj a b R) : R.length ≤ 9 := by
  obtain ⟨S, h1, h2, h3⟩ := Path.short R.length (Nat.le_refl _) h.1
  rcases Nat.lt_or_ge S.length R.length with hlt | hge
  · have := code_len h1.inP h.1.inP hlt; have := h.2 S h1; omega
  · omega
theorem chV_len (a b : Int) : (chV adj a b).length ≤ 9 := by
  by_cases h : Reach adj a b
  · obtain ⟨S, hS⟩ := h.best
    rw [chV_best hS, List.length_reverse]; exact hS.len9
  · rw [chV_none h]; simp

/-! ### A search breadth first -/
def hd (R : List Int) : Int := R.headD 0
theorem Path.hd {a b : Int} {R : List Int} (h : Path adj a b R) : hd R = b := by obtain ⟨r, rfl⟩ := h.form; rfl
structure BInv (adj : Int → Int → Bool) (a : Int) (Q : List (List Int)) (k : Nat) (done : List Int) : Prop where
  zero : Q[0]? = some [a]
  path : ∀ (j : Nat) (R : List Int), Q[j]? = some R → Path adj a (hd R) R
  len : ∀ (j : Nat) (R : List Int), Q[j]? = some R → R.length ≤ j + 1
  heads : (Q.map hd).Nodup
  sorted : ∀ (i j : Nat) (R S : List Int), i < j → Q[i]? = some R → Q[j]? = some S → code R < code S
  by_ : ∀ (j : Nat) (S : List Int), Q[j + 1]? = some S → ∃ (i : Nat) (R : List Int) (q : Int), i ≤ j ∧ i ≤ k ∧ Q[i]? = some R ∧ S = q :: R ∧ (i = k → q ∈ done)
  closed : ∀ (i : Nat) (R : List Int), i < k → Q[i]? = some R → ∀ (q : Int), adj (hd R) q = true → ∃ (j : Nat) (S : List Int), Q[j]? = some S ∧ hd S = q ∧ code S ≤ 10 * code R + (q + 1)
  now : ∀ (R : List Int), Q[k]? = some R → ∀ (q : Int), q ∈ done → ∃ (j : Nat) (S : List Int), Q[j]? = some S ∧ hd S = q ∧ code S ≤ 10 * code R + (q + 1)
namespace BInv
variable {a : Int} {Q : List (List Int)} {k : Nat} {done : List Int}
theorem start (ha : 0 ≤ a ∧ a ≤ 8) : BInv adj a [[a]] 0 [] where
  zero := rfl
  path := fun j R h => by cases j with
    | zero => simp at h; subst h; exact path_one ha
    | succ j => simp at h
  len := fun j R h => by cases j with
    | zero => simp at h; subst h; simp
    | succ j => simp at h
  heads := by simp
  sorted := fun i j R S hij h1 h2 => by cases j with
    | zero => omega
    | succ j => simp at h2
  by_ := fun j S h => by simp at h
  closed := fun i R hi => by omega
  now := fun R _ q hq => by cases hq
theorem size (h : BInv adj a Q k done) : Q.length ≤ 9 := by
  have := nodup_len h.heads (by
    intro x hx
    obtain ⟨R, hR, rfl⟩ := List.mem_map.1 hx
    obtain ⟨j, hj⟩ := List.mem_iff_getElem?.1 hR
    have hp := h.path j R hj
    obtain ⟨r, e⟩ := hp.form
    exact hp.inP _ (by rw [e]; exact List.mem_cons_self ..))
  simpa using this
theorem len9 (h : BInv adj a Q k done) {j : Nat} {R : List Int} (hj : Q[j]? = some R) : 0 < R.length ∧ R.length ≤ 9 := by
  have := h.len j R hj; have := h.size; have := (List.getElem?_eq_some_iff.1 hj).1; have := (h.path j R hj).pos
  omega
theorem first_le (h : BInv adj a Q k done) {j : Nat} {R : List Int} (hj : Q[j]? = some R) : code [a] ≤ code R := by
  rcases Nat.eq_zero_or_pos j with h0 | h0
  · subst h0; rw [h.zero] at hj; injection hj with hj; rw [hj]; exact Int.le_refl _
  · exact Int.le_of_lt (h.sorted 0 j _ _ h0 h.zero hj)
theorem skip (h : BInv adj a Q k done) (ha : 0 ≤ a ∧ a ≤ 8) {R : List Int} (hR : Q[k]? = some R) {p : Int} (hp : p ∈ Q.map hd) : BInv adj a Q k (done ++ [p]) where
  zero := h.zero
  path := h.path
  len := h.len
  heads := h.heads
  sorted := h.sorted
  by_ := fun j S hS => by obtain ⟨i, T, q, h1, h2, h3, h4, h5⟩ := h.by_ j S hS; exact ⟨i, T, q, h1, h2, h3, h4, fun e => List.mem_append_left _ (h5 e)⟩
  closed := h.closed
  now := fun R' hR' q hq => by
    rw [hR] at hR'; injection hR' with hR'; subst hR'
    rcases List.mem_append.1 hq with hq | hq
    · exact h.now R hR q hq
    · simp at hq; subst hq
      obtain ⟨S, hS, hS2⟩ := List.mem_map.1 hp
      obtain ⟨j, hj⟩ := List.mem_iff_getElem?.1 hS
      refine ⟨j, S, hj, hS2, ?_⟩
      have hf := h.first_le hR
      simp only [code] at hf
      cases j with
      | zero =>
        rw [h.zero] at hj; injection hj with hj; subst hj
        simp only [hd, List.headD_cons] at hS2; subst hS2
        simp only [code]; omega
      | succ j =>
        obtain ⟨i, T, r, h1, h2, h3, h4, h5⟩ := h.by_ j S hj
        subst h4
        simp only [hd, List.headD_cons] at hS2; subst hS2
        simp only [code]
        rcases Nat.lt_or_ge i k with hik | hik
        · have := h.sorted i k T R hik h3 hR; omega
        · have : i = k := by omega
          subst this; rw [hR] at h3; injection h3 with h3; subst h3; omega
theorem push (h : BInv adj a Q k done) (ha : 0 ≤ a ∧ a ≤ 8) (G : Graph adj) {R : List Int} (hR : Q[k]? = some R) {p : Int} (hadj : adj (hd R) p = true) (hp : p ∉ Q.map hd) (hasc : ∀ q ∈ done, q < p) (hin : InP done) : BInv adj a (Q ++ [p :: R]) k (done ++ [p]) := by
  have hk := (List.getElem?_eq_some_iff.1 hR).1
  have hold : ∀ {j : Nat} {S : List Int}, Q[j]? = some S → (Q ++ [p :: R])[j]? = some S := fun {j S} hj => by
    rw [List.getElem?_append_left (List.getElem?_eq_some_iff.1 hj).1]; exact hj
  have hcase : ∀ {j : Nat} {S : List Int}, (Q ++ [p :: R])[j]? = some S → (j < Q.length ∧ Q[j]? = some S) ∨ (j = Q.length ∧ S = p :: R) := fun {j S} hj => by
    rcases Nat.lt_or_ge j Q.length with hlt | hge
    · rw [List.getElem?_append_left hlt] at hj; exact .inl ⟨hlt, hj⟩
    · rw [List.getElem?_append_right hge] at hj
      have := (List.getElem?_eq_some_iff.1 hj).1
      simp at this
      have : j = Q.length := by omega
      subst this; simp at hj; exact .inr ⟨rfl, hj.symm⟩
  have hpath := (h.path k R hR).cons G hadj
  have hp8 := hpath.inP.head
  have hR1 := h.first_le hR
  refine ⟨hold h.zero, ?_, ?_, ?_, ?_, ?_, ?_, ?_⟩
  · intro j S hj
    rcases hcase hj with ⟨_, hj⟩ | ⟨_, rfl⟩
    · exact h.path j S hj
    · exact hpath
  · intro j S hj
    rcases hcase hj with ⟨_, hj⟩ | ⟨rfl, rfl⟩
    · exact h.len j S hj
    · have := h.len k R hR; simp; omega
  · rw [List.map_append, List.nodup_append]
    refine ⟨h.heads, by simp, ?_⟩
    intro x hx y hy e
    simp [hd] at hy; subst hy; subst e; exact hp hx
  · intro i j S T hij hS hT
    rcases hcase hT with ⟨hj, hT⟩ | ⟨rfl, rfl⟩
    · rcases hcase hS with ⟨_, hS⟩ | ⟨rfl, _⟩
      · exact h.sorted i j S T hij hS hT
      · omega
    · rcases hcase hS with ⟨_, hS⟩ | ⟨rfl, _⟩
      · simp only [code] at hR1 ⊢
        cases i with
        | zero => rw [h.zero] at hS; injection hS with hS; subst hS; simp only [code]; omega
        | succ i =>
          obtain ⟨i', T', q, h1, h2, h3, h4, h5⟩ := h.by_ i S hS
          subst h4
          have hq := (h.path _ _ hS).inP.head
          simp only [code]
          rcases Nat.lt_or_ge i' k with hik | hik
          · have := h.sorted i' k T' R hik h3 hR; omega
          · have : i' = k := by omega
            subst this; rw [hR] at h3; injection h3 with h3; subst h3
            have := hasc q (h5 rfl); omega
      · omega
  · intro j S hj
    rcases hcase hj with ⟨_, hj⟩ | ⟨hjl, rfl⟩
    · obtain ⟨i, T, q, h1, h2, h3, h4, h5⟩ := h.by_ j S hj
      exact ⟨i, T, q, h1, h2, hold h3, h4, fun e => List.mem_append_left _ (h5 e)⟩
    · exact ⟨k, R, p, by omega, Nat.le_refl _, hold hR, rfl, fun _ => by simp⟩
  · intro i S hi hS q hq
    rcases hcase hS with ⟨_, hS⟩ | ⟨hjl, _⟩
    · obtain ⟨j, T, h1, h2, h3⟩ := h.closed i S hi hS q hq
      exact ⟨j, T, hold h1, h2, h3⟩
    · omega
  · intro S hS q hq
    rcases hcase hS with ⟨_, hS⟩ | ⟨hjl, _⟩
    · rcases List.mem_append.1 hq with hq | hq
      · obtain ⟨j, T, h1, h2, h3⟩ := h.now S hS q hq
        exact ⟨j, T, hold h1, h2, h3⟩
      · simp at hq; subst hq
        rw [hold hR] at hS; injection hS with hS; subst hS
        exact ⟨Q.length, q :: R, by simp, rfl, by simp only [code]; omega⟩
    · omega
theorem next (h : BInv adj a Q k done) {R : List Int} (hR : Q[k]? = some R) (hd' : ∀ q, adj (hd R) q = true → q ∈ done) : BInv adj a Q (k + 1) [] where
  zero := h.zero
  path := h.path
  len := h.len
  heads := h.heads
  sorted := h.sorted
  by_ := fun j S hS => by obtain ⟨i, T, q, h1, h2, h3, h4, h5⟩ := h.by_ j S hS; exact ⟨i, T, q, h1, by omega, h3, h4, fun e => by omega⟩
  closed := fun i S hi hS q hq => by
    rcases Nat.lt_or_ge i k with hik | hik
    · exact h.closed i S hik hS q hq
    · have : i = k := by omega
      subst this; rw [hR] at hS; injection hS with hS; subst hS
      exact h.now R hR q (hd' q hq)
  now := fun _ _ q hq => by cases hq
theorem reached (h : BInv adj a Q k done) (G : Graph adj) : ∀ {S : List Int} {v : Int}, Path adj a v S → (∃ (j : Nat) (T : List Int), Q[j]? = some T ∧ hd T = v ∧ code T ≤ code S) ∨ ∃ (j : Nat) (T : List Int), k ≤ j ∧ Q[j]? = some T ∧ code T ≤ code S
  | [], v, hS => by have := hS.first; simp at this
  | [x], v, hS => by
    have hx := hS.hd; simp [hd] at hx; subst hx
    have := path_one_eq hS; subst this
    exact .inl ⟨0, _, h.zero, rfl, Int.le_refl _⟩
  | x :: u :: r, v, hS => by
    have hx := hS.hd; simp [hd] at hx; subst hx
    obtain ⟨hu, hadj⟩ := hS.tail
    have hx8 := hS.inP.head
    have c0 := code_nonneg hu.inP
    rcases reached h G hu with ⟨j, T, h1, h2, h3⟩ | ⟨j, T, h1, h2, h3⟩
    · rcases Nat.lt_or_ge j k with hjk | hjk
      · left
        obtain ⟨m, S', g1, g2, g3⟩ := h.closed j T hjk h1 x (by rw [h2, G.sym]; exact hadj)
        exact ⟨m, S', g1, g2, by simp only [code] at *; omega⟩
      · exact .inr ⟨j, T, hjk, h1, by simp only [code] at *; omega⟩
    · exact .inr ⟨j, T, h1, h2, by simp only [code] at *; omega⟩
theorem head_inj (h : BInv adj a Q k done) {i j : Nat} {R S : List Int} (hi : Q[i]? = some R) (hj : Q[j]? = some S) (e : hd R = hd S) : i = j := by
  have h1 := h.heads
  rw [List.Nodup, List.pairwise_iff_getElem] at h1
  have li := (List.getElem?_eq_some_iff.1 hi)
  have lj := (List.getElem?_eq_some_iff.1 hj)
  obtain ⟨li, ei⟩ := li
  obtain ⟨lj, ej⟩ := lj
  rcases Nat.lt_trichotomy i j with hij | hij | hij
  · have := h1 i j (by simpa using li) (by simpa using lj) hij
    simp [ei, ej] at this; exact absurd e this
  · exact hij
  · have := h1 j i (by simpa using lj) (by simpa using li) hij
    simp [ei, ej] at this; exact absurd e.symm this
theorem found (h : BInv adj a Q k done) (G : Graph adj) {R : List Int} (hR : Q[k]? = some R) : Best adj a (hd R) R := by
  refine ⟨h.path k R hR, fun S hS => ?_⟩
  rcases h.reached G hS with ⟨j, T, h1, h2, h3⟩ | ⟨j, T, h1, h2, h3⟩
  · have := h.head_inj h1 hR h2
    subst this; rw [hR] at h1; injection h1 with h1; subst h1; exact h3
  · rcases Nat.lt_or_ge k j with hkj | hkj
    · have := h.sorted k j R T hkj hR h2; omega
    · have : j = k := by omega
      subst this; rw [hR] at h2; injection h2 with h2; subst h2; exact h3
theorem none (h : BInv adj a Q k done) (G : Graph adj) (hk : Q.length ≤ k) {b : Int} (hb : ∀ (j : Nat) (R : List Int), j < k → Q[j]? = some R → hd R ≠ b) : ¬ Reach adj a b := by
  rintro ⟨S, hS⟩
  rcases h.reached G hS with ⟨j, T, h1, h2, h3⟩ | ⟨j, T, h1, h2, h3⟩
  · exact hb j T (by have := (List.getElem?_eq_some_iff.1 h1).1; omega) h1 h2
  · have := (List.getElem?_eq_some_iff.1 h2).1; omega
end BInv

/-! ### Distances -/
/-- What a list of nine numbers says at a node. -/
def dAt (D : List Int) (u : Int) : Int := D.getD u.toNat 0
/-- The numbers are distances to b, 99 where there is no path. -/
structure Dist (adj : Int → Int → Bool) (b : Int) (D : List Int) : Prop where
  size : D.length = 9
  bd : ∀ u, 0 ≤ u → u ≤ 8 → 0 ≤ dAt D u ∧ dAt D u ≤ 99
  some_ : ∀ u, 0 ≤ u → u ≤ 8 → dAt D u < 99 → ∃ R, Path adj b u R ∧ (R.length : Int) = dAt D u + 1
  least : ∀ u R, Path adj b u R → dAt D u + 1 ≤ R.length
/-- In the midst of the rounds: r rounds are done, in the next one the nodes below k, of the node k the neighbours in done. -/
structure DInv (adj : Int → Int → Bool) (b : Int) (D : List Int) (r : Nat) (k : Int) (done : List Int) : Prop where
  size : D.length = 9
  bd : ∀ u, 0 ≤ u → u ≤ 8 → 0 ≤ dAt D u ∧ dAt D u ≤ 99
  some_ : ∀ u, 0 ≤ u → u ≤ 8 → dAt D u < 99 → ∃ R, Path adj b u R ∧ (R.length : Int) = dAt D u + 1
  least : ∀ u R, Path adj b u R → R.length ≤ r + 1 → dAt D u + 1 ≤ R.length
  next : ∀ u R, u < k → Path adj b u R → R.length ≤ r + 2 → dAt D u + 1 ≤ R.length
  now : ∀ v, v ∈ done → ∀ R, Path adj b v R → R.length ≤ r + 1 → dAt D k ≤ R.length
theorem dAt_set {D : List Int} {u v z : Int} (hD : D.length = 9) (hu : 0 ≤ u ∧ u ≤ 8) (hv : 0 ≤ v ∧ v ≤ 8) : dAt (D.set u.toNat z) v = if v = u then z else dAt D v := by
  unfold dAt
  rw [List.getD_eq_getElem?_getD, List.getElem?_set, List.getD_eq_getElem?_getD]
  by_cases h : v = u
  · subst h; rw [if_pos rfl, if_pos (by omega), if_pos rfl]; rfl
  · rw [if_neg (by omega), if_neg h]
namespace DInv
variable {b : Int} {D : List Int} {r : Nat} {k : Int} {done : List Int}
theorem start (hb : 0 ≤ b ∧ b ≤ 8) : DInv adj b ((List.replicate 9 99).set b.toNat 0) 0 0 [] := by
  have hv : ∀ v, 0 ≤ v ∧ v ≤ 8 → dAt ((List.replicate 9 99).set b.toNat 0) v = if v = b then 0 else 99 := fun v hv => by
    rw [dAt_set (by simp) hb hv]
    split
    · rfl
    · unfold dAt; rw [List.getD_eq_getElem?_getD, List.getElem?_replicate, if_pos (by omega)]; rfl
  refine ⟨by simp, ?_, ?_, ?_, ?_, ?_⟩
  · intro u h0 h8; rw [hv u ⟨h0, h8⟩]; split <;> omega
  · intro u h0 h8 h; rw [hv u ⟨h0, h8⟩] at h ⊢
    split at h
    · rename_i e; subst e; exact ⟨[u], path_one hb, by simp⟩
    · omega
  · intro u R hR hl
    obtain ⟨r, rfl⟩ := hR.form
    have : r = [] := List.eq_nil_of_length_eq_zero (by simpa using hl)
    subst this
    have := path_one_eq hR
    rw [hv u (hR.inP.head), if_pos this]; simp
  · intro u R hu hR; have := hR.inP; obtain ⟨r, rfl⟩ := hR.form; have := this.head; omega
  · intro v hv; cases hv
theorem step (h : DInv adj b D r k done) (G : Graph adj) (hk : 0 ≤ k ∧ k ≤ 8) {v : Int} (hv : adj k v = true) {z : Int} (hz : z = if dAt D k < dAt D v + 1 then dAt D k else dAt D v + 1) : DInv adj b (D.set k.toNat z) r k (done ++ [v]) := by
  have hv8 := G.rng v k (by rw [G.sym]; exact hv)
  have hS : ∀ u, 0 ≤ u ∧ u ≤ 8 → dAt (D.set k.toNat z) u = if u = k then z else dAt D u := fun u hu => dAt_set h.size hk hu
  have hle : ∀ u, 0 ≤ u ∧ u ≤ 8 → dAt (D.set k.toNat z) u ≤ dAt D u := fun u hu => by
    rw [hS u hu]; split
    · rename_i e; subst e; rw [hz]; split <;> omega
    · exact Int.le_refl _
  have bk := h.bd k hk.1 hk.2
  have bv := h.bd v hv8.1 hv8.2
  have hzk : z ≤ dAt D k := by rw [hz]; split <;> omega
  have hz0 : 0 ≤ z := by rw [hz]; split <;> omega
  have hP : ∀ {u : Int} {R : List Int}, Path adj b u R → 0 ≤ u ∧ u ≤ 8 := fun {u R} hR => by have := hR.inP; obtain ⟨r, rfl⟩ := hR.form; exact this.head
  refine ⟨by simp [h.size], ?_, ?_, ?_, ?_, ?_⟩
  · intro u h0 h8
    rw [hS u ⟨h0, h8⟩]; split
    · omega
    · exact h.bd u h0 h8
  · intro u h0 h8 hu
    rw [hS u ⟨h0, h8⟩] at hu ⊢
    split at hu
    · rename_i e; subst e
      rw [if_pos rfl]
      rw [hz] at hu ⊢
      split at hu
      · rename_i h1; rw [if_pos h1]; exact h.some_ u h0 h8 hu
      · rename_i h1
        rw [if_neg h1]
        obtain ⟨R, hR, hl⟩ := h.some_ v hv8.1 hv8.2 (by omega)
        exact ⟨u :: R, hR.cons G (by rw [G.sym]; exact hv), by simp; omega⟩
    · rename_i e; rw [if_neg e]; exact h.some_ u h0 h8 hu
  · intro u R hR hl; have := hle u (hP hR); have := h.least u R hR hl; omega
  · intro u R hu hR hl; have := hle u (hP hR); have := h.next u R hu hR hl; omega
  · intro q hq R hR hl
    rw [hS k hk, if_pos rfl]
    rcases List.mem_append.1 hq with hq | hq
    · have := h.now q hq R hR hl; omega
    · simp at hq; subst hq
      have := h.least q R hR hl
      rw [hz]; split <;> omega
theorem nextNode (h : DInv adj b D r k done) (hk : 0 ≤ k ∧ k ≤ 8) (hd' : ∀ v, adj k v = true → v ∈ done) : DInv adj b D r (k + 1) [] where
  size := h.size
  bd := h.bd
  some_ := h.some_
  least := h.least
  next := fun u R hu hR hl => by
    rcases Int.lt_or_le u k with h1 | h1
    · exact h.next u R h1 hR hl
    · obtain rfl : u = k := by omega
      obtain ⟨s, rfl⟩ := hR.form
      cases s with
      | nil => exact h.least u _ hR (by simp)
      | cons v s =>
        obtain ⟨hv, hadj⟩ := hR.tail
        have := h.now v (hd' v hadj) _ hv (by simp at hl ⊢; omega)
        simp at this ⊢; omega
  now := fun v hv => by cases hv
theorem nextRound (h : DInv adj b D r 9 []) : DInv adj b D (r + 1) 0 [] where
  size := h.size
  bd := h.bd
  some_ := h.some_
  least := fun u R hR hl => h.next u R (by have := hR.inP; obtain ⟨r, rfl⟩ := hR.form; have := this.head; omega) hR hl
  next := fun u R hu hR hl => by have := hR.inP; obtain ⟨r, rfl⟩ := hR.form; have := this.head; omega
  now := fun v hv => by cases hv
theorem done9 (h : DInv adj b D 9 k []) : Dist adj b D where
  size := h.size
  bd := h.bd
  some_ := h.some_
  least := fun u R hR => by
    obtain ⟨S, h1, h2, h3⟩ := Path.short R.length (Nat.le_refl _) hR
    have := h.least u S h1 (by omega)
    omega
end DInv
namespace Dist
variable {b : Int} {D : List Int}
theorem reach (h : Dist adj b D) {u : Int} (hu : 0 ≤ u ∧ u ≤ 8) : Reach adj b u ↔ dAt D u < 99 := by
  constructor
  · rintro ⟨R, hR⟩
    obtain ⟨S, h1, h2, h3⟩ := Path.short R.length (Nat.le_refl _) hR
    have := h.least u S h1; omega
  · intro hl
    obtain ⟨R, hR, _⟩ := h.some_ u hu.1 hu.2 hl
    exact ⟨R, hR⟩
theorem edge (h : Dist adj b D) (G : Graph adj) {u v : Int} (hu : adj u v = true) (hv : dAt D v < 99) : dAt D u ≤ dAt D v + 1 := by
  have v8 := G.rng v u (by rw [G.sym]; exact hu)
  obtain ⟨R, hR, hl⟩ := h.some_ v v8.1 v8.2 hv
  have := h.least u _ (hR.cons G (by rw [G.sym]; exact hu))
  simp at this; omega
theorem self (h : Dist adj b D) (hb : 0 ≤ b ∧ b ≤ 8) : dAt D b = 0 := by
  have := h.least b _ (path_one hb)
  have := h.bd b hb.1 hb.2
  simp at *; omega
theorem zero (h : Dist adj b D) {u : Int} (hu : 0 ≤ u ∧ u ≤ 8) (h0 : dAt D u = 0) : u = b := by
  obtain ⟨R, hR, hl⟩ := h.some_ u hu.1 hu.2 (by omega)
  obtain ⟨r, rfl⟩ := hR.form
  have : r = [] := List.eq_nil_of_length_eq_zero (by simp at hl; omega)
  subst this
  exact path_one_eq hR
end Dist
theorem Reach.sym {a b : Int} (G : Graph adj) (h : Reach adj a b) : Reach adj b a := by obtain ⟨R, hR⟩ := h; exact ⟨_, hR.rev G⟩

/-! ### The way by distances -/
/-- From a towards b: the path X is laid; no path that is as short runs, as far as X is laid, below it. -/
structure Gre (adj : Int → Int → Bool) (a b : Int) (D : List Int) (X : List Int) : Prop where
  path : Path adj a (hd X) X
  len : dAt D (hd X) + X.length = dAt D a + 1
  low : ∀ S, Path adj a b S → (S.length : Int) = dAt D a + 1 → code X ≤ code (S.drop (dAt D (hd X)).toNat)
namespace Gre
variable {a b : Int} {D X : List Int}
theorem start (hD : Dist adj b D) (ha : 0 ≤ a ∧ a ≤ 8) : Gre adj a b D [a] where
  path := path_one ha
  len := by simp [hd]
  low := fun S hS hl => by
    have hb := hD.bd a ha.1 ha.2
    have e : S.length - 1 = (dAt D (hd [a])).toNat := by simp [hd]; omega
    have hu : S[(dAt D (hd [a])).toNat]? = some a := by rw [← e]; exact hS.last
    have hp := hS.drop hu
    obtain ⟨r, hr⟩ := hp.form
    have hl1 : (S.drop (dAt D (hd [a])).toNat).length = 1 := by rw [List.length_drop, ← e]; have := hS.pos; omega
    rw [hr] at hl1 ⊢
    have : r = [] := List.eq_nil_of_length_eq_zero (by simpa using hl1)
    subst this; exact Int.le_refl _
/-- There is a next node. -/
theorem exists_next (h : Gre adj a b D X) (hD : Dist adj b D) (G : Graph adj) (ha : dAt D a < 99) (hx : hd X ≠ b) (hb : 0 ≤ b ∧ b ≤ 8) : ∃ n, adj (hd X) n = true ∧ dAt D n = dAt D (hd X) - 1 := by
  have hX := h.path.inP
  obtain ⟨r, hr⟩ := h.path.form
  have hx8 : 0 ≤ hd X ∧ hd X ≤ 8 := hX _ (by rw [hr]; exact List.mem_cons_self ..)
  have hpos := h.path.pos
  have hl := h.len
  obtain ⟨R, hR, hRl⟩ := hD.some_ (hd X) hx8.1 hx8.2 (by omega)
  obtain ⟨s, rfl⟩ := hR.form
  cases s with
  | nil => exact absurd (path_one_eq hR) hx
  | cons n s =>
    obtain ⟨hn, hadj⟩ := hR.tail
    refine ⟨n, hadj, ?_⟩
    have h1 := hD.least n _ hn
    have h2 := hD.edge G hadj (by simp at h1 hRl; omega)
    simp at h1 hRl; omega
theorem step (h : Gre adj a b D X) (hD : Dist adj b D) (G : Graph adj) (ha : dAt D a < 99) {n : Int} (hadj : adj (hd X) n = true) (hn : dAt D n = dAt D (hd X) - 1) (hmin : ∀ v, adj (hd X) v = true → dAt D v = dAt D (hd X) - 1 → n ≤ v) : Gre adj a b D (n :: X) := by
  have hpath := h.path.cons G hadj
  have hn8 := hpath.inP.head
  have hb := hD.bd n hn8.1 hn8.2
  have hl := h.len
  have hpos := h.path.pos
  refine ⟨hpath, by simp [hd] at *; omega, fun S hS hSl => ?_⟩
  have hlow := h.low S hS hSl
  obtain ⟨m, hm⟩ : ∃ m : Nat, dAt D n = m := ⟨(dAt D n).toNat, by omega⟩
  have e1 : (dAt D (hd (n :: X))).toNat = m := by simp [hd]; omega
  have e2 : (dAt D (hd X)).toNat = m + 1 := by omega
  rw [e1]
  rw [e2] at hlow
  have hmS : m < S.length := by omega
  obtain ⟨s, hs⟩ : ∃ s, S[m]? = some s := ⟨S[m], List.getElem?_eq_getElem hmS⟩
  have hdrop : S.drop m = s :: S.drop (m + 1) := by
    rw [List.drop_eq_getElem_cons hmS]
    rw [List.getElem?_eq_getElem hmS] at hs; injection hs with hs; rw [hs]
  have hs8 := hS.inP s (List.mem_of_getElem? hs)
  rw [hdrop]
  simp only [code]
  have hSin : InP (S.drop (m + 1)) := fun x hx => hS.inP x (List.mem_of_mem_drop hx)
  rcases Int.lt_or_eq_of_le hlow with hlt | heq
  · omega
  · have hXS := code_inj h.path.inP hSin heq
    have hx1 : S[m + 1]? = some (hd X) := by
      have := h.path.first
      rw [hXS, List.getElem?_drop, Nat.add_zero] at this; rw [← hXS] at this; exact this
    have hadj2 : adj (hd X) s = true := by rw [G.sym]; exact hS.wk m s (hd X) hs hx1
    have hrev := (hS.take hs).rev G
    have hle := hD.least s _ hrev
    simp at hle
    have h2 := hD.edge G hadj2 (by omega)
    have := hmin s hadj2 (by omega)
    omega
theorem best (h : Gre adj a b D X) (hD : Dist adj b D) (G : Graph adj) (ha : 0 ≤ a ∧ a ≤ 8) (hb : 0 ≤ b ∧ b ≤ 8) (hx : hd X = b) : Best adj a b X := by
  have hp := h.path
  rw [hx] at hp
  refine ⟨hp, fun S hS => ?_⟩
  have h0 := hD.self hb
  have hl := h.len
  rw [hx, h0] at hl
  have hge := hD.least a _ (hS.rev G)
  simp at hge
  by_cases hSl : (S.length : Int) = dAt D a + 1
  · have := h.low S hS hSl
    rw [hx, h0] at this
    simpa using this
  · exact Int.le_of_lt (code_len hp.inP hS.inP (by omega))
end Gre
end
end Go.Proofs.YtnaehlglpaadhaaDoor
