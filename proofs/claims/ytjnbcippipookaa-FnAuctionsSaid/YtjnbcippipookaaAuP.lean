/- Steps of an auction, in plain Lean. -/
import Derived.Test.YtjnbcippipookaaAucE
namespace Go.Proofs.Ytjnbcippipookaa
set_option linter.unusedVariables false
set_option linter.unusedSimpArgs false

theorem auc_ord {xs : List R5} (h : auc xs = true) {k : Nat} {x y : R5} (hx : xs[k + 1]? = some x) (hy : xs[k]? = some y) : y.a < x.a := by
  simp only [auc, Bool.and_eq_true, List.all_eq_true] at h
  have := h.1 (k + 1) (by simpa using (List.getElem?_eq_some_iff.1 hx).1)
  simp only [okAt, hx, Bool.and_eq_true, Nat.add_sub_cancel, hy] at this
  simpa using this.2
theorem auc_sorted {xs : List R5} (h : auc xs = true) : ∀ {j : Nat} {i : Nat} {x y : R5}, i < j → xs[i]? = some x → xs[j]? = some y → x.a < y.a
  | 0, i, x, y, hij, _, _ => by omega
  | j + 1, i, x, y, hij, hx, hy => by
    have hjl : j < xs.length := by have := (List.getElem?_eq_some_iff.1 hy).1; omega
    have hb := auc_ord h hy (List.getElem?_eq_getElem hjl)
    rcases Nat.lt_or_ge i j with hlt | hge
    · have := auc_sorted h hlt hx (List.getElem?_eq_getElem hjl); omega
    · obtain rfl : i = j := by omega
      rw [List.getElem?_eq_getElem hjl] at hx; injection hx with hx; subst hx; exact hb
/-- What makes an auction. -/
theorem auc_iff {xs : List R5} : auc xs = true ↔ (∀ x ∈ xs, lotB x = true) ∧ (xs.map (·.a)).Pairwise (· < ·) ∧ xs.length ≤ 8 ∧ openN xs ≤ 1 := by
  constructor
  · intro h
    refine ⟨fun x hx => ?_, ?_, auc_len h, ?_⟩
    · obtain ⟨i, hi, rfl⟩ := List.getElem_of_mem hx
      exact auc_at h (List.getElem?_eq_getElem hi)
    · rw [List.pairwise_iff_getElem]
      intro i j hi hj hij
      simp only [List.length_map] at hi hj
      simp only [List.getElem_map]
      exact auc_sorted h hij (List.getElem?_eq_getElem hi) (List.getElem?_eq_getElem hj)
    · simp only [auc, Bool.and_eq_true, decide_eq_true_eq] at h; exact h.2.2
  · rintro ⟨h1, h2, h3, h4⟩
    rw [auc_end]
    · simp [h3, h4]
    · intro j hj
      have hx : xs[j]? = some xs[j] := List.getElem?_eq_getElem hj
      have hl := h1 _ (List.getElem_mem hj)
      by_cases h0 : j = 0
      · exact okAt_first hx hl h0
      · have hy : xs[j - 1]? = some xs[j - 1] := List.getElem?_eq_getElem (by omega)
        rw [okAt_next hx hl h0 hy]
        rw [List.pairwise_iff_getElem] at h2
        have := h2 (j - 1) j (by simp; omega) (by simpa using hj) (by omega)
        simpa using this
theorem openN_pos {xs : List R5} {k : Nat} {x : R5} (h : xs[k]? = some x) (hc : x.c = 1) : 1 ≤ openN xs := by
  have : x ∈ xs.filter (·.c == 1) := List.mem_filter.2 ⟨List.mem_of_getElem? h, by simp [hc]⟩
  exact List.length_pos_of_mem this
theorem openN_set {xs : List R5} {k : Nat} {x y : R5} (h : xs[k]? = some x) : openN (xs.set k y) + (if x.c = 1 then 1 else 0) = openN xs + (if y.c = 1 then 1 else 0) := by
  have hk := (List.getElem?_eq_some_iff.1 h).1
  have hx : xs[k] = x := by rw [List.getElem?_eq_getElem hk] at h; injection h
  have e1 : xs = xs.take k ++ x :: xs.drop (k + 1) := by rw [← hx, ← List.drop_eq_getElem_cons hk, List.take_append_drop]
  have e2 : xs.set k y = xs.take k ++ y :: xs.drop (k + 1) := by rw [List.set_eq_take_append_cons_drop, if_pos hk]
  have c1 : openN xs = openN (xs.take k) + ((if x.c = 1 then 1 else 0) + openN (xs.drop (k + 1))) := by
    conv => lhs; rw [e1]
    simp only [openN, List.filter_append, List.length_append, List.filter_cons]
    by_cases hc : x.c = 1 <;> simp [hc] <;> omega
  have c2 : openN (xs.set k y) = openN (xs.take k) + ((if y.c = 1 then 1 else 0) + openN (xs.drop (k + 1))) := by
    rw [e2]
    simp only [openN, List.filter_append, List.length_append, List.filter_cons]
    by_cases hc : y.c = 1 <;> simp [hc] <;> omega
  omega
theorem map_set_same {xs : List R5} {k : Nat} {x y : R5} (h : xs[k]? = some x) (ha : y.a = x.a) : (xs.set k y).map (·.a) = xs.map (·.a) := by
  rw [List.map_set, ha]
  apply List.ext_getElem?
  intro i
  rw [List.getElem?_set]
  split
  · rename_i e
    subst e
    have hk := (List.getElem?_eq_some_iff.1 h).1
    have hxk : xs[k] = x := by rw [List.getElem?_eq_getElem hk] at h; injection h
    simp [hk, hxk]
  · rfl
/-- A lot for another of the same Id. -/
theorem auc_set {xs : List R5} {k : Nat} {x y : R5} (h : auc xs = true) (hx : xs[k]? = some x) (ha : y.a = x.a) (hy : lotB y = true) (ho : y.c = 1 → x.c = 1 ∨ openN xs = 0) : auc (xs.set k y) = true := by
  obtain ⟨h1, h2, h3, h4⟩ := auc_iff.1 h
  refine auc_iff.2 ⟨fun z hz => ?_, ?_, by rw [List.length_set]; exact h3, ?_⟩
  · rcases List.mem_or_eq_of_mem_set hz with hz | rfl
    · exact h1 z hz
    · exact hy
  · rw [map_set_same hx ha]; exact h2
  · have := openN_set (y := y) hx
    by_cases hc : y.c = 1
    · rcases ho hc with h5 | h5
      · rw [if_pos h5, if_pos hc] at this; omega
      · rw [if_pos hc] at this; split at this <;> omega
    · rw [if_neg hc] at this; omega
theorem auc_erase {xs : List R5} {k : Nat} (h : auc xs = true) : auc (xs.eraseIdx k) = true := by
  obtain ⟨h1, h2, h3, h4⟩ := auc_iff.1 h
  have hs := List.eraseIdx_sublist xs k
  refine auc_iff.2 ⟨fun z hz => h1 z (hs.subset hz), h2.sublist (hs.map _), Nat.le_trans hs.length_le h3, Nat.le_trans (hs.filter _).length_le h4⟩
/-- No lot is open. -/
theorem open_none {xs : List R5} (h : idxV isOpen xs < 0) : openN xs = 0 := by
  rcases idxV_cases isOpen xs with ⟨-, hm⟩ | ⟨k, x, e, -, -, -⟩
  · unfold openN
    rw [List.filter_eq_nil_iff.2 (fun x hx => by have := hm x hx; simpa [isOpen] using this)]; rfl
  · omega
theorem open_some {xs : List R5} (h : ¬ idxV isOpen xs < 0) : 1 ≤ openN xs := by
  rcases idxV_cases isOpen xs with ⟨e, -⟩ | ⟨k, x, e, hx, hp, -⟩
  · omega
  · exact openN_pos hx (by simpa [isOpen] using hp)

/-! ### Where a lot stands -/
def atA (i : Int) (x : R5) : Bool := x.a == i
def posA (xs : List R5) (i : Int) : Nat := (xs.takeWhile (fun y => decide (y.a < i))).length
def hasA (xs : List R5) (i : Int) : Bool := xs.any (atA i)
theorem posA_eq {i : Int} : ∀ {xs : List R5} {k : Nat}, k ≤ xs.length → (∀ (j : Nat) (y : R5), j < k → xs[j]? = some y → y.a < i) → (∀ y, xs[k]? = some y → ¬ y.a < i) → posA xs i = k
  | [], k, hk, _, _ => by simp at hk; subst hk; rfl
  | y :: ys, 0, _, _, h2 => by have := h2 y rfl; simp [posA, List.takeWhile_cons, this]
  | y :: ys, k + 1, hk, h1, h2 => by
    have h0 := h1 0 y (by omega) rfl
    have := posA_eq (i := i) (xs := ys) (k := k) (by simpa using hk) (fun j z hj hz => h1 (j + 1) z (by omega) (by simpa using hz)) (fun z hz => h2 z (by simpa using hz))
    simp only [posA] at this ⊢
    rw [List.takeWhile_cons, if_pos (by simpa using h0)]
    simp [this]
theorem posA_le (xs : List R5) (i : Int) : posA xs i ≤ xs.length := List.IsPrefix.length_le (List.takeWhile_prefix _)
theorem find_cases {xs : List R5} (h : auc xs = true) (i : Int) : idxV (atA i) xs = -1 ∧ hasA xs i = false ∨ ∃ (k : Nat) (x : R5), idxV (atA i) xs = k ∧ posA xs i = k ∧ hasA xs i = true ∧ k < xs.length ∧ xs[k]? = some x ∧ x.a = i := by
  rcases idxV_cases (atA i) xs with ⟨e, hm⟩ | ⟨k, x, e, hx, hp, -⟩
  · left
    refine ⟨e, ?_⟩
    rw [hasA, List.any_eq_false]
    intro x hx; rw [hm x hx]; simp
  · right
    have ha : x.a = i := by simpa [atA] using hp
    have hk := (List.getElem?_eq_some_iff.1 hx).1
    refine ⟨k, x, e, posA_eq (by omega) (fun j y hj hy => by have := auc_sorted h hj hy hx; omega) (fun y hy => by rw [hx] at hy; injection hy with hy; subst hy; omega), ?_, hk, hx, ha⟩
    rw [hasA, List.any_eq_true]
    exact ⟨x, List.mem_of_getElem? hx, hp⟩
theorem open_cases {xs : List R5} (h : auc xs = true) : idxV isOpen xs = -1 ∨ ∃ (k : Nat) (x : R5), idxV isOpen xs = k ∧ k < xs.length ∧ xs[k]? = some x ∧ x.c = 1 ∧ lotB x = true := by
  rcases idxV_cases isOpen xs with ⟨e, -⟩ | ⟨k, x, e, hx, hp, -⟩
  · exact .inl e
  · exact .inr ⟨k, x, e, (List.getElem?_eq_some_iff.1 hx).1, hx, by simpa [isOpen] using hp, auc_at h hx⟩

/-! ### Steps -/
def stepB (k i b v : Int) : Bool :=
  if k = 1 then inR i 1 99 && (b == 0 && inR v 0 99999)
  else if k = 4 then (i == 0) && (inR b 1 999 && inR v 1 99999)
  else if k = 5 then (i == 0) && ((b == 0) && (v == 0))
  else if k = 2 ∨ k = 3 ∨ k = 6 then inR i 1 99 && ((b == 0) && (v == 0))
  else false
def puA (xs : List R5) (i v : Int) : List R5 := xs.take (posA xs i) ++ (⟨i, v, 0, 0, 0⟩ : R5) :: xs.drop (posA xs i)
def knC (x : R5) : Int := if 1 ≤ x.d ∧ x.b ≤ x.d then 2 else 3
/-- What a valid step makes of an auction. -/
def stO (xs : List R5) (k i b v : Int) : Option (List R5) :=
  if k = 1 then (if idxV (atA i) xs < 0 ∧ auc (puA xs i v) = true then some (puA xs i v) else none)
  else if k = 4 then match idxV isOpen xs with
    | .ofNat j => match xs[j]? with | some x => if leastV x ≤ v ∧ b ≠ x.e then some (xs.set j { x with d := v, e := b }) else none | none => none
    | _ => none
  else if k = 5 then match idxV isOpen xs with
    | .ofNat j => match xs[j]? with | some x => some (xs.set j { x with c := knC x }) | none => none
    | _ => none
  else match idxV (atA i) xs with
    | .ofNat j => match xs[j]? with
      | some x => if k = 2 then (if x.c = 0 then some (xs.eraseIdx j) else none)
        else if k = 3 then (if x.c = 0 ∧ idxV isOpen xs < 0 then some (xs.set j { x with c := 1 }) else none)
        else if x.c = 3 then some (xs.set j ⟨x.a, x.b, 0, 0, 0⟩) else none
      | none => none
    | _ => none
def stB (xs : List R5) (k i b v : Int) : Bool := (stO xs k i b v).isSome
def stL (xs : List R5) (k i b v : Int) : List R5 := (stO xs k i b v).getD []
theorem st_no {xs : List R5} {k i b v : Int} (h : stO xs k i b v = none) : stB xs k i b v = false ∧ stL xs k i b v = [] := by simp [stB, stL, h]
theorem st_yes {xs l : List R5} {k i b v : Int} (h : stO xs k i b v = some l) : stB xs k i b v = true ∧ stL xs k i b v = l := by simp [stB, stL, h]
theorem ofNat_eq (j : Nat) : (j : Int) = Int.ofNat j := rfl
theorem stO_1 (xs : List R5) (i b v : Int) : stO xs 1 i b v = if idxV (atA i) xs < 0 ∧ auc (puA xs i v) = true then some (puA xs i v) else none := by rw [stO, if_pos rfl]
theorem stO_4 {xs : List R5} {j : Nat} {x : R5} (i b v : Int) (h : idxV isOpen xs = j) (hx : xs[j]? = some x) : stO xs 4 i b v = if leastV x ≤ v ∧ b ≠ x.e then some (xs.set j { x with d := v, e := b }) else none := by
  rw [stO, if_neg (by decide), if_pos rfl, h]; simp only [ofNat_eq, hx]
theorem stO_5 {xs : List R5} {j : Nat} {x : R5} (i b v : Int) (h : idxV isOpen xs = j) (hx : xs[j]? = some x) : stO xs 5 i b v = some (xs.set j { x with c := knC x }) := by
  rw [stO, if_neg (by decide), if_neg (by decide), if_pos rfl, h]; simp only [ofNat_eq, hx]
theorem stO_45n {xs : List R5} {k : Int} (i b v : Int) (hk : k = 4 ∨ k = 5) (h : idxV isOpen xs = -1) : stO xs k i b v = none := by
  rcases hk with rfl | rfl
  · rw [stO, if_neg (by decide), if_pos rfl, h]; rfl
  · rw [stO, if_neg (by decide), if_neg (by decide), if_pos rfl, h]; rfl
theorem stO_236n {xs : List R5} {k i : Int} (b v : Int) (hk : k = 2 ∨ k = 3 ∨ k = 6) (h : idxV (atA i) xs = -1) : stO xs k i b v = none := by
  rw [stO, if_neg (by omega), if_neg (by omega), if_neg (by omega), h]; rfl
theorem stO_2 {xs : List R5} {j : Nat} {x : R5} {i : Int} (b v : Int) (h : idxV (atA i) xs = j) (hx : xs[j]? = some x) : stO xs 2 i b v = if x.c = 0 then some (xs.eraseIdx j) else none := by
  rw [stO, if_neg (by decide), if_neg (by decide), if_neg (by decide), h]; simp only [ofNat_eq, hx]; rw [if_pos trivial]
theorem stO_3 {xs : List R5} {j : Nat} {x : R5} {i : Int} (b v : Int) (h : idxV (atA i) xs = j) (hx : xs[j]? = some x) : stO xs 3 i b v = if x.c = 0 ∧ idxV isOpen xs < 0 then some (xs.set j { x with c := 1 }) else none := by
  rw [stO, if_neg (by decide), if_neg (by decide), if_neg (by decide), h]; simp only [ofNat_eq, hx]; rw [if_neg (by decide), if_pos trivial]
theorem stO_6 {xs : List R5} {j : Nat} {x : R5} {i : Int} (b v : Int) (h : idxV (atA i) xs = j) (hx : xs[j]? = some x) : stO xs 6 i b v = if x.c = 3 then some (xs.set j ⟨x.a, x.b, 0, 0, 0⟩) else none := by
  rw [stO, if_neg (by decide), if_neg (by decide), if_neg (by decide), h]; simp only [ofNat_eq, hx]; rw [if_neg (by decide), if_neg (by decide)]

/-! ### Each step leaves an auction -/
theorem bid_auc {xs : List R5} {j : Nat} {x : R5} {b v : Int} (h : auc xs = true) (hx : xs[j]? = some x) (hc : x.c = 1) (hb : 1 ≤ b ∧ b ≤ 999) (hv : 1 ≤ v ∧ v ≤ 99999) : auc (xs.set j { x with d := v, e := b }) = true := by
  refine auc_set h hx rfl ?_ (fun _ => .inl hc)
  have := auc_at h hx
  simp only [lotB, decide_eq_true_eq] at this ⊢
  refine ⟨this.1, this.2.1, by omega, by omega, by omega, .inr (.inl hc)⟩
theorem kno_auc {xs : List R5} {j : Nat} {x : R5} (h : auc xs = true) (hx : xs[j]? = some x) : auc (xs.set j { x with c := knC x }) = true := by
  refine auc_set h hx rfl ?_ (fun hc => by simp only [knC] at hc; split at hc <;> omega)
  have := auc_at h hx
  simp only [lotB, decide_eq_true_eq] at this ⊢
  refine ⟨this.1, this.2.1, this.2.2.1, this.2.2.2.1, this.2.2.2.2.1, ?_⟩
  unfold knC
  split <;> omega
theorem again_auc {xs : List R5} {j : Nat} {x : R5} (h : auc xs = true) (hx : xs[j]? = some x) : auc (xs.set j ⟨x.a, x.b, 0, 0, 0⟩) = true := by
  refine auc_set h hx rfl ?_ (fun hc => by simp at hc)
  have := auc_at h hx
  simp only [lotB, decide_eq_true_eq] at this ⊢
  refine ⟨this.1, this.2.1, by omega, by omega, by simp, by simp⟩
theorem open_auc {xs : List R5} {j : Nat} {x : R5} (h : auc xs = true) (hx : xs[j]? = some x) (hc : x.c = 0) : auc (xs.set j { x with c := 1 }) = decide (idxV isOpen xs < 0) := by
  by_cases ho : idxV isOpen xs < 0
  · rw [decide_eq_true ho]
    refine auc_set h hx rfl ?_ (fun _ => .inr (open_none ho))
    have := auc_at h hx
    simp only [lotB, decide_eq_true_eq] at this ⊢
    refine ⟨this.1, this.2.1, this.2.2.1, this.2.2.2.1, this.2.2.2.2.1, by simp⟩
  · rw [decide_eq_false ho]
    have h1 := open_some ho
    have h2 := openN_set (y := { x with c := 1 }) hx
    rw [if_neg (by omega), if_pos rfl] at h2
    cases hq : auc (xs.set j { x with c := 1 }) with
    | false => rfl
    | true => have := (auc_iff.1 hq).2.2.2; omega
theorem puA_len (xs : List R5) (i v : Int) : (puA xs i v).length = xs.length + 1 := by
  have := posA_le xs i
  simp [puA]; omega
theorem st_len {xs : List R5} (h : auc xs = true) (k i b v : Int) : (stL xs k i b v).length ≤ 9 := by
  have h8 := auc_len h
  unfold stL stO
  (repeat' split) <;> simp only [Option.getD_some, Option.getD_none, List.length_set, List.length_nil, puA_len, List.length_eraseIdx] <;> (repeat' split) <;> omega
end Go.Proofs.Ytjnbcippipookaa
