/- Lists whose elements are valid and stand in order, for elements of any kind; the widths of a strip. Plain words, no walk. -/
import Derived.Test.YtacacibpehnmgaaGreatDoorBookO
namespace Go.Proofs.YtacacibpehnmgaaGreatDoor
set_option linter.unusedVariables false
set_option linter.unusedSimpArgs false
open Go.RowKit

section
variable {α : Type} (one : α → Bool) (bef : α → α → Bool)
def okA (xs : List α) (j : Nat) : Bool := match xs[j]? with
  | some x => one x && (j == 0 || match xs[j - 1]? with | some y => bef y x | none => false)
  | none => true
def allA (xs : List α) : Bool := (List.range xs.length).all (okA one bef xs)
end
section
variable {α : Type} {one : α → Bool} {bef : α → α → Bool} {xs : List α} {k : Nat} {x y : α}
theorem okA_no (h : xs[k]? = some x) (hv : one x = false) : okA one bef xs k = false := by simp [okA, h, hv]
theorem okA_first (h : xs[k]? = some x) (hv : one x = true) (hk : k = 0) : okA one bef xs k = true := by subst hk; simp only [okA, h]; simp [hv]
theorem okA_next (h : xs[k]? = some x) (hv : one x = true) (hk : k ≠ 0) (hy : xs[k - 1]? = some y) : okA one bef xs k = bef y x := by simp [okA, h, hv, hk, hy]
theorem allA_no (hk : k < xs.length) (h : okA one bef xs k = false) : allA one bef xs = false := by
  unfold allA; rw [List.all_eq_false]; exact ⟨k, by simpa using hk, by simp [h]⟩
theorem allA_end (h : ∀ j, j < xs.length → okA one bef xs j = true) : allA one bef xs = true := by
  unfold allA; rw [List.all_eq_true]; intro j hj; exact h j (by simpa using hj)
theorem allA_at (h : allA one bef xs = true) (hx : xs[k]? = some x) : one x = true := by
  unfold allA at h; rw [List.all_eq_true] at h
  have := h k (by simpa using (List.getElem?_eq_some_iff.1 hx).1)
  simp only [okA, hx, Bool.and_eq_true] at this
  exact this.1
theorem allA_ord (h : allA one bef xs = true) (hx : xs[k + 1]? = some x) (hy : xs[k]? = some y) : bef y x = true := by
  unfold allA at h; rw [List.all_eq_true] at h
  have := h (k + 1) (by simpa using (List.getElem?_eq_some_iff.1 hx).1)
  simp only [okA, hx, Bool.and_eq_true, Nat.add_sub_cancel, hy] at this
  simpa using this.2
theorem allA_mk (h1 : ∀ (k : Nat) (x : α), xs[k]? = some x → one x = true) (h2 : ∀ (k : Nat) (x y : α), xs[k + 1]? = some x → xs[k]? = some y → bef y x = true) : allA one bef xs = true := by
  refine allA_end fun j hj => ?_
  have hx : xs[j]? = some xs[j] := List.getElem?_eq_getElem hj
  cases j with
  | zero => exact okA_first hx (h1 _ _ hx) rfl
  | succ j =>
    have hy : xs[j]? = some xs[j] := List.getElem?_eq_getElem (by omega)
    rw [okA_next hx (h1 _ _ hx) (by omega) (y := xs[j]) (by rw [Nat.add_sub_cancel]; exact hy)]
    exact h2 j _ _ hx hy
/-- The relation of a loop that tests a list. -/
def ARel (one : α → Bool) (bef : α → α → Bool) (xs : List α) (k : Nat) : Prop := ∀ j, j < k → okA one bef xs j = true
theorem ARel.zero : ARel one bef xs 0 := fun j hj => by omega
theorem ARel.step (h : ARel one bef xs k) (hok : okA one bef xs k = true) : ARel one bef xs (k + 1) := fun j hj => by
  rcases Nat.lt_or_ge j k with hj' | hj'
  · exact h j hj'
  · have : j = k := by omega
    subst this; exact hok
theorem ARel.all (h : ARel one bef xs k) (hk : xs.length ≤ k) : allA one bef xs = true := allA_end fun j hj => h j (by omega)
end

/-! ### Widths -/
def wdB (n : Int) : Bool := inR n 10 60
theorem wdB_bd {n : Int} : wdB n = true ↔ 10 ≤ n ∧ n ≤ 60 := inR_true
/-- Where the last one of some stamps ends. -/
def endV (ws : List Int) : Int := ws.sum + 2 * ((ws.length - 1 : Nat) : Int)
theorem sum_take1 {ws : List Int} {k : Nat} {w : Int} (h : ws[k]? = some w) : (ws.take (k + 1)).sum = (ws.take k).sum + w := by
  rw [List.take_add_one, h]; simp [Option.toList]
theorem endV_take {ws : List Int} {k : Nat} {w : Int} (h : ws[k]? = some w) : endV (ws.take (k + 1)) = endV (ws.take k) + (if 0 < k then 2 else 0) + w := by
  have hk := (List.getElem?_eq_some_iff.1 h).1
  unfold endV
  rw [sum_take1 h, List.length_take, List.length_take]
  split <;> omega
theorem sum_bd {ws : List Int} (h : ∀ w ∈ ws, wdB w = true) : 10 * (ws.length : Int) ≤ ws.sum ∧ ws.sum ≤ 60 * ws.length := by
  induction ws with
  | nil => simp
  | cons w ws ih =>
    have h1 := ih (fun v hv => h v (List.mem_cons_of_mem _ hv))
    have h2 := wdB_bd.1 (h w (List.mem_cons_self ..))
    simp only [List.sum_cons, List.length_cons]
    omega
theorem endV_bd {ws : List Int} (h : ∀ w ∈ ws, wdB w = true) (hl : ws.length ≤ 13) : 0 ≤ endV ws ∧ endV ws ≤ 900 := by
  have := sum_bd h; unfold endV; omega
theorem all_take {ws : List Int} (h : ∀ w ∈ ws, wdB w = true) (k : Nat) : ∀ w ∈ ws.take k, wdB w = true := fun w hw => h w (List.mem_of_mem_take hw)
/-- Whether widths are those of a strip. -/
def rowB (ws : List Int) : Bool := ws.all wdB && (decide (ws.length ≤ 12) && decide (endV ws ≤ 200))
theorem rowB_yes {ws : List Int} (h : rowB ws = true) : (∀ w ∈ ws, wdB w = true) ∧ ws.length ≤ 12 ∧ endV ws ≤ 200 := by
  simp only [rowB, Bool.and_eq_true, List.all_eq_true, decide_eq_true_eq] at h
  exact ⟨h.1, h.2.1, h.2.2⟩
theorem rowB_no {ws : List Int} {k : Nat} {w : Int} (h : ws[k]? = some w) (hw : wdB w = false) : rowB ws = false := by
  have : ws.all wdB = false := by rw [List.all_eq_false]; exact ⟨w, List.mem_of_getElem? h, by simp [hw]⟩
  simp [rowB, this]
/-- A strip. -/
def stripB (x : BR) : Bool := inR x.id 1 99 && rowB x.ws
def idLt (x y : BR) : Bool := decide (x.id < y.id)
def bookB (xs : List BR) : Bool := allA stripB idLt xs && decide (xs.length ≤ 8)
theorem bookB_yes {xs : List BR} (h : bookB xs = true) : allA stripB idLt xs = true ∧ xs.length ≤ 8 := by
  simpa only [bookB, Bool.and_eq_true, decide_eq_true_eq] using h
theorem bookB_row {xs : List BR} (h : bookB xs = true) {k : Nat} {x : BR} (hx : xs[k]? = some x) : (1 ≤ x.id ∧ x.id ≤ 99) ∧ rowB x.ws = true := by
  have := allA_at (bookB_yes h).1 hx
  simpa only [stripB, Bool.and_eq_true, inR_true] using this
/-- The strip with an id. -/
def hasId (id : Int) (x : BR) : Bool := x.id == id
def findV (xs : List BR) (id : Int) : Int := if bookB xs then idxV (hasId id) xs else -1
theorem findV_cases (xs : List BR) (id : Int) : findV xs id = -1 ∨ bookB xs = true ∧ ∃ (k : Nat) (x : BR), findV xs id = k ∧ idxV (hasId id) xs = k ∧ k < xs.length ∧ xs[k]? = some x ∧ (1 ≤ x.id ∧ x.id ≤ 99) ∧ rowB x.ws = true := by
  unfold findV
  cases h : bookB xs with
  | false => left; simp
  | true =>
    rcases idxV_cases (hasId id) xs with ⟨h1, _⟩ | ⟨k, x, h1, h2, -, -⟩
    · left; simp [h1]
    · right
      have := bookB_row h h2
      exact ⟨rfl, k, x, by simp [h1], h1, (List.getElem?_eq_some_iff.1 h2).1, h2, this.1, this.2⟩
/-- The element there, or an empty strip. -/
def atB (xs : List BR) (i : Int) : BR := (xs[i.toNat]?).getD ⟨0, []⟩
theorem atB_at {xs : List BR} {k : Nat} {x : BR} (h : xs[k]? = some x) : atB xs (k : Int) = x := by simp [atB, h]
/-- The rest of a strip. -/
def restV (xs : List BR) (id : Int) : Int := if findV xs id < 0 then 0 else 200 - endV (atB xs (findV xs id)).ws
/-- Where the left sides are. -/
def startsFrom (at_ : Int) : List Int → List Int
  | [] => []
  | w :: ws => at_ :: startsFrom (at_ + w + 2) ws
def startsV (ws : List Int) : List Int := startsFrom 0 ws
theorem startsFrom_len : ∀ (ws : List Int) (a : Int), (startsFrom a ws).length = ws.length
  | [], _ => rfl
  | w :: ws, a => by simp [startsFrom, startsFrom_len ws]
theorem startsFrom_get : ∀ (ws : List Int) (a : Int) (k : Nat), k < ws.length → (startsFrom a ws)[k]? = some (a + (ws.take k).sum + 2 * (k : Int))
  | [], _, _, h => by simp at h
  | w :: ws, a, 0, _ => by simp [startsFrom]
  | w :: ws, a, k + 1, h => by
    simp only [startsFrom, List.getElem?_cons_succ, List.take_succ_cons, List.sum_cons]
    rw [startsFrom_get ws _ k (by simpa using h)]
    congr 1; omega
theorem startsV_len (ws : List Int) : (startsV ws).length = ws.length := startsFrom_len ws 0
theorem startsV_get {ws : List Int} {k : Nat} (h : k < ws.length) : (startsV ws)[k]? = some ((ws.take k).sum + 2 * (k : Int)) := by
  unfold startsV; rw [startsFrom_get ws 0 k h]; congr 1; omega
theorem startsV_take {ws : List Int} {k : Nat} (h : k < ws.length) : (startsV ws).take (k + 1) = (startsV ws).take k ++ [(ws.take k).sum + 2 * (k : Int)] := by
  rw [List.take_add_one, startsV_get h]; rfl

/-- Whether a stamp has room behind some. -/
def roomB (ws : List Int) (w : Int) : Bool := rowB (ws ++ [w])
/-- The tight strip among the first k. -/
def tiN (xs : List BR) (w : Int) : Nat → Int
  | 0 => -1
  | k + 1 => match xs[k]? with
    | some x => if roomB x.ws w && (decide (tiN xs w k < 0) || decide (endV (atB xs (tiN xs w k)).ws < endV x.ws)) then (k : Int) else tiN xs w k
    | none => tiN xs w k
def tightV (xs : List BR) (w : Int) : Int := tiN xs w xs.length
theorem tiN_bd (xs : List BR) (w : Int) : ∀ k : Nat, -1 ≤ tiN xs w k ∧ tiN xs w k < k ∧ tiN xs w k < xs.length
  | 0 => ⟨by simp [tiN], by simp [tiN], by simp [tiN]; omega⟩
  | k + 1 => by
    have ih := tiN_bd xs w k
    unfold tiN
    split
    · rename_i x hx
      have := (List.getElem?_eq_some_iff.1 hx).1
      split <;> omega
    · omega
theorem tiN_yes {xs : List BR} {w : Int} {k : Nat} {x : BR} (hx : xs[k]? = some x) (h1 : roomB x.ws w = true) (h2 : tiN xs w k < 0 ∨ endV (atB xs (tiN xs w k)).ws < endV x.ws) : tiN xs w (k + 1) = k := by
  simp only [tiN, hx, h1, Bool.true_and]
  rw [if_pos (by simpa using h2)]
theorem tiN_room {xs : List BR} {w : Int} {k : Nat} {x : BR} (hx : xs[k]? = some x) (h1 : roomB x.ws w = false) : tiN xs w (k + 1) = tiN xs w k := by
  simp [tiN, hx, h1]
theorem tiN_no {xs : List BR} {w : Int} {k : Nat} {x : BR} (hx : xs[k]? = some x) (h2 : 0 ≤ tiN xs w k) (h3 : endV x.ws ≤ endV (atB xs (tiN xs w k)).ws) : tiN xs w (k + 1) = tiN xs w k := by
  simp only [tiN, hx]
  rw [if_neg]
  simp; omega
/-- All rows of a list are strips. -/
def rowsB (xs : List BR) : Prop := ∀ x ∈ xs, rowB x.ws = true
theorem bookB_rows {xs : List BR} (h : bookB xs = true) : rowsB xs := fun x hx => by
  obtain ⟨i, hi, rfl⟩ := List.getElem_of_mem hx
  exact (bookB_row h (List.getElem?_eq_getElem hi)).2
theorem atB_mem {xs : List BR} {i : Int} (h0 : 0 ≤ i) (h : i < xs.length) : atB xs i ∈ xs ∧ xs[i.toNat]? = some (atB xs i) := by
  have hl : i.toNat < xs.length := by omega
  unfold atB
  rw [List.getElem?_eq_getElem hl]
  exact ⟨by simp, by simp⟩
/-- Which stamp covers a millimeter. -/
def covB (ws : List Int) (a : Int) (k : Nat) : Bool := inR a ((ws.take k).sum + 2 * (k : Int)) ((ws.take k).sum + 2 * (k : Int) + ws.getD k 0 - 1)
def coverV (ws : List Int) (a : Int) : Int := idxV (covB ws a) (List.range ws.length)
theorem cover_hit {ws : List Int} {a : Int} {k : Nat} (h : ∀ j, j < k → covB ws a j = false) (hk : k < ws.length) (hp : covB ws a k = true) : coverV ws a = k := by
  refine idxV_hit (x := k) (fun j y hj hy => ?_) (by simp [hk]) hp
  have : y = j := by rw [List.getElem?_range (by omega)] at hy; injection hy with hy; exact hy.symm
  subst this; exact h _ hj
theorem cover_miss {ws : List Int} {a : Int} (h : ∀ j, j < ws.length → covB ws a j = false) : coverV ws a = -1 := by
  refine idxV_miss fun j y hy => ?_
  have hj : j < ws.length := by have := (List.getElem?_eq_some_iff.1 hy).1; simpa using this
  have : y = j := by rw [List.getElem?_range hj] at hy; injection hy with hy; exact hy.symm
  subst this; exact h _ hj
theorem sum_take_bd {ws : List Int} (h : ∀ w ∈ ws, wdB w = true) (hl : ws.length ≤ 13) (k : Nat) (hk : k ≤ ws.length) : 0 ≤ (ws.take k).sum ∧ (ws.take k).sum ≤ 780 := by
  have h1 := sum_bd (all_take h k)
  have h2 : (ws.take k).length ≤ 13 := by rw [List.length_take]; omega
  omega
def stB (xs : List BR) (id a : Int) : Bool := decide (0 ≤ findV xs id) && inR a 0 199
def stampV (xs : List BR) (id a : Int) : Int := if stB xs id a then coverV (atB xs (findV xs id)).ws a else 0
/-- What StartsOf returns. -/
def stV (xs : List BR) (id : Int) : List Int := if findV xs id < 0 then [] else startsV (atB xs (findV xs id)).ws
theorem st_len (xs : List BR) (id : Int) : (stV xs id).length ≤ 12 := by
  unfold stV
  split
  · simp
  · rename_i h
    rw [startsV_len]
    rcases findV_cases xs id with h1 | ⟨-, k, x, h1, -, -, h2, -, h3⟩
    · omega
    · rw [h1, atB_at h2]; exact (rowB_yes h3).2.1
end Go.Proofs.YtacacibpehnmgaaGreatDoor
