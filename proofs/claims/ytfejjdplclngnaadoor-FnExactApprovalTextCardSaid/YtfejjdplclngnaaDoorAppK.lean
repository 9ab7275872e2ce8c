/- Approvals: whether a list is valid: the reference. -/
import Derived.Test.YtfejjdplclngnaaDoorAppI
namespace Go.Proofs.YtfejjdplclngnaaDoor
set_option linter.unusedVariables false
set_option linter.unusedSimpArgs false
open Go.RowKit

/-- The item z of b may not be sent behind a. -/
def badZ (a b : AR) (z : Int) : Bool := hasB a.items z && (a.back == -1 || (decide (b.sent < a.back) || hasB a.kept z))
def freeB (a b : AR) : Bool := b.items.all (fun z => !badZ a b z)
theorem freeB_no {a b : AR} {k : Nat} {z : Int} (h : b.items[k]? = some z) (hz : badZ a b z = true) : freeB a b = false := by
  unfold freeB; rw [List.all_eq_false]; exact ⟨z, List.mem_of_getElem? h, by simp [hz]⟩
theorem freeB_yes {a b : AR} (h : ∀ (j : Nat) (z : Int), j < b.items.length → b.items[j]? = some z → badZ a b z = false) : freeB a b = true := by
  unfold freeB; rw [List.all_eq_true]
  intro z hz
  obtain ⟨j, hj, rfl⟩ := List.getElem_of_mem hz
  simp [h j _ hj (List.getElem?_eq_getElem hj)]
theorem freeB_at {a b : AR} {z : Int} (h : freeB a b = true) (hz : hasB b.items z = true) : badZ a b z = false := by
  unfold freeB at h; rw [List.all_eq_true] at h
  simpa using h z (hasB_true.1 hz)
def befA (y x : AR) : Bool := decide (y.id < x.id) && decide (y.sent ≤ x.sent)
noncomputable def okAt (xs : List AR) (i : Nat) : Bool := match xs[i]? with
  | some x => oneA x && ((i == 0 || match xs[i - 1]? with | some y => befA y x | none => false) && (xs.take i).all (fun y => freeB y x))
  | none => true
/-- Whether a list are approvals. -/
noncomputable def goodA (xs : List AR) : Bool := (List.range xs.length).all (okAt xs) && decide (xs.length ≤ 12)
theorem goodA_no {xs : List AR} {k : Nat} (hk : k < xs.length) (h : okAt xs k = false) : goodA xs = false := by
  have : (List.range xs.length).all (okAt xs) = false := by rw [List.all_eq_false]; exact ⟨k, by simpa using hk, by simp [h]⟩
  simp [goodA, this]
theorem goodA_long {xs : List AR} (h : 12 < xs.length) : goodA xs = false := by simp [goodA]; intros; omega
theorem goodA_end {xs : List AR} (h : ∀ j, j < xs.length → okAt xs j = true) : goodA xs = decide (xs.length ≤ 12) := by
  have : (List.range xs.length).all (okAt xs) = true := by rw [List.all_eq_true]; intro j hj; exact h j (by simpa using hj)
  simp [goodA, this]
theorem goodA_yes {xs : List AR} (h : goodA xs = true) : (∀ j, okAt xs j = true) ∧ xs.length ≤ 12 := by
  simp only [goodA, Bool.and_eq_true, List.all_eq_true, decide_eq_true_eq] at h
  refine ⟨fun j => ?_, h.2⟩
  rcases Nat.lt_or_ge j xs.length with h' | h'
  · exact h.1 j (by simpa using h')
  · simp [okAt, List.getElem?_eq_none h']
theorem okAt_one {xs : List AR} {k : Nat} {x : AR} (h : okAt xs k = true) (hx : xs[k]? = some x) : oneA x = true := by
  simp only [okAt, hx, Bool.and_eq_true] at h; exact h.1
theorem okAt_free {xs : List AR} {k j : Nat} {x y : AR} (h : okAt xs k = true) (hx : xs[k]? = some x) (hy : xs[j]? = some y) (hj : j < k) : freeB y x = true := by
  simp only [okAt, hx, Bool.and_eq_true, List.all_eq_true] at h
  exact h.2.2 y (List.mem_of_getElem? (i := j) (by rw [List.getElem?_take_of_lt hj]; exact hy))
theorem okAt_no1 {xs : List AR} {k : Nat} {x : AR} (hx : xs[k]? = some x) (h : oneA x = false) : okAt xs k = false := by simp [okAt, hx, h]
theorem okAt_no2 {xs : List AR} {k : Nat} {x y : AR} (hx : xs[k]? = some x) (hy : xs[k - 1]? = some y) (hk : k ≠ 0) (h : befA y x = false) : okAt xs k = false := by simp [okAt, hx, hy, hk, h]
theorem okAt_no3 {xs : List AR} {k j : Nat} {x y : AR} (hx : xs[k]? = some x) (hy : xs[j]? = some y) (hj : j < k) (h : freeB y x = false) : okAt xs k = false := by
  cases e : okAt xs k with
  | false => rfl
  | true => rw [okAt_free e hx hy hj] at h; cases h
theorem okAt_yes {xs : List AR} {k : Nat} {x : AR} (hx : xs[k]? = some x) (h1 : oneA x = true) (h2 : k = 0 ∨ ∃ y, xs[k - 1]? = some y ∧ befA y x = true) (h3 : ∀ (j : Nat) (y : AR), j < k → xs[j]? = some y → freeB y x = true) : okAt xs k = true := by
  have e3 : (xs.take k).all (fun y => freeB y x) = true := by
    rw [List.all_eq_true]
    intro y hy
    obtain ⟨j, hj, rfl⟩ := List.getElem_of_mem hy
    rw [List.length_take] at hj
    exact h3 j _ (by omega) (by rw [List.getElem_take]; exact List.getElem?_eq_getElem _)
  rcases h2 with h2 | ⟨y, hy, h2⟩
  · subst h2; simp [okAt, hx, h1]
  · simp [okAt, hx, h1, hy, h2, e3]
theorem befA_no1 {y x : AR} (h : x.id ≤ y.id) : befA y x = false := by simp [befA]; omega
theorem befA_no2 {y x : AR} (h : x.sent < y.sent) : befA y x = false := by simp [befA]; omega
theorem befA_yes {y x : AR} (h : ¬ x.id ≤ y.id) (h' : ¬ x.sent < y.sent) : befA y x = true := by simp [befA]; omega


end Go.Proofs.YtfejjdplclngnaaDoor
