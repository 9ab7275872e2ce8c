/- Rows of mails (four ints) and of covers (nine ints). -/
import Derived.Test.YtobloedpmjkgpaaCvV
namespace Go.Proofs.Ytobloedpmjkgpaa
set_option linter.unusedVariables false
set_option linter.unusedSimpArgs false
open Go.RowKit

def R4.cells (x : R4) : List Value := [.int .i64 x.a, .int .i64 x.b, .int .i64 x.c, .int .i64 x.d]
def cells4 (xs : List R4) : List Value := xs.flatMap R4.cells
theorem cells4_nil : cells4 [] = [] := rfl
theorem cells4_cons (x : R4) (xs : List R4) : cells4 (x :: xs) = x.cells ++ cells4 xs := rfl
theorem cells4_append (xs ys : List R4) : cells4 (xs ++ ys) = cells4 xs ++ cells4 ys := List.flatMap_append
theorem length_cells4 (xs : List R4) : (cells4 xs).length = xs.length * 4 := by
  induction xs with
  | nil => rfl
  | cons x xs ih => rw [cells4_cons, List.length_append, ih, List.length_cons]; simp [R4.cells]; omega
theorem cells4_get : ∀ (xs : List R4) (k : Nat) (x : R4), xs[k]? = some x → ∀ j, j < 4 → (cells4 xs)[k * 4 + j]? = x.cells[j]?
  | [], k, x, h, _, _ => by simp at h
  | y :: xs, 0, x, h, j, hj => by
    simp at h; subst h
    rw [cells4_cons, List.getElem?_append_left (by simp [R4.cells]; omega)]; simp
  | y :: xs, k + 1, x, h, j, hj => by
    rw [cells4_cons, List.getElem?_append_right (by simp [R4.cells]; omega)]
    have e : (k + 1) * 4 + j - y.cells.length = k * 4 + j := by simp [R4.cells]; omega
    rw [e]
    exact cells4_get xs k x (by simpa using h) j hj
theorem Rd.at4 {w : World} {A : Option Addr} {xs : List R4} (h : Rd w A (cells4 xs)) {k : Nat} {x : R4} (hk : xs[k]? = some x) :
    ∃ g o, A = some ⟨g, o, none⟩ ∧ g < w.heap.size ∧ w.cell? ⟨g, o + k * 4, none⟩ = some (.int .i64 x.a) ∧ w.cell? ⟨g, o + k * 4 + 1, none⟩ = some (.int .i64 x.b) ∧ w.cell? ⟨g, o + k * 4 + 2, none⟩ = some (.int .i64 x.c) ∧ w.cell? ⟨g, o + k * 4 + 3, none⟩ = some (.int .i64 x.d) := by
  rcases h with h | ⟨g, o, h1, h2, h3⟩
  · have := length_cells4 xs
    rw [h] at this
    have h4 : k < xs.length := (List.getElem?_eq_some_iff.1 hk).1
    simp at this; omega
  · have hh : ∀ j, j < 4 → ∀ v, x.cells[j]? = some v → w.cell? ⟨g, o + k * 4 + j, none⟩ = some v := fun j hj v hv => by
      have := h3 (k * 4 + j) v (by rw [cells4_get xs k x hk j hj]; exact hv)
      rw [← Nat.add_assoc] at this; exact this
    exact ⟨g, o, h1, h2, hh 0 (by omega) _ rfl, hh 1 (by omega) _ rfl, hh 2 (by omega) _ rfl, hh 3 (by omega) _ rfl⟩
theorem oneCell_cells4 (xs : List R4) : ∀ u ∈ cells4 xs, u.oneCell' = true := by
  intro u hu
  simp only [cells4, List.mem_flatMap] at hu
  obtain ⟨x, _, hu⟩ := hu
  simp only [R4.cells, List.mem_cons, List.not_mem_nil, or_false] at hu
  rcases hu with rfl | rfl | rfl | rfl <;> rfl

def R9.cells (x : R9) : List Value := [.int .i64 x.a, .int .i64 x.b, .int .i64 x.c, .int .i64 x.d, .int .i64 x.e, .int .i64 x.f, .int .i64 x.g, .int .i64 x.h, .int .i64 x.i]
def cells9 (xs : List R9) : List Value := xs.flatMap R9.cells
theorem cells9_nil : cells9 [] = [] := rfl
theorem cells9_cons (x : R9) (xs : List R9) : cells9 (x :: xs) = x.cells ++ cells9 xs := rfl
theorem cells9_append (xs ys : List R9) : cells9 (xs ++ ys) = cells9 xs ++ cells9 ys := List.flatMap_append
theorem length_cells9 (xs : List R9) : (cells9 xs).length = xs.length * 9 := by
  induction xs with
  | nil => rfl
  | cons x xs ih => rw [cells9_cons, List.length_append, ih, List.length_cons]; simp [R9.cells]; omega
theorem cells9_get : ∀ (xs : List R9) (k : Nat) (x : R9), xs[k]? = some x → ∀ j, j < 9 → (cells9 xs)[k * 9 + j]? = x.cells[j]?
  | [], k, x, h, _, _ => by simp at h
  | y :: xs, 0, x, h, j, hj => by
    simp at h; subst h
    rw [cells9_cons, List.getElem?_append_left (by simp [R9.cells]; omega)]; simp
  | y :: xs, k + 1, x, h, j, hj => by
    rw [cells9_cons, List.getElem?_append_right (by simp [R9.cells]; omega)]
    have e : (k + 1) * 9 + j - y.cells.length = k * 9 + j := by simp [R9.cells]; omega
    rw [e]
    exact cells9_get xs k x (by simpa using h) j hj
theorem Rd.at9 {w : World} {A : Option Addr} {xs : List R9} (h : Rd w A (cells9 xs)) {k : Nat} {x : R9} (hk : xs[k]? = some x) :
    ∃ g o, A = some ⟨g, o, none⟩ ∧ g < w.heap.size ∧ w.cell? ⟨g, o + k * 9, none⟩ = some (.int .i64 x.a) ∧ w.cell? ⟨g, o + k * 9 + 1, none⟩ = some (.int .i64 x.b) ∧ w.cell? ⟨g, o + k * 9 + 2, none⟩ = some (.int .i64 x.c) ∧ w.cell? ⟨g, o + k * 9 + 3, none⟩ = some (.int .i64 x.d) ∧ w.cell? ⟨g, o + k * 9 + 4, none⟩ = some (.int .i64 x.e) ∧ w.cell? ⟨g, o + k * 9 + 5, none⟩ = some (.int .i64 x.f) ∧ w.cell? ⟨g, o + k * 9 + 6, none⟩ = some (.int .i64 x.g) ∧ w.cell? ⟨g, o + k * 9 + 7, none⟩ = some (.int .i64 x.h) ∧ w.cell? ⟨g, o + k * 9 + 8, none⟩ = some (.int .i64 x.i) := by
  rcases h with h | ⟨g, o, h1, h2, h3⟩
  · have := length_cells9 xs
    rw [h] at this
    have h4 : k < xs.length := (List.getElem?_eq_some_iff.1 hk).1
    simp at this; omega
  · have hh : ∀ j, j < 9 → ∀ v, x.cells[j]? = some v → w.cell? ⟨g, o + k * 9 + j, none⟩ = some v := fun j hj v hv => by
      have := h3 (k * 9 + j) v (by rw [cells9_get xs k x hk j hj]; exact hv)
      rw [← Nat.add_assoc] at this; exact this
    exact ⟨g, o, h1, h2, hh 0 (by omega) _ rfl, hh 1 (by omega) _ rfl, hh 2 (by omega) _ rfl, hh 3 (by omega) _ rfl, hh 4 (by omega) _ rfl, hh 5 (by omega) _ rfl, hh 6 (by omega) _ rfl, hh 7 (by omega) _ rfl, hh 8 (by omega) _ rfl⟩
theorem oneCell_cells9 (xs : List R9) : ∀ u ∈ cells9 xs, u.oneCell' = true := by
  intro u hu
  simp only [cells9, List.mem_flatMap] at hu
  obtain ⟨x, _, hu⟩ := hu
  simp only [R9.cells, List.mem_cons, List.not_mem_nil, or_false] at hu
  rcases hu with rfl | rfl | rfl | rfl | rfl | rfl | rfl | rfl | rfl <;> rfl

theorem okA_valid {α : Type} {one : α → Bool} {bef : α → α → Bool} {xs : List α} {k : Nat} {x : α} (h : okA one bef xs k = true) (hx : xs[k]? = some x) : one x = true := by
  cases hv : one x with
  | true => rfl
  | false => rw [okA_no hx hv] at h; cases h
end Go.Proofs.Ytobloedpmjkgpaa
