/- SignTreaty of the program. -/
import Derived.Test.YtpmklcpplpnlhaaInsT2
import Derived.Test.YtpmklcpplpnlhaaSlcTrea
import Derived.Deep.RegionHeld3
namespace Go.Proofs.Ytpmklcpplpnlhaa
set_option linter.unusedVariables false
set_option linter.unusedSimpArgs false
open Go.RowKit

theorem cells5_take (xs : List R5) (k : Nat) : cells5 (xs.take k) = (cells5 xs).take (k * 5) := by
  by_cases h : k ≤ xs.length
  · have e : cells5 xs = cells5 (xs.take k) ++ cells5 (xs.drop k) := by rw [← cells5_append, List.take_append_drop]
    rw [e, List.take_append_of_le_length (by rw [length_cells5, List.length_take]; omega)]
    exact (List.take_of_length_le (by rw [length_cells5, List.length_take]; omega)).symm
  · rw [List.take_of_length_le (show xs.length ≤ k by omega)]
    exact (List.take_of_length_le (by rw [length_cells5]; omega)).symm
theorem cells5_drop (xs : List R5) (k : Nat) : cells5 (xs.drop k) = (cells5 xs).drop (k * 5) := by
  have h1 : cells5 (xs.take k) ++ cells5 (xs.drop k) = (cells5 xs).take (k * 5) ++ (cells5 xs).drop (k * 5) := by rw [← cells5_append, List.take_append_drop, List.take_append_drop]
  rw [cells5_take] at h1
  exact List.append_cancel_left h1
/-- The list with one more in its place. -/
def sgL (xs : List R5) (x : R5) : List R5 := xs.take (posV xs x) ++ x :: xs.drop (posV xs x)
def sgB (xs : List R5) (x : R5) : Bool := trL xs && (trB x && trL (sgL xs x))
def sgV (xs : List R5) (x : R5) : List R5 := if sgB xs x then sgL xs x else []
def sgW (z : Bool) (l : List R5) : List R5 := if z then l else []
theorem length_sgL (xs : List R5) (x : R5) : (sgL xs x).length = xs.length + 1 := by
  have := posV_le xs x
  simp [sgL]; omega
theorem cells5_sgL (xs : List R5) (x : R5) : cells5 (sgL xs x) = (cells5 xs).take (posV xs x * 5) ++ (x.cells ++ (cells5 xs).drop (posV xs x * 5)) := by
  rw [sgL, cells5_append, cells5_cons, cells5_take, cells5_drop]
theorem sg_len (xs : List R5) (x : R5) : (sgV xs x).length ≤ 20 := by
  unfold sgV
  split
  · rename_i h
    simp only [sgB, Bool.and_eq_true] at h
    exact trL_len h.2.2
  · simp
theorem oneCell_x (x : R5) : ∀ u ∈ x.cells, u.oneCell' = true := fun u hu => oneCell_cells5 [x] u (by simpa [cells5] using hu)

end Go.Proofs.Ytpmklcpplpnlhaa
