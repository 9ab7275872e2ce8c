/- slices.Insert of one element, all ways; where an element stands in a list in order: slices.BinarySearchFunc. -/
import Derived.Test.YtpmklcpplpnlhaaInsTrea
import Derived.Test.YtpmklcpplpnlhaaTreE
namespace Go.Proofs.Ytpmklcpplpnlhaa
set_option linter.unusedVariables false
set_option linter.unusedSimpArgs false
open Go.RowKit


/-- How many stand before it. -/
def posV (xs : List R5) (x : R5) : Nat := (xs.takeWhile (fun y => trLess y x)).length
theorem posV_eq {x : R5} : ∀ {xs : List R5} {k : Nat}, k ≤ xs.length → (∀ (j : Nat) (y : R5), j < k → xs[j]? = some y → trLess y x = true) → (∀ y, xs[k]? = some y → trLess y x = false) → posV xs x = k
  | [], k, hk, _, _ => by simp at hk; subst hk; rfl
  | y :: ys, 0, _, _, h2 => by have := h2 y rfl; simp [posV, List.takeWhile_cons, this]
  | y :: ys, k + 1, hk, h1, h2 => by
    have h0 := h1 0 y (by omega) rfl
    have := posV_eq (x := x) (xs := ys) (k := k) (by simpa using hk) (fun j z hj hz => h1 (j + 1) z (by omega) (by simpa using hz)) (fun z hz => h2 z (by simpa using hz))
    simp only [posV] at this ⊢
    rw [List.takeWhile_cons, h0]
    simp [this]
theorem posV_le (xs : List R5) (x : R5) : posV xs x ≤ xs.length := List.IsPrefix.length_le (List.takeWhile_prefix _)
theorem trLess_trans {x y z : R5} (h1 : trLess x y = true) (h2 : trLess y z = true) : trLess x z = true := by
  simp only [trLess, decide_eq_true_eq] at *; omega
theorem trL_sorted {xs : List R5} (h : trL xs = true) : ∀ {j : Nat} {i : Nat} {x y : R5}, i < j → xs[i]? = some x → xs[j]? = some y → trLess x y = true
  | 0, i, x, y, hij, _, _ => by omega
  | j + 1, i, x, y, hij, hx, hy => by
    simp only [trL, Bool.and_eq_true] at h
    have hjl : j < xs.length := by have := (List.getElem?_eq_some_iff.1 hy).1; omega
    have hb := allG_ord h.1 hy (List.getElem?_eq_getElem hjl)
    simp only [trBef, Bool.and_eq_true] at hb
    rcases Nat.lt_or_ge i j with hlt | hge
    · exact trLess_trans (trL_sorted (by simp only [trL, Bool.and_eq_true]; exact h) hlt hx (List.getElem?_eq_getElem hjl)) hb.1
    · obtain rfl : i = j := by omega
      rw [List.getElem?_eq_getElem hjl] at hx; injection hx with hx; subst hx; exact hb.1

def RetPos (i : Int) (W : World) : Ending → World → Prop := fun e w' => ∃ b, e = .returned (.tuple #[.int .i64 i, .bool b]) ∧ Below W.heap.size W w'

end Go.Proofs.Ytpmklcpplpnlhaa
