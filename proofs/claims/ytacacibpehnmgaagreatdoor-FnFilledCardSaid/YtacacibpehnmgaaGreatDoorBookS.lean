/- The stock book: the numbers that a list holds. -/
import Derived.Test.YtacacibpehnmgaaGreatDoorBookE
namespace Go.Proofs.YtacacibpehnmgaaGreatDoor
set_option linter.unusedVariables false
set_option linter.unusedSimpArgs false
open Go.RowKit

/-- What is left of a size behind the inner rows. -/
def szL : Int → List BR → Int
  | l, [] => l
  | l, x :: xs => if l < x.ws.length then -1 else szL (l - x.ws.length) xs
def szBV (l : Int) (xs : List BR) : Int := if l < xs.length then -1 else szL (l - xs.length) xs
theorem szL_bound : ∀ {xs : List BR} {l : Int}, 0 ≤ szL l xs → ∀ x ∈ xs, (x.ws.length : Int) ≤ l
  | [], _, _, _, h => by cases h
  | y :: ys, l, h0, x, hx => by
    simp only [szL] at h0
    split at h0
    · omega
    · rcases List.mem_cons.1 hx with rfl | hx
      · omega
      · have := szL_bound h0 x hx; omega
theorem szL_drop {xs : List BR} {k : Nat} {x : BR} (l : Int) (hk : xs[k]? = some x) : szL l (xs.drop k) = if l < x.ws.length then -1 else szL (l - x.ws.length) (xs.drop (k + 1)) := by
  rw [List.drop_eq_getElem?_toList_append, hk]; rfl

end Go.Proofs.YtacacibpehnmgaaGreatDoor
