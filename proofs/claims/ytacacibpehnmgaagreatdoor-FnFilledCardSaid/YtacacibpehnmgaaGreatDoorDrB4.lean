/- What the law on books draws. -/
import Derived.Test.YtacacibpehnmgaaGreatDoorDrB3
namespace Go.Proofs.YtacacibpehnmgaaGreatDoor
set_option linter.unusedVariables false
set_option linter.unusedSimpArgs false
open Go.RowKit

def RetB2 (W : World) : Ending → World → Prop := fun e w' => ∃ v xs a, e = .returned (.tuple #[v, .int .i64 a]) ∧ LstB w' v xs ∧ Below W.heap.size W w'
def RetB3 (W : World) : Ending → World → Prop := fun e w' => ∃ v xs a b, e = .returned (.tuple #[v, .int .i64 a, .int .i64 b]) ∧ LstB w' v xs ∧ Below W.heap.size W w'
def RetB4 (W : World) : Ending → World → Prop := fun e w' => ∃ v xs a b d, e = .returned (.tuple #[v, .int .i64 a, .int .i64 b, .int .i64 d]) ∧ LstB w' v xs ∧ Below W.heap.size W w'
theorem rd_takeI {w : World} {A : Option Addr} {xs : List Int} (h : Rd w A (cells1 xs)) (k : Nat) : Rd w A (cells1 (xs.take k)) := by
  rcases h with h | ⟨g, o, e, hg, hc⟩
  · left; have : xs = [] := by simpa [cells1] using h
    subst this; simp [cells1]
  · refine .inr ⟨g, o, e, hg, fun q x hx => hc q x ?_⟩
    simp only [cells1, List.getElem?_map, List.getElem?_take] at hx ⊢
    split at hx
    · exact hx
    · simp at hx

end Go.Proofs.YtacacibpehnmgaaGreatDoor
