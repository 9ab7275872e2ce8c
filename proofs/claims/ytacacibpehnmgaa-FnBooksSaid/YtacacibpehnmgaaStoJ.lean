/- Stock book: SwapStrips of the program. -/
import Derived.Test.YtacacibpehnmgaaStoI
import Derived.BigRegion
namespace Go.Proofs.Ytacacibpehnmgaa
set_option linter.unusedVariables false
set_option linter.unusedSimpArgs false
open Go.RowKit

theorem swB_no1 {xs : List BR} (a b : Int) (h : bookB xs = false) : swB xs a b = false := by simp [swB, findV, h]
theorem own_somei {w : World} {base e size n c : Nat} {A : Option Addr} {cs : List Value} (h : w.ownsRow base e size (.slice A n c) n cs) (hn : 0 < n) : ∃ g, A = some ⟨g, 0, none⟩ := by
  rcases h.2 with ⟨h', h0⟩ | ⟨g, cap, cur, h', _⟩
  · omega
  · injection h' with h1; exact ⟨g, h1⟩

end Go.Proofs.Ytacacibpehnmgaa
