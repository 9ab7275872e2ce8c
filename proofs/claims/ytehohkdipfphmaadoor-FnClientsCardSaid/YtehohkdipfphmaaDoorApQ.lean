/- Approvals: what both laws on approvals ask of a valid approval, in plain Lean. -/
import Derived.Test.YtehohkdipfphmaaDoorAppZ
namespace Go.Proofs.YtehohkdipfphmaaDoor
set_option linter.unusedVariables false
set_option linter.unusedSimpArgs false
open Go.RowKit

theorem catP_in {f : AR → List Int} {xs : List AR} {z : Int} {x : AR} (hx : x ∈ xs) (h : z ∈ f x) : z ∈ catP f xs xs.length := by
  unfold catP
  rw [List.take_length, List.mem_flatMap]
  exact ⟨x, hx, h⟩
theorem one_client {x : AR} (h : oneA x = true) : 1 ≤ x.client.size := by
  simp only [oneA, g1A, Bool.and_eq_true] at h
  exact (wordB_len h.1.2.1).1
theorem one_word {x : AR} (h : oneA x = true) : wordB x.client = true := by
  simp only [oneA, g1A, Bool.and_eq_true] at h
  exact h.1.2.1
theorem one_len {x : AR} (h : oneA x = true) : 1 ≤ x.items.length ∧ x.items.length ≤ 8 := by
  simp only [oneA, g1A, Bool.and_eq_true] at h
  have := inR_true.1 h.1.2.2.2.1
  omega
end Go.Proofs.YtehohkdipfphmaaDoor
