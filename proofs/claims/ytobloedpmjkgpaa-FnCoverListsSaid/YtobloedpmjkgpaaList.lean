/- Lists of ints: whether a number is in one, clones. -/
import Derived.Test.YtobloedpmjkgpaaIn
import Derived.Test.YtobloedpmjkgpaaExt
import Derived.Lib.SliceRun
namespace Go.Proofs.Ytobloedpmjkgpaa
set_option linter.unusedVariables false
set_option linter.unusedSimpArgs false
open Go.RowKit

theorem infoI : (Try.prog.info? 3).map (fun i => (i.zero, i.size, i.bytes)) = some (some (.int .i64 0), 1, 8) := by kernel_rfl

/-- Whether a number is in a list. -/
def hasB (zs : List Int) (x : Int) : Bool := zs.any (fun z => z == x)
theorem hasB_true {zs : List Int} {x : Int} : hasB zs x = true ↔ x ∈ zs := by
  unfold hasB; rw [List.any_eq_true]
  exact ⟨fun ⟨z, hz, h⟩ => by simp at h; subst h; exact hz, fun h => ⟨x, h, by simp⟩⟩
theorem hasB_false {zs : List Int} {x : Int} : hasB zs x = false ↔ x ∉ zs := by
  rw [← hasB_true, Bool.not_eq_true]
theorem hasB_hit {zs : List Int} {x : Int} {k : Nat} (h : zs[k]? = some x) : hasB zs x = true := hasB_true.2 (List.mem_of_getElem? h)
theorem hasB_miss {zs : List Int} {x : Int} (h : ∀ (j : Nat) (y : Int), zs[j]? = some y → (y == x) = false) : hasB zs x = false := by
  rw [hasB_false]
  intro hx
  obtain ⟨k, hk⟩ := List.mem_iff_getElem?.1 hx
  have := h k x hk
  simp at this



end Go.Proofs.Ytobloedpmjkgpaa
