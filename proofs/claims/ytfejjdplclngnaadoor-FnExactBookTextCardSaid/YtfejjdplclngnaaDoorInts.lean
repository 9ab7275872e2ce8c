/- Comparisons and marks of lists of ints. -/
import Derived.Test.YtfejjdplclngnaaDoorIn
import Derived.Test.YtfejjdplclngnaaDoorExt
namespace Go.Proofs.YtfejjdplclngnaaDoor
set_option linter.unusedVariables false
set_option linter.unusedSimpArgs false
open Go.RowKit

set_option maxHeartbeats 400000 in
theorem eqIntS_same (A B : Option Addr) (n c d : Nat) (xs : List Int) (w : World) (hn : xs.length = n) (hA : Rd w A (cells1 xs)) (hB : Rd w B (cells1 xs)) (h20 : n ≤ 1048576) :
    Calls Tryd.prog 42 #[.slice A n c, .slice B n d] w (Ret (.bool true) w) := by
  go_enter Tryd.func42, Tryd.ntmps42
  go_wp2_with fail
  go_loopw [4, 5] (fun r i wr => ∃ k : Nat, k ≤ n ∧ i = .int .i64 k ∧ r = .bool false ∧ Below w.heap.size w wr) (fun _ i _ => n - (intOf i).toNat)
  case atStart => exact ⟨0, Nat.zero_le _, rfl, rfl, Below.refl _ _⟩
  case round =>
    obtain ⟨k, hk, rfl, rfl, hb⟩ := hrel
    by_cases hlt : k < n
    · obtain ⟨x, hxk⟩ : ∃ x, xs[k]? = some x := ⟨xs[k], List.getElem?_eq_getElem (by omega)⟩
      obtain ⟨g, o, rfl, hg, c0⟩ := (hA.below hb).at1 hxk
      obtain ⟨g', o', rfl, hg', d0⟩ := (hB.below hb).at1 hxk
      clear hA hB hxk
      go_wp2_with fail
      refine wp_region_lat wr.heap.size (by kernel_rfl) (by kernel_rfl) ?_
      have LC := fun (u : Lat wr.heap.size wr) => u.cell
      repeat (go_big_quiet_step (fail))
      refine wpQuiet_nil ?_
      intro w1 hb1
      clear LC
      go_wp2
      go_roundw
      case rel => exact ⟨k + 1, by omega, by go_num, rfl, hb.trans (hb1.mono hb.size)⟩
      case measure => simp [intOf]; omega
    · go_wp2
      go_ret
      exact ⟨rfl, hb⟩


end Go.Proofs.YtfejjdplclngnaaDoor
