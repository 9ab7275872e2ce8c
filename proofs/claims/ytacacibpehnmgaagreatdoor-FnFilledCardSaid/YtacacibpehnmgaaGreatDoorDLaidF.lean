/- What the listed tables give: the law on filled books. -/
import Derived.Test.YtacacibpehnmgaaGreatDoorDNum
import Derived.Test.YtacacibpehnmgaaGreatDoorTie
import Derived.Test.YtacacibpehnmgaaGreatDoorCards
import Derived.ProofKit
import Derived.LaidMore
import Derived.Lib.AppendIntMem
import Derived.OpenShut
import Derived.Stop.Joined
import Derived.SevenTiedAt
namespace Go.Proofs.YtacacibpehnmgaaGreatDoor
set_option linter.unusedVariables false
set_option linter.unusedSimpArgs false
open Go.RowKit

/-- The listed tables. -/
def tabs : List (String × DataW Unit) := Rows.fnFilledRow.laid
theorem door_met (os : Os) (args : Array Value) : laidMetH Tryz.prog tabs ((World.doorLaid Tryz.prog 24 os).forCall (fun _ _ => 0) ⟨#[], args, []⟩).memory :=
  laidMetH_of_parts3 (fuel := 8) (laidMet_of_run' 8 (by kernel_rfl) (by kernel_rfl)) (by kernel_rfl) (by kernel_rfl)
theorem gPow : Tryz.prog.globalNamed "internal/strconv.uint64pow10" = some 0 := by kernel_rfl
theorem tPow : (Tryz.prog.globals[0]?).map (·.type) = some 112 := by kernel_rfl
theorem tab_is {W : World} (h : laidMetH Tryz.prog tabs W) : Lib.TabIs Tryz.prog W "internal/strconv.uint64pow10" .u64 Lib.pow10Tab := by
  rw [MakeChecks.laidMetH_plain _ _ _ (by kernel_rfl)] at h
  obtain ⟨ps, ⟨g0, t0, cs0, f0, p0, q0, hg0, ht0, hv0, hd0, ⟨g1, t1, cs1, f1, p1, q1, hg1, ht1, hv1, hd1, ⟨g2, t2, cs2, f2, p2, q2, hg2, ht2, hv2, hd2, _, _⟩, _⟩, _⟩, _, _⟩ := h
  obtain rfl := Option.some.inj (gPow.symm.trans hg2)
  obtain rfl := Option.some.inj (tPow.symm.trans ht2)
  unfold Lib.TabIs
  rw [hv2, ← Lib.cells_of_tab (k := .u64) (zs := Lib.pow10Tab) Tryz.underlying112 Tryz.underlying50 (by kernel_rfl) (by kernel_rfl) hd2]
theorem tab_below {W : World} (h : laidMetH Tryz.prog tabs W) : ∀ w', Below W.heap.size W w' → Lib.TabIs Tryz.prog w' "internal/strconv.uint64pow10" .u64 Lib.pow10Tab :=
  Lib.tabBelow_of_tabIs (tab_is h)
end Go.Proofs.YtacacibpehnmgaaGreatDoor
