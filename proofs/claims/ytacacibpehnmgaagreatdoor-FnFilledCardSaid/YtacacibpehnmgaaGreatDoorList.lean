/- Lists of ints: whether a number is in one, clones. -/
import Derived.Test.YtacacibpehnmgaaGreatDoorIn
import Derived.Test.YtacacibpehnmgaaGreatDoorExt
import Derived.Lib.SliceRun
namespace Go.Proofs.YtacacibpehnmgaaGreatDoor
set_option linter.unusedVariables false
set_option linter.unusedSimpArgs false
open Go.RowKit

theorem infoI : (Tryz.prog.info? 3).map (fun i => (i.zero, i.size, i.bytes)) = some (some (.int .i64 0), 1, 8) := by kernel_rfl

/-- Whether a number is in a list. -/
def hasB (zs : List Int) (x : Int) : Bool := zs.any (fun z => z == x)
theorem hasB_true {zs : List Int} {x : Int} : hasB zs x = true ↔ x ∈ zs := by
  unfold hasB; rw [List.any_eq_true]
  exact ⟨fun ⟨z, hz, h⟩ => by simp at h; subst h; exact hz, fun h => ⟨x, h, by simp⟩⟩
theorem hasB_false {zs : List Int} {x : Int} : hasB zs x = false ↔ x ∉ zs := by
  rw [← hasB_true, Bool.not_eq_true]
theorem hasB_hit {zs : List Int} {x : Int} {k : Nat} (h : zs[k]? = some x) : hasB zs x = true := hasB_true.2 (List.mem_of_getElem? h)
theorem hasB_miss {zs : List Int} {x : Int} (h : ∀ (j : Nat) (y : Int), zs[j]? = some y → (y == x) = false) : hasB zs x = false := by
  rw [hasB_false]
  intro hx
  obtain ⟨k, hk⟩ := List.mem_iff_getElem?.1 hx
  have := h k x hk
  simp at this



set_option maxHeartbeats 1000000 in
theorem cloneInt_any (A : Option Addr) (n c : Nat) (zs : List Int) (w : World) (hn : zs.length = n) (hA : Rd w A (cells1 zs)) (h20 : n ≤ 1048576) :
    Calls Tryz.prog 59 #[.slice A n c] w (RetOwn 3 1 n (cells1 zs) w) := by
  have hnil := fun w a n c => Lib.run_eql_slice_nil (P := Tryz.prog) w 25 3 a n c 0 0 Tryz.underlying25
  cases A with
  | none =>
    have hcs : zs = [] := by
      rcases hA with h | ⟨g, o, h, _⟩
      · simpa [cells1] using h
      · cases h
    subst hcs
    have h0 : n = 0 := by simp at hn; omega
    subst h0
    go_enter Tryz.func59, Tryz.ntmps59
    go_wp2
    go_ret
    exact ⟨_, rfl, World.ownsRow_nil _ _ _ _, Below.refl _ _⟩
  | some ad =>
    have HE := Lib.hid (own_empty w w.heap.size 3 1 (Nat.le_refl _))
    have HR := Lib.hid (fun o => hA.alloc o)
    have HL := Lib.hid (show (cells1 zs).length = n * 1 by rw [length_cells1, hn, Nat.mul_one])
    clear hA
    go_enter Tryz.func59, Tryz.ntmps59
    go_wp2_with (at_builtin; go_must (refine wpList_app _ rfl (.tmp 5) (.tmp 6) 25 rfl w.heap.size 3 _ 1 8 Tryz.underlying25 infoI rfl (by omega) _ _ _ rfl HE.out _ n c (cells1 zs) rfl HL.out (HR.out _) (oneCell_ints zs) (by unfold maxLen; omega) (by omega) (by simp) ?_); intro v' w' o' g' d')
    go_ret
    refine ⟨_, rfl, by simpa using o', ((Below.refl _ _).alloc (Nat.le_refl _) _).trans (below_app HE.out g' (by simp) (Nat.le_refl _))⟩
end Go.Proofs.YtacacibpehnmgaaGreatDoor
