/- slices.Clone at lists of Treaty. -/
import Derived.Test.YtnaehlglpaadhaaDoorTrea
import Derived.Test.YtnaehlglpaadhaaDoorExt
import Derived.Lib.SliceRun
namespace Go.Proofs.YtnaehlglpaadhaaDoor
set_option linter.unusedVariables false
set_option linter.unusedSimpArgs false
open Go.RowKit

set_option maxHeartbeats 1000000 in
theorem cloneTreaty_any (A : Option Addr) (n c : Nat) (cs : List Value) (w : World) (hn : cs.length = n * 5) (hA : Rd w A cs) (h1 : ∀ u ∈ cs, u.oneCell' = true) (h20 : n ≤ 1048576) :
    Calls Tryd.prog 47 #[.slice A n c] w (RetOwn 44 5 n cs w) := by
  have hnil := fun w a n c => Lib.run_eql_slice_nil (P := Tryd.prog) w 24 44 a n c 0 0 Tryd.underlying24
  cases A with
  | none =>
    have hcs : cs = [] := by
      rcases hA with h | ⟨g, o, h, _⟩
      · exact h
      · cases h
    subst hcs
    have h0 : n = 0 := by simp at hn; omega
    subst h0
    go_enter Tryd.func47, Tryd.ntmps47
    go_wp2
    go_ret
    exact ⟨_, rfl, World.ownsRow_nil _ _ _ _, Below.refl _ _⟩
  | some ad =>
    have HE := Lib.hid (own_empty w w.heap.size 44 5 (Nat.le_refl _))
    have HR := Lib.hid (fun o => hA.alloc o)
    have H1 := Lib.hid h1
    clear h1 hA
    go_enter Tryd.func47, Tryd.ntmps47
    go_wp2_with (at_builtin; go_must (refine wpList_app _ rfl (.tmp 5) (.tmp 6) 24 rfl w.heap.size 44 _ 5 40 Tryd.underlying24 info44 rfl (by omega) _ _ _ rfl HE.out _ n c cs rfl hn (HR.out _) H1.out (by unfold maxLen; omega) (by omega) (by simp) ?_); intro v' w' o' g' d')
    go_ret
    refine ⟨_, rfl, by simpa using o', ((Below.refl _ _).alloc (Nat.le_refl _) _).trans (below_app HE.out g' (by simp) (Nat.le_refl _))⟩
end Go.Proofs.YtnaehlglpaadhaaDoor
