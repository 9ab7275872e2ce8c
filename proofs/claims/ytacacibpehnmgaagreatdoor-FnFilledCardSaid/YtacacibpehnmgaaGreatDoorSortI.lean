/- slices.Sort and slices.Reverse at ints, of a row that the call owns. -/
import Derived.Test.YtacacibpehnmgaaGreatDoorShelfS
import Derived.Test.YtacacibpehnmgaaGreatDoorExt
import Derived.Lib.RowBridge
import Derived.Sort.OwnSortedInts
namespace Go.Proofs.YtacacibpehnmgaaGreatDoor
set_option linter.unusedVariables false
set_option linter.unusedSimpArgs false
open Go.RowKit

/-- A row turned in place. -/
def RetTurn (base E n : Nat) (v : Value) (cs : List Value) (W : World) : Ending → World → Prop := fun e w' => e = .returned (.tuple #[]) ∧ w'.ownsRow base E 1 v n cs ∧ W.grownBy w' v.ownBlock
theorem sortInt_any (base n : Nat) (v : Value) (zs : List Int) (w : World) (ho : w.ownsRow base 3 1 v n (cells1 zs)) (hn : zs.length = n) (h20 : n ≤ 1048576) :
    Calls Tryz.prog 42 #[v] w (RetTurn base 3 n v (cells1 (zs.mergeSort fun x y => decide (x ≤ y))) w) := by
  rcases ho.2 with ⟨rfl, rfl⟩ | ⟨g, cap, cur, rfl, hbg, hgb, hnc, hcm, hcs, htk⟩
  · have hz : zs = [] := List.eq_nil_of_length_eq_zero hn
    subst hz
    refine (Tryz.slices_Sort_int_none none 0 w).mono ?_
    rintro e w' ⟨rfl, rfl⟩
    exact ⟨rfl, by simpa [cells1] using World.ownsRow_nil _ _ _ _, World.grownBy.refl _ _⟩
  · subst hn
    have hH := Lib.holds_of_ints (w := w) (b := g) (off := 0) (n := zs.length) (zs := zs) (Nat.le_refl _) (fun q hq => by rw [Nat.zero_add, ho.cellAt q (by omega)]; simp [cells1, List.getD, hq]) (fun q hq => by rw [Nat.zero_add]; exact ho.frozenAt q)
    rw [List.take_length] at hH
    refine (Tryz.slices_Sort_int g 0 cap zs w hH (Array.getElem?_eq_some_iff.1 hgb).1 (by omega)).mono ?_
    rintro e w' ⟨rfl, q, os, rfl⟩
    exact ⟨rfl, ownsRow_sortedI (ts := zs.mergeSort fun x y => decide (x ≤ y)) (List.length_mergeSort _) hbg hgb hnc hcm (by omega), grownBy_sortedI _⟩
theorem revInt_any (base n : Nat) (v : Value) (zs : List Int) (w : World) (ho : w.ownsRow base 3 1 v n (cells1 zs)) (hn : zs.length = n) (h20 : n ≤ 1048576) :
    Calls Tryz.prog 43 #[v] w (RetTurn base 3 n v (cells1 zs.reverse) w) := by
  rcases ho.2 with ⟨rfl, rfl⟩ | ⟨g, cap, cur, rfl, hbg, hgb, hnc, hcm, hcs, htk⟩
  · have hz : zs = [] := List.eq_nil_of_length_eq_zero hn
    subst hz
    refine (Tryz.slices_Reverse_int_empty none 0 w).mono ?_
    rintro e w' ⟨rfl, rfl⟩
    exact ⟨rfl, by simpa [cells1] using World.ownsRow_nil _ _ _ _, World.grownBy.refl _ _⟩
  · subst hn
    refine (Tryz.slices_Reverse_int_cells g 0 zs.length cap zs w (Nat.le_refl _) (by omega) (fun q hq => by rw [Nat.zero_add, ho.cellAt q (by omega)]; simp [cells1, List.getD, hq]) (fun q hq => by rw [Nat.zero_add]; exact ho.frozenAt q)).mono ?_
    rintro e w' ⟨rfl, q, rfl⟩
    have hodr : (w.drewN q).ownsRow base 3 1 (.slice (some ⟨g, 0, none⟩) zs.length cap) zs.length (cells1 zs) := ho
    rw [List.take_length]
    obtain ⟨h1, h2⟩ := own_setCells (zs.reverse.map (Value.int .i64)) hodr 0
    have hset := setAll_mid (zs.reverse.map (Value.int .i64)) [] (cells1 zs) [] (by simp [cells1])
    simp only [List.nil_append, List.append_nil, List.length_nil] at hset
    rw [hset] at h1
    exact ⟨rfl, h1, ⟨h2.os, h2.tape, h2.output, h2.size, h2.block⟩⟩
end Go.Proofs.YtacacibpehnmgaaGreatDoor
