/- slices.Sort and slices.Compact at ints, of a row that the call owns. -/
import Derived.Test.YtehohkdipfphmaaDoorShelf
import Derived.Test.YtehohkdipfphmaaDoorExt
import Derived.Sort.OwnSortedInts
namespace Go.Proofs.YtehohkdipfphmaaDoor
set_option linter.unusedVariables false
set_option linter.unusedSimpArgs false
open Go.RowKit

theorem own_prefix {w : World} {base e g n c m : Nat} {xs ys : List Value} (h : w.ownsRow base e 1 (.slice (some ⟨g, 0, none⟩) n c) n (xs ++ ys)) (hm : xs.length = m) (hmn : m ≤ n) : w.ownsRow base e 1 (.slice (some ⟨g, 0, none⟩) m c) m xs := by
  obtain ⟨h1, h2⟩ := h
  refine ⟨by omega, ?_⟩
  rcases h2 with ⟨h', h0⟩ | ⟨g', cap, cur, h', hg, hh, hnc, hcm, hsz, ht⟩
  · simp at h'
  · injection h' with e1 e2 e3
    injection e1 with e1
    injection e1 with e1
    subst e1; subst e3
    refine .inr ⟨g, c, cur, rfl, hg, hh, by omega, hcm, hsz, ?_⟩
    have h3 := congrArg (List.take (m * 1)) ht
    rw [List.take_take, show min (m * 1) (n * 1) = m * 1 by omega] at h3
    rw [h3, List.take_append_of_le_length (by omega), List.take_of_length_le (by omega)]

/-- A row turned in place. -/
def RetTurn (base E n : Nat) (v : Value) (cs : List Value) (W : World) : Ending → World → Prop := fun e w' => e = .returned (.tuple #[]) ∧ w'.ownsRow base E 1 v n cs ∧ W.grownBy w' v.ownBlock
theorem sortInt_any (base n : Nat) (v : Value) (zs : List Int) (w : World) (ho : w.ownsRow base 3 1 v n (cells1 zs)) (hn : zs.length = n) (h20 : n ≤ 1048576) :
    Calls Tryd.prog 27 #[v] w (RetTurn base 3 n v (cells1 (zs.mergeSort fun x y => decide (x ≤ y))) w) := by
  rcases ho.2 with ⟨rfl, rfl⟩ | ⟨g, cap, cur, rfl, hbg, hgb, hnc, hcm, hcs, htk⟩
  · have hz : zs = [] := List.eq_nil_of_length_eq_zero hn
    subst hz
    refine (Tryd.slices_Sort_int_none none 0 w).mono ?_
    rintro e w' ⟨rfl, rfl⟩
    exact ⟨rfl, by simpa [cells1] using World.ownsRow_nil _ _ _ _, World.grownBy.refl _ _⟩
  · subst hn
    have hH := Lib.holds_of_ints (w := w) (b := g) (off := 0) (n := zs.length) (zs := zs) (Nat.le_refl _) (fun q hq => by rw [Nat.zero_add, ho.cellAt q (by omega)]; simp [cells1, List.getD, hq]) (fun q hq => by rw [Nat.zero_add]; exact ho.frozenAt q)
    rw [List.take_length] at hH
    refine (Tryd.slices_Sort_int g 0 cap zs w hH (Array.getElem?_eq_some_iff.1 hgb).1 (by omega)).mono ?_
    rintro e w' ⟨rfl, q, os, rfl⟩
    exact ⟨rfl, ownsRow_sortedI (ts := zs.mergeSort fun x y => decide (x ≤ y)) (List.length_mergeSort _) hbg hgb hnc hcm (by omega), grownBy_sortedI _⟩
/-- A row cut short, in place. -/
def RetCut (base E : Nat) (v : Value) (zs : List Int) (W : World) : Ending → World → Prop := fun e w' => ∃ u, e = .returned u ∧ w'.ownsRow base E 1 u zs.length (cells1 zs) ∧ W.grownBy w' v.ownBlock ∧ u.ownBlock = v.ownBlock
theorem compactInt_any (base n : Nat) (v : Value) (zs : List Int) (w : World) (ho : w.ownsRow base 3 1 v n (cells1 zs)) (hn : zs.length = n) (h20 : n ≤ 1048576) :
    Calls Tryd.prog 34 #[v] w (RetCut base 3 v (Lib.compact zs) w) := by
  rcases ho.2 with ⟨rfl, rfl⟩ | ⟨g, cap, cur, rfl, hbg, hgb, hnc, hcm, hcs, htk⟩
  · have hz : zs = [] := List.eq_nil_of_length_eq_zero hn
    subst hz
    refine (Tryd.slices_Compact_int_empty none 0 w).mono ?_
    rintro e w' ⟨rfl, rfl⟩
    exact ⟨_, rfl, World.ownsRow_nil _ _ _ _, World.grownBy.refl _ _, rfl⟩
  · subst hn
    have hle := Lib.compact_length_le zs
    refine (Tryd.slices_Compact_int_cells g 0 zs.length cap zs w (Nat.le_refl _) (by omega) hnc (fun q hq => by rw [Nat.zero_add, ho.cellAt q (by omega)]; simp [cells1, List.getD, hq]) (fun q hq => by rw [Nat.zero_add]; exact ho.frozenAt q)).mono ?_
    rintro e w' ⟨rfl, q, rfl⟩
    rw [List.take_length]
    have hodr : (w.drewN q).ownsRow base 3 1 (.slice (some ⟨g, 0, none⟩) zs.length cap) zs.length (cells1 zs) := ho
    obtain ⟨h1, h2⟩ := own_setCells ((Lib.compact zs ++ List.replicate (zs.length - (Lib.compact zs).length) 0).map (Value.int .i64)) hodr 0
    have hset := setAll_mid ((Lib.compact zs ++ List.replicate (zs.length - (Lib.compact zs).length) 0).map (Value.int .i64)) [] (cells1 zs) [] (by first | (simp [cells1]; done) | (simp [cells1]; omega))
    simp only [List.nil_append, List.append_nil, List.length_nil] at hset
    rw [hset] at h1
    refine ⟨_, rfl, ?_, ⟨h2.os, h2.tape, h2.output, h2.size, h2.block⟩, rfl⟩
    refine own_prefix (ys := cells1 (List.replicate (zs.length - (Lib.compact zs).length) 0)) (n := zs.length) ?_ (by have := length_cells1 (Lib.compact zs); omega) (by omega)
    have hcs : cells1 (Lib.compact zs) ++ cells1 (List.replicate (zs.length - (Lib.compact zs).length) 0) = (Lib.compact zs ++ List.replicate (zs.length - (Lib.compact zs).length) 0).map (Value.int .i64) := by
      rw [← cells1_append]; rfl
    rw [hcs]
    exact h1
end Go.Proofs.YtehohkdipfphmaaDoor
