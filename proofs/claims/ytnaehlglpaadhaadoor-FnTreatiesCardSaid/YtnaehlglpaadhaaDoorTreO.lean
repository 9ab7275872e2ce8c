/- SignTreaty of the program. -/
import Derived.Test.YtnaehlglpaadhaaDoorInsT2
import Derived.Test.YtnaehlglpaadhaaDoorSlcTrea
import Derived.Deep.RegionHeld3
namespace Go.Proofs.YtnaehlglpaadhaaDoor
set_option linter.unusedVariables false
set_option linter.unusedSimpArgs false
open Go.RowKit

theorem cells5_take (xs : List R5) (k : Nat) : cells5 (xs.take k) = (cells5 xs).take (k * 5) := by
  by_cases h : k ≤ xs.length
  · have e : cells5 xs = cells5 (xs.take k) ++ cells5 (xs.drop k) := by rw [← cells5_append, List.take_append_drop]
    rw [e, List.take_append_of_le_length (by rw [length_cells5, List.length_take]; omega)]
    exact (List.take_of_length_le (by rw [length_cells5, List.length_take]; omega)).symm
  · rw [List.take_of_length_le (show xs.length ≤ k by omega)]
    exact (List.take_of_length_le (by rw [length_cells5]; omega)).symm
theorem cells5_drop (xs : List R5) (k : Nat) : cells5 (xs.drop k) = (cells5 xs).drop (k * 5) := by
  have h1 : cells5 (xs.take k) ++ cells5 (xs.drop k) = (cells5 xs).take (k * 5) ++ (cells5 xs).drop (k * 5) := by rw [← cells5_append, List.take_append_drop, List.take_append_drop]
  rw [cells5_take] at h1
  exact List.append_cancel_left h1
/-- The list with one more in its place. -/
def sgL (xs : List R5) (x : R5) : List R5 := xs.take (posV xs x) ++ x :: xs.drop (posV xs x)
def sgB (xs : List R5) (x : R5) : Bool := trL xs && (trB x && trL (sgL xs x))
def sgV (xs : List R5) (x : R5) : List R5 := if sgB xs x then sgL xs x else []
def sgW (z : Bool) (l : List R5) : List R5 := if z then l else []
theorem length_sgL (xs : List R5) (x : R5) : (sgL xs x).length = xs.length + 1 := by
  have := posV_le xs x
  simp [sgL]; omega
theorem cells5_sgL (xs : List R5) (x : R5) : cells5 (sgL xs x) = (cells5 xs).take (posV xs x * 5) ++ (x.cells ++ (cells5 xs).drop (posV xs x * 5)) := by
  rw [sgL, cells5_append, cells5_cons, cells5_take, cells5_drop]
theorem sg_len (xs : List R5) (x : R5) : (sgV xs x).length ≤ 20 := by
  unfold sgV
  split
  · rename_i h
    simp only [sgB, Bool.and_eq_true] at h
    exact trL_len h.2.2
  · simp
theorem oneCell_x (x : R5) : ∀ u ∈ x.cells, u.oneCell' = true := fun u hu => oneCell_cells5 [x] u (by simpa [cells5] using hu)

set_option maxRecDepth 20000 in
set_option maxHeartbeats 4000000 in
theorem implSignTreaty_any (A : Option Addr) (n c : Nat) (xs : List R5) (x : R5) (w : World) (hn : xs.length = n) (hA : Rd w A (cells5 xs)) (h20 : n ≤ 1048576) :
    Calls Tryd.prog 20 #[.slice A n c, .agg #[.int .i64 x.a, .int .i64 x.b, .int .i64 x.c, .int .i64 x.d, .int .i64 x.e]] w (RetOwnB 44 5 (sgV xs x).length (cells5 (sgV xs x)) (sgB xs x) w) := by
  have C0 := Lib.hid (fun w h => areTreaties_any A n c xs w hn h h20)
  have C1 := Lib.hid (fun w => isTreaty_any x w)
  cases hv : trL xs with
  | false =>
    rw [hv] at C0
    have e : sgB xs x = false := by simp [sgB, hv]
    rw [show sgV xs x = [] by simp [sgV, e], e]
    clear e hv
    go_enter Tryd.func20, Tryd.ntmps20
    go_wp2_with fail
    refine (C0.out _ (hA.alloc _)).mono ?_
    rintro e w1 ⟨rfl, b1⟩
    go_wp2
    go_ret2
    exact ⟨_, rfl, World.ownsRow_nil _ _ _ _, ((Below.refl _ _).alloc (Nat.le_refl _) _).trans (b1.mono (by simp))⟩
  | true =>
    rw [hv] at C0
    have n20 := trL_len hv
    cases hb : trB x with
    | false =>
      rw [hb] at C1
      have e : sgB xs x = false := by simp [sgB, hb]
      rw [show sgV xs x = [] by simp [sgV, e], e]
      clear e hv hb
      go_enter Tryd.func20, Tryd.ntmps20
      go_wp2_with fail
      refine (C0.out _ (hA.alloc _)).mono ?_
      rintro e w1 ⟨rfl, b1⟩
      have hs1 := b1.size
      simp only [World.size_alloc] at hs1
      have e0 := (b1.cell (p := ⟨w.heap.size, 0, none⟩) (by simp)).trans (World.cell?_alloc_at _ _ _ _ rfl)
      have e1 := (b1.cell (p := ⟨w.heap.size, 1, none⟩) (by simp)).trans (World.cell?_alloc_at _ _ _ _ rfl)
      have e2 := (b1.cell (p := ⟨w.heap.size, 2, none⟩) (by simp)).trans (World.cell?_alloc_at _ _ _ _ rfl)
      have e3 := (b1.cell (p := ⟨w.heap.size, 3, none⟩) (by simp)).trans (World.cell?_alloc_at _ _ _ _ rfl)
      have e4 := (b1.cell (p := ⟨w.heap.size, 4, none⟩) (by simp)).trans (World.cell?_alloc_at _ _ _ _ rfl)
      go_wp2_with fail
      refine (C1.out _).mono ?_
      rintro e w2 ⟨rfl, b2⟩
      go_wp2
      go_ret2
      exact ⟨_, rfl, World.ownsRow_nil _ _ _ _, ((Below.refl _ _).alloc (Nat.le_refl _) _).trans ((b1.mono (by simp)).trans (b2.mono (by omega)))⟩
    | true =>
      rw [hb] at C1
      have C2 := Lib.hid (fun w h => binTreaty_any A n c xs x w hn h hv)
      have C3 := Lib.hid (fun w h => cloneTreaty_any A n c (cells5 xs) w (by rw [length_cells5, hn]) h (oneCell_cells5 xs) h20)
      have C4 := Lib.hid (fun base k v vb w h1 h2 h3 h4 h5 => insTreaty_any base n k vb v (cells5 xs) x.cells w h1 h2 h3 (oneCell_cells5 xs) h4 rfl (oneCell_x x) h5 h20)
      have C5 := Lib.hid (fun A' c' w h => areTreaties_any A' (n + 1) c' (sgL xs x) w (by rw [length_sgL, hn]) h (by omega))
      have HP := Lib.hid (cells5_sgL xs x)
      have hpl := posV_le xs x
      obtain ⟨k, hk⟩ : ∃ k, k = posV xs x := ⟨_, rfl⟩
      rw [← hk] at C2 HP hpl
      rw [hn] at hpl
      have e : sgB xs x = trL (sgL xs x) := by simp [sgB, hv, hb]
      obtain ⟨z, hz⟩ : ∃ z, z = trL (sgL xs x) := ⟨_, rfl⟩
      have hlen := Lib.hid (length_sgL xs x)
      have HN := Lib.hid hn
      have hV : sgV xs x = sgW z (sgL xs x) := by rw [sgV, e, hz, sgW]
      rw [hV, e, ← hz]
      rw [← hz] at C5
      have HA := Lib.hid hA
      have hki : (0 : Int) ≤ (k : Int) := by omega
      clear hv hb hk e hz hV hA
      go_enter Tryd.func20, Tryd.ntmps20
      go_wp2_with fail
      refine (C0.out _ (HA.out.alloc _)).mono ?_
      rintro e w1 ⟨rfl, b1⟩
      have hs1 := b1.size
      simp only [World.size_alloc] at hs1
      have e0 := (b1.cell (p := ⟨w.heap.size, 0, none⟩) (by simp)).trans (World.cell?_alloc_at _ _ _ _ rfl)
      have e1 := (b1.cell (p := ⟨w.heap.size, 1, none⟩) (by simp)).trans (World.cell?_alloc_at _ _ _ _ rfl)
      have e2 := (b1.cell (p := ⟨w.heap.size, 2, none⟩) (by simp)).trans (World.cell?_alloc_at _ _ _ _ rfl)
      have e3 := (b1.cell (p := ⟨w.heap.size, 3, none⟩) (by simp)).trans (World.cell?_alloc_at _ _ _ _ rfl)
      have e4 := (b1.cell (p := ⟨w.heap.size, 4, none⟩) (by simp)).trans (World.cell?_alloc_at _ _ _ _ rfl)
      have hb1 := ((Below.refl w.heap.size w).alloc (Nat.le_refl _) (Obj.cells #[.int .i64 x.a, .int .i64 x.b, .int .i64 x.c, .int .i64 x.d, .int .i64 x.e] 44)).trans (b1.mono (by simp))
      go_wp2_with fail
      refine (C1.out _).mono ?_
      rintro e w2 ⟨rfl, b2⟩
      have hb2 := hb1.trans (b2.mono hb1.size)
      have hs2 := b2.size
      obtain ⟨bc2, bf2⟩ := bcell b2
      have hsl1 : w.heap.size < w1.heap.size := by omega
      go_wp2_with fail
      refine (C2.out _ (HA.out.below hb2)).mono ?_
      rintro e w3 ⟨fb, rfl, b3⟩
      have hb3 := hb2.trans (b3.mono hb2.size)
      have hs3 := b3.size
      obtain ⟨bc3, bf3⟩ := bcell b3
      have d0 : w3.cell? ⟨w.heap.size, 0, none⟩ = some (.int .i64 x.a) := (bc3 w.heap.size 0 (by omega)).trans ((bc2 _ 0 (by omega)).trans e0)
      have d1 : w3.cell? ⟨w.heap.size, 1, none⟩ = some (.int .i64 x.b) := (bc3 w.heap.size 1 (by omega)).trans ((bc2 _ 1 (by omega)).trans e1)
      have d2 : w3.cell? ⟨w.heap.size, 2, none⟩ = some (.int .i64 x.c) := (bc3 w.heap.size 2 (by omega)).trans ((bc2 _ 2 (by omega)).trans e2)
      have d3 : w3.cell? ⟨w.heap.size, 3, none⟩ = some (.int .i64 x.d) := (bc3 w.heap.size 3 (by omega)).trans ((bc2 _ 3 (by omega)).trans e3)
      have d4 : w3.cell? ⟨w.heap.size, 4, none⟩ = some (.int .i64 x.e) := (bc3 w.heap.size 4 (by omega)).trans ((bc2 _ 4 (by omega)).trans e4)
      have HA3 := Lib.hid (HA.out.below hb3)
      have hsl3 : w.heap.size < w3.heap.size := by omega
      clear bc2 bf2 bc3 bf3 e0 e1 e2 e3 e4
      go_wp2_with fail
      go_region_held3 (fun w' => w'.cell? ⟨w.heap.size, 0, none⟩ = some (.int .i64 x.a) ∧ w'.cell? ⟨w.heap.size, 1, none⟩ = some (.int .i64 x.b) ∧ w'.cell? ⟨w.heap.size, 2, none⟩ = some (.int .i64 x.c) ∧ w'.cell? ⟨w.heap.size, 3, none⟩ = some (.int .i64 x.d) ∧ w'.cell? ⟨w.heap.size, 4, none⟩ = some (.int .i64 x.e)) (first | go_keep | exact KE4 | exact KE5) (first
        | (go_at_call 53; refine (C4.out w.heap.size k _ _ _ (by first | exact own_mono o4 (by simp; omega) | exact own_mono (o4.alloc _) (by simp; omega)) (by have := b4.size; simp at this ⊢; omega) hpl (by first | exact heap_alloc_new _ _ | exact (b4.block _ (by simp)).trans (heap_alloc_new _ _)) (fun e => by have := o4.lt _ e; simp at this <;> omega)).mono ?_; rintro e w5 ⟨v5, rfl, o5, g5⟩; have bc5 := fun (j : Nat) => (g5.cell_far ⟨w.heap.size, j, none⟩ (by have := b4.size; simp at this ⊢; omega) (fun e => by have := o4.lt _ e.symm; simp at this <;> omega)); have KE5 : w5.cell? ⟨w.heap.size, 0, none⟩ = some (.int .i64 x.a) ∧ w5.cell? ⟨w.heap.size, 1, none⟩ = some (.int .i64 x.b) ∧ w5.cell? ⟨w.heap.size, 2, none⟩ = some (.int .i64 x.c) ∧ w5.cell? ⟨w.heap.size, 3, none⟩ = some (.int .i64 x.d) ∧ w5.cell? ⟨w.heap.size, 4, none⟩ = some (.int .i64 x.e) := ⟨(bc5 0).trans (by first | exact KE4.1 | exact (World.cell?_alloc_lt _ _ _ (by have := b4.size; simp at this ⊢; omega)).trans KE4.1), (bc5 1).trans (by first | exact KE4.2.1 | exact (World.cell?_alloc_lt _ _ _ (by have := b4.size; simp at this ⊢; omega)).trans KE4.2.1), (bc5 2).trans (by first | exact KE4.2.2.1 | exact (World.cell?_alloc_lt _ _ _ (by have := b4.size; simp at this ⊢; omega)).trans KE4.2.2.1), (bc5 3).trans (by first | exact KE4.2.2.2.1 | exact (World.cell?_alloc_lt _ _ _ (by have := b4.size; simp at this ⊢; omega)).trans KE4.2.2.2.1), (bc5 4).trans (by first | exact KE4.2.2.2.2 | exact (World.cell?_alloc_lt _ _ _ (by have := b4.size; simp at this ⊢; omega)).trans KE4.2.2.2.2)⟩)
        | (go_at_call 47; refine (C3.out _ (by first | exact HA3.out | exact HA3.out.alloc _)).mono ?_; rintro e w4 ⟨v4, rfl, o4, b4⟩; obtain ⟨bc4, bf4⟩ := bcell b4; have KE4 : w4.cell? ⟨w.heap.size, 0, none⟩ = some (.int .i64 x.a) ∧ w4.cell? ⟨w.heap.size, 1, none⟩ = some (.int .i64 x.b) ∧ w4.cell? ⟨w.heap.size, 2, none⟩ = some (.int .i64 x.c) ∧ w4.cell? ⟨w.heap.size, 3, none⟩ = some (.int .i64 x.d) ∧ w4.cell? ⟨w.heap.size, 4, none⟩ = some (.int .i64 x.e) := ⟨(bc4 _ _ (by simp <;> omega)).trans (by first | exact d0 | exact (World.cell?_alloc_lt _ _ _ hsl3).trans d0), (bc4 _ _ (by simp <;> omega)).trans (by first | exact d1 | exact (World.cell?_alloc_lt _ _ _ hsl3).trans d1), (bc4 _ _ (by simp <;> omega)).trans (by first | exact d2 | exact (World.cell?_alloc_lt _ _ _ hsl3).trans d2), (bc4 _ _ (by simp <;> omega)).trans (by first | exact d3 | exact (World.cell?_alloc_lt _ _ _ hsl3).trans d3), (bc4 _ _ (by simp <;> omega)).trans (by first | exact d4 | exact (World.cell?_alloc_lt _ _ _ hsl3).trans d4)⟩))
      all_goals go_goals
      all_goals (
        clear KE4 KE5 bc5 C3 C4
        have hb4 : Below w.heap.size w w4 := by
          refine hb3.trans (Below.trans ?_ (b4.mono ?_))
          · first
            | exact Below.refl _ _
            | exact (Below.refl _ _).drew
            | exact (Below.refl _ _).alloc hb3.size _
            | exact ((Below.refl _ _).alloc hb3.size _).drew
            | exact ((Below.refl _ _).drew).alloc hb3.size _
          · first
            | exact hb3.size
            | exact (hb3.alloc hb3.size _).size
        have o4' := own_mono (base' := w.heap.size) o4 (by first | (show w.heap.size ≤ w3.heap.size; omega) | (simp; omega))
        have ol4 : ∀ j, v4.ownBlock = some j → w.heap.size ≤ j := fun j e => (o4'.lt _ e).1
        have hb5 : Below w.heap.size w w5 := by
          first
          | exact hb4.grown g5 hb4.size ol4
          | exact (hb4.alloc hb4.size _).grown g5 (hb4.alloc hb4.size _).size ol4
        rw [← HP.out] at o5
        obtain ⟨A', c', rfl⟩ := own_form o5
        have R5 := Lib.hid (Rd.of_own o5)
        have O5 := Lib.hid o5
        clear o5 o4 b4 g5 bc4 bf4 d0 d1 d2 d3 d4 HA3 C0 C1 C2 o4' ol4
        go_wp2_with fail
        refine (C5.out _ _ _ R5.out).mono ?_
        rintro e w6 ⟨rfl, b6⟩
        have HB6 := hb5.trans (b6.mono hb5.size)
        have O6 := own_below O5.out b6
        have hl := hlen.out
        rw [HN.out] at hl
        cases z with
        | true =>
          go_wp2
          go_ret2
          refine ⟨.slice A' (n + 1) c', rfl, ?_, HB6⟩
          simp only [sgW, if_true, hl]
          exact O6
        | false =>
          go_wp2
          go_ret2
          exact ⟨_, rfl, World.ownsRow_nil _ _ _ _, HB6⟩)
end Go.Proofs.YtnaehlglpaadhaaDoor
