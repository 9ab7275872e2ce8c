/- RouteOn of the program; AreCovers of both. -/
import Derived.Test.YtobloedpmjkgpaaCvZi
import Derived.Test.YtobloedpmjkgpaaCvB
namespace Go.Proofs.Ytobloedpmjkgpaa
set_option linter.unusedVariables false
set_option linter.unusedSimpArgs false
open Go.RowKit

set_option maxHeartbeats 2000000 in
theorem implRouteOn_any (hrep : RepOK) (B : Option Addr) (n2 c2 : Nat) (ms : List R4) (x : R9) (w : World) (hn2 : ms.length = n2) (hB : Rd w B (cells4 ms)) (h2 : n2 ≤ 1048576) (hsm : ∀ y ∈ ms, sm4 y) :
    Calls Try.prog 16 #[.slice B n2 c2, .agg #[.int .i64 x.a, .int .i64 x.b, .int .i64 x.c, .int .i64 x.d, .int .i64 x.e, .int .i64 x.f, .int .i64 x.g, .int .i64 x.h, .int .i64 x.i]] w (fun e w' => ∃ v, e = .returned (.tuple #[v, .bool (rnB ms x)]) ∧ Below w.heap.size w w') := by
  have C1 := Lib.hid (fun w h => isTimetable_any B n2 c2 ms w hn2 h h2 hsm)
  have C2 := Lib.hid (fun w => isCover_any x w)
  have C3 := Lib.hid (fun w h hg hx => routeOn_any hrep B n2 c2 ms x w hn2 h hg hx)
  have HB := Lib.hid hB
  have HW0 : Hid (Below w.heap.size w (w.alloc (.cells #[.int .i64 x.a, .int .i64 x.b, .int .i64 x.c, .int .i64 x.d, .int .i64 x.e, .int .i64 x.f, .int .i64 x.g, .int .i64 x.h, .int .i64 x.i] 42))) := Lib.hid ((Below.refl _ _).alloc (Nat.le_refl _) _)
  clear hB hn2 hsm hrep
  cases hb1 : mlL ms with
  | false =>
    rw [show rnB ms x = false by unfold rnB; rw [hb1]; rfl]
    rw [hb1] at C1
    clear hb1
    go_enter Try.func16, Try.ntmps16
    go_wp2_with fail
    refine (C1.out _ (HB.out.alloc _)).mono ?_
    rintro e w1 ⟨rfl, b1⟩
    have HW1 := Lib.hid (HW0.out.trans (b1.mono HW0.out.size))
    have hw1 : w.heap.size < w1.heap.size := by have := b1.size; simp at this; omega
    have e0 := (b1.cell (p := ⟨w.heap.size, 0, none⟩) (by simp)).trans (World.cell?_alloc_at _ _ _ _ rfl)
    have e1 := (b1.cell (p := ⟨w.heap.size, 1, none⟩) (by simp)).trans (World.cell?_alloc_at _ _ _ _ rfl)
    have e2 := (b1.cell (p := ⟨w.heap.size, 2, none⟩) (by simp)).trans (World.cell?_alloc_at _ _ _ _ rfl)
    have e3 := (b1.cell (p := ⟨w.heap.size, 3, none⟩) (by simp)).trans (World.cell?_alloc_at _ _ _ _ rfl)
    have e4 := (b1.cell (p := ⟨w.heap.size, 4, none⟩) (by simp)).trans (World.cell?_alloc_at _ _ _ _ rfl)
    have e5 := (b1.cell (p := ⟨w.heap.size, 5, none⟩) (by simp)).trans (World.cell?_alloc_at _ _ _ _ rfl)
    have e6 := (b1.cell (p := ⟨w.heap.size, 6, none⟩) (by simp)).trans (World.cell?_alloc_at _ _ _ _ rfl)
    have e7 := (b1.cell (p := ⟨w.heap.size, 7, none⟩) (by simp)).trans (World.cell?_alloc_at _ _ _ _ rfl)
    have e8 := (b1.cell (p := ⟨w.heap.size, 8, none⟩) (by simp)).trans (World.cell?_alloc_at _ _ _ _ rfl)
    clear b1
    go_wp2
    go_ret2
    exact ⟨_, rfl, HW1.out⟩
  | true =>
    cases hb2 : cvB x with
    | false =>
      rw [show rnB ms x = false by unfold rnB; rw [hb1, hb2]; rfl]
      rw [hb1] at C1
      rw [hb2] at C2
      clear hb1 hb2
      go_enter Try.func16, Try.ntmps16
      go_wp2_with fail
      refine (C1.out _ (HB.out.alloc _)).mono ?_
      rintro e w1 ⟨rfl, b1⟩
      have HW1 := Lib.hid (HW0.out.trans (b1.mono HW0.out.size))
      have hw1 : w.heap.size < w1.heap.size := by have := b1.size; simp at this; omega
      have e0 := (b1.cell (p := ⟨w.heap.size, 0, none⟩) (by simp)).trans (World.cell?_alloc_at _ _ _ _ rfl)
      have e1 := (b1.cell (p := ⟨w.heap.size, 1, none⟩) (by simp)).trans (World.cell?_alloc_at _ _ _ _ rfl)
      have e2 := (b1.cell (p := ⟨w.heap.size, 2, none⟩) (by simp)).trans (World.cell?_alloc_at _ _ _ _ rfl)
      have e3 := (b1.cell (p := ⟨w.heap.size, 3, none⟩) (by simp)).trans (World.cell?_alloc_at _ _ _ _ rfl)
      have e4 := (b1.cell (p := ⟨w.heap.size, 4, none⟩) (by simp)).trans (World.cell?_alloc_at _ _ _ _ rfl)
      have e5 := (b1.cell (p := ⟨w.heap.size, 5, none⟩) (by simp)).trans (World.cell?_alloc_at _ _ _ _ rfl)
      have e6 := (b1.cell (p := ⟨w.heap.size, 6, none⟩) (by simp)).trans (World.cell?_alloc_at _ _ _ _ rfl)
      have e7 := (b1.cell (p := ⟨w.heap.size, 7, none⟩) (by simp)).trans (World.cell?_alloc_at _ _ _ _ rfl)
      have e8 := (b1.cell (p := ⟨w.heap.size, 8, none⟩) (by simp)).trans (World.cell?_alloc_at _ _ _ _ rfl)
      clear b1
      go_wp2_with fail
      refine (C2.out _).mono ?_
      rintro e w2 ⟨rfl, b2⟩
      have HW2 := Lib.hid (HW1.out.trans (b2.mono HW1.out.size))
      have hw2 : w.heap.size < w2.heap.size := Nat.lt_of_lt_of_le hw1 b2.size
      have f0 := (b2.cell (p := ⟨w.heap.size, 0, none⟩) hw1).trans e0
      have f1 := (b2.cell (p := ⟨w.heap.size, 1, none⟩) hw1).trans e1
      have f2 := (b2.cell (p := ⟨w.heap.size, 2, none⟩) hw1).trans e2
      have f3 := (b2.cell (p := ⟨w.heap.size, 3, none⟩) hw1).trans e3
      have f4 := (b2.cell (p := ⟨w.heap.size, 4, none⟩) hw1).trans e4
      have f5 := (b2.cell (p := ⟨w.heap.size, 5, none⟩) hw1).trans e5
      have f6 := (b2.cell (p := ⟨w.heap.size, 6, none⟩) hw1).trans e6
      have f7 := (b2.cell (p := ⟨w.heap.size, 7, none⟩) hw1).trans e7
      have f8 := (b2.cell (p := ⟨w.heap.size, 8, none⟩) hw1).trans e8
      clear b2 e0 e1 e2 e3 e4 e5 e6 e7 e8
      go_wp2
      go_ret2
      exact ⟨_, rfl, HW2.out⟩
    | true =>
      rw [show rnB ms x = roB ms x by unfold rnB; rw [hb1, hb2]; rfl]
      have HG := Lib.hid hb1
      have HX := Lib.hid hb2
      rw [hb1] at C1
      rw [hb2] at C2
      clear hb1 hb2
      go_enter Try.func16, Try.ntmps16
      go_wp2_with fail
      refine (C1.out _ (HB.out.alloc _)).mono ?_
      rintro e w1 ⟨rfl, b1⟩
      have HW1 := Lib.hid (HW0.out.trans (b1.mono HW0.out.size))
      have hw1 : w.heap.size < w1.heap.size := by have := b1.size; simp at this; omega
      have e0 := (b1.cell (p := ⟨w.heap.size, 0, none⟩) (by simp)).trans (World.cell?_alloc_at _ _ _ _ rfl)
      have e1 := (b1.cell (p := ⟨w.heap.size, 1, none⟩) (by simp)).trans (World.cell?_alloc_at _ _ _ _ rfl)
      have e2 := (b1.cell (p := ⟨w.heap.size, 2, none⟩) (by simp)).trans (World.cell?_alloc_at _ _ _ _ rfl)
      have e3 := (b1.cell (p := ⟨w.heap.size, 3, none⟩) (by simp)).trans (World.cell?_alloc_at _ _ _ _ rfl)
      have e4 := (b1.cell (p := ⟨w.heap.size, 4, none⟩) (by simp)).trans (World.cell?_alloc_at _ _ _ _ rfl)
      have e5 := (b1.cell (p := ⟨w.heap.size, 5, none⟩) (by simp)).trans (World.cell?_alloc_at _ _ _ _ rfl)
      have e6 := (b1.cell (p := ⟨w.heap.size, 6, none⟩) (by simp)).trans (World.cell?_alloc_at _ _ _ _ rfl)
      have e7 := (b1.cell (p := ⟨w.heap.size, 7, none⟩) (by simp)).trans (World.cell?_alloc_at _ _ _ _ rfl)
      have e8 := (b1.cell (p := ⟨w.heap.size, 8, none⟩) (by simp)).trans (World.cell?_alloc_at _ _ _ _ rfl)
      clear b1
      go_wp2_with fail
      refine (C2.out _).mono ?_
      rintro e w2 ⟨rfl, b2⟩
      have HW2 := Lib.hid (HW1.out.trans (b2.mono HW1.out.size))
      have hw2 : w.heap.size < w2.heap.size := Nat.lt_of_lt_of_le hw1 b2.size
      have f0 := (b2.cell (p := ⟨w.heap.size, 0, none⟩) hw1).trans e0
      have f1 := (b2.cell (p := ⟨w.heap.size, 1, none⟩) hw1).trans e1
      have f2 := (b2.cell (p := ⟨w.heap.size, 2, none⟩) hw1).trans e2
      have f3 := (b2.cell (p := ⟨w.heap.size, 3, none⟩) hw1).trans e3
      have f4 := (b2.cell (p := ⟨w.heap.size, 4, none⟩) hw1).trans e4
      have f5 := (b2.cell (p := ⟨w.heap.size, 5, none⟩) hw1).trans e5
      have f6 := (b2.cell (p := ⟨w.heap.size, 6, none⟩) hw1).trans e6
      have f7 := (b2.cell (p := ⟨w.heap.size, 7, none⟩) hw1).trans e7
      have f8 := (b2.cell (p := ⟨w.heap.size, 8, none⟩) hw1).trans e8
      clear b2 e0 e1 e2 e3 e4 e5 e6 e7 e8
      go_wp2_with fail
      refine (C3.out _ (HB.out.below HW2.out) HG.out HX.out).mono ?_
      rintro e w3 ⟨v3, rfl, o3, b3⟩
      have HW3 := Lib.hid (HW2.out.trans (b3.mono HW2.out.size))
      clear o3 b3
      go_wp2
      go_ret2
      exact ⟨_, rfl, HW3.out⟩
theorem specAreCovers_any (A : Option Addr) (n c : Nat) (xs : List R9) (w : World) (hn : xs.length = n) (hA : Rd w A (cells9 xs)) (h20 : n ≤ 1048576) :
    Calls Try.prog 10 #[.slice A n c] w (Ret (.bool (cvL xs)) w) := by
  go_enter Try.func10, Try.ntmps10
  go_wp2_with (go_at_call 27; refine (l10Good_any _ _ _ xs _ hn hA h20).mono ?_; rintro e w' ⟨rfl, hb⟩)
  go_ret
  exact ⟨rfl, by assumption⟩
theorem implAreCovers_any (A : Option Addr) (n c : Nat) (xs : List R9) (w : World) (hn : xs.length = n) (hA : Rd w A (cells9 xs)) (h20 : n ≤ 1048576) :
    Calls Try.prog 9 #[.slice A n c] w (Ret (.bool (cvL xs)) w) := by
  go_enter Try.func9, Try.ntmps9
  go_wp2_with (go_at_call 23; refine (areCovers_any _ _ _ xs _ hn hA h20).mono ?_; rintro e w' ⟨rfl, hb⟩)
  go_ret
  exact ⟨rfl, by assumption⟩
end Go.Proofs.Ytobloedpmjkgpaa
