/- The text of a lot in the state of number 3: the reference. -/
import Derived.Test.YtoijpemmcnmbeaaDoorTSaN
namespace Go.Proofs.YtoijpemmcnmbeaaDoor
set_option linter.unusedVariables false
set_option linter.unusedSimpArgs false
open Go.RowKit

set_option maxRecDepth 20000 in
set_option maxHeartbeats 8000000 in
theorem l29Text_3 (na nd ne : Nat) (b : Int) (w : World) (ha : na ≤ 99) (hd : nd ≤ 99999) (he : ne ≤ 999) : Calls Tryd.prog 8 #[.agg #[.int .i64 na, .int .i64 b, .int .i64 3, .int .i64 nd, .int .i64 ne]] w (Ret (.string (slT ⟨na, b, 3, nd, ne⟩)) w) := by
  obtain ⟨Ta, hTa⟩ : ∃ T, T = numT na := ⟨_, rfl⟩
  have sa : Ta.size ≤ 13 := by rw [hTa]; exact numT_size (by omega)
  obtain ⟨Td, hTd⟩ : ∃ T, T = numT nd := ⟨_, rfl⟩
  have sd : Td.size ≤ 13 := by rw [hTd]; exact numT_size (by omega)
  obtain ⟨Te, hTe⟩ : ∃ T, T = numT ne := ⟨_, rfl⟩
  have se : Te.size ≤ 13 := by rw [hTe]; exact numT_size (by omega)
  have Ca := Lib.hid (fun w => l1NumD na w (by omega))
  rw [← hTa] at Ca
  have Cd := Lib.hid (fun w => l1Num_any nd w (by omega))
  rw [← hTd] at Cd
  have Ce := Lib.hid (fun w => l1Num_any ne w (by omega))
  rw [← hTe] at Ce
  have HTA := Lib.hid hTa
  have HTD := Lib.hid hTd
  have HTE := Lib.hid hTe
  clear hTa hTd hTe ha hd he
  have HS : Hid ((((⟨#[108, 111, 116, 32]⟩ : ByteArray) ++ Ta) ++ (⟨#[32]⟩ : ByteArray)) ++ (⟨#[112, 97, 115, 115, 101, 100]⟩ : ByteArray) = slS ⟨na, b, 3, nd, ne⟩) := Lib.hid (by rw [HTA.out]; rfl)
  have z1 : (9223372036854775807 < 4 + Ta.size) = False := by simp; omega
  have z2 : (9223372036854775807 < 4 + Ta.size + 1) = False := by simp; omega
  have z3 : (9223372036854775807 < 4 + Ta.size + 1 + 6) = False := by simp; omega
  have E0 : Hid ((w.alloc (Obj.cells #[.int .i64 na, .int .i64 b, .int .i64 3, .int .i64 nd, .int .i64 ne] 26)).cell? ⟨w.heap.size, 0, none⟩ = some (.int .i64 (na : Int))) := Lib.hid (World.cell?_alloc_at _ _ _ _ rfl)
  have E2 : Hid ((w.alloc (Obj.cells #[.int .i64 na, .int .i64 b, .int .i64 3, .int .i64 nd, .int .i64 ne] 26)).cell? ⟨w.heap.size, 2, none⟩ = some (.int .i64 3)) := Lib.hid (World.cell?_alloc_at _ _ _ _ rfl)
  have E3 : Hid ((w.alloc (Obj.cells #[.int .i64 na, .int .i64 b, .int .i64 3, .int .i64 nd, .int .i64 ne] 26)).cell? ⟨w.heap.size, 3, none⟩ = some (.int .i64 (nd : Int))) := Lib.hid (World.cell?_alloc_at _ _ _ _ rfl)
  have E4 : Hid ((w.alloc (Obj.cells #[.int .i64 na, .int .i64 b, .int .i64 3, .int .i64 nd, .int .i64 ne] 26)).cell? ⟨w.heap.size, 4, none⟩ = some (.int .i64 (ne : Int))) := Lib.hid (World.cell?_alloc_at _ _ _ _ rfl)
  go_enter Tryd.func8, Tryd.ntmps8
  go_wp2_with fail
  obtain ⟨w1, hw1⟩ : ∃ w1, w1 = w.alloc (Obj.cells #[.int .i64 na, .int .i64 b, .int .i64 3, .int .i64 nd, .int .i64 ne] 26) := ⟨_, rfl⟩
  rw [← hw1] at E0 E2 E3 E4
  rw [← hw1]
  have hl1 : w1.heap.size = w.heap.size + 1 := by rw [hw1]; simp
  have HB1 : Hid (Below w.heap.size w w1) := Lib.hid (by rw [hw1]; exact (Below.refl _ _).alloc (Nat.le_refl _) _)
  clear hw1
  have e0 := E0.out
  have e2 := E2.out
  go_region_with (first | (go_at_call 12; (with_reducible refine (Ca.out _).mono ?_); rintro e w5 ⟨rfl, kd, rfl⟩))
  all_goals go_goals
  all_goals (
    refine gen9 (w1 := w1) (p := fun W9 => Exit.then _ _ _ _ W9) ?_ ?_
    · repeat (first | exact Below.refl _ _ | refine Below.drew ?_ | refine below_drewN ?_ _ | refine Below.alloc ?_ (by simp) _)
    intro W9 B9
    have hz9 := B9.size
    have d3 := (B9.cell (p := ⟨w.heap.size, 3, none⟩) (by show w.heap.size < _; omega)).trans E3.out
    have d4 := (B9.cell (p := ⟨w.heap.size, 4, none⟩) (by show w.heap.size < _; omega)).trans E4.out
    have hlt9 : w.heap.size < W9.heap.size := by omega
    have HB9 := Lib.hid (HB1.out.trans (B9.mono HB1.out.size))
    clear B9 e0 e2 z1 z2 z3
    by_cases hd0 : nd = 0
    · have f1 : decide ((0 : Int) < (nd : Int)) = false := decide_eq_false (by omega)
      have f2 : decide (0 < nd) = false := decide_eq_false (by omega)
      have HE := Lib.hid (show slT ⟨na, b, 3, nd, ne⟩ = slS ⟨na, b, 3, nd, ne⟩ by rw [slT, if_pos (by show (nd : Int) = 0; omega)])
      clear hd0
      go_wp2
      go_ret
      exact ⟨by rw [HE.out, ← HS.out]; rfl, HB9.out⟩
    · have f1 : decide ((0 : Int) < (nd : Int)) = true := decide_eq_true (by omega)
      have f2 : decide (0 < nd) = true := decide_eq_true (by omega)
      obtain ⟨S9, hS9⟩ : ∃ S, S = slS ⟨na, b, 3, nd, ne⟩ := ⟨_, rfl⟩
      have hS9s : S9.size ≤ 100 := by have h := sz4 (⟨#[108, 111, 116, 32]⟩ : ByteArray) Ta (⟨#[32]⟩ : ByteArray) (⟨#[112, 97, 115, 115, 101, 100]⟩ : ByteArray); rw [HS.out, ← hS9] at h; have h1 : ((⟨#[108, 111, 116, 32]⟩ : ByteArray)).size = 4 := rfl; have h2 : ((⟨#[32]⟩ : ByteArray)).size = 1 := rfl; have h3 : ((⟨#[112, 97, 115, 115, 101, 100]⟩ : ByteArray)).size ≤ 6 := (by decide); omega
      have HS9 : Hid ((((⟨#[108, 111, 116, 32]⟩ : ByteArray) ++ Ta) ++ (⟨#[32]⟩ : ByteArray)) ++ (⟨#[112, 97, 115, 115, 101, 100]⟩ : ByteArray) = S9) := Lib.hid (by rw [HS.out, hS9])
      have HE := Lib.hid (show (((S9 ++ (⟨#[32]⟩ : ByteArray)) ++ Td) ++ (⟨#[32, 98, 121, 32]⟩ : ByteArray)) ++ Te = slT ⟨na, b, 3, nd, ne⟩ by rw [slT, if_neg (by show ¬ (nd : Int) = 0; omega), hS9, HTD.out, HTE.out]; rfl)
      clear hd0 hS9
      rw [HS9.out]
      go_wp2_with fail
      refine wp_region_lat W9.heap.size (by kernel_rfl) (by kernel_rfl) ?_
      have LC := fun (u : Lat W9.heap.size W9) => u.cell
      repeat (go_big_quiet_step ((first | (go_at_call 12; (with_reducible exact lat_call _ (Nat.le_refl _) (Cd.out _))) | (go_at_call 12; (with_reducible exact lat_call _ (Nat.le_refl _) (Ce.out _))))))
      refine wpQuiet_nil ?_
      intro w7 hw7
      clear LC
      go_wp2
      go_ret
      exact ⟨by rw [← HE.out]; rfl, HB9.out.trans (hw7.mono HB9.out.size)⟩)
end Go.Proofs.YtoijpemmcnmbeaaDoor
