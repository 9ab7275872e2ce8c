/- SaleText: the reference's and the program's. -/
import Derived.Test.YtoijpemmcnmbeaaDoorTSa0
import Derived.Test.YtoijpemmcnmbeaaDoorTSa1
import Derived.Test.YtoijpemmcnmbeaaDoorTSa2
import Derived.Test.YtoijpemmcnmbeaaDoorTSa3
namespace Go.Proofs.YtoijpemmcnmbeaaDoor
set_option linter.unusedVariables false
set_option linter.unusedSimpArgs false
open Go.RowKit

theorem l29Text_any (x : R5) (w : World) (hv : lotB x = true) : Calls Tryd.prog 8 #[.agg #[.int .i64 x.a, .int .i64 x.b, .int .i64 x.c, .int .i64 x.d, .int .i64 x.e]] w (Ret (.string (slT x)) w) := by
  obtain ⟨⟨ba1, ba2⟩, ⟨bd1, bd2⟩, ⟨be1, be2⟩, hc⟩ := lotB_bd hv
  obtain ⟨a, b, c, d, e⟩ := x
  simp only at ba1 ba2 bd1 bd2 be1 be2 hc ⊢
  clear hv
  obtain ⟨na, rfl⟩ : ∃ n : Nat, a = n := ⟨a.toNat, by omega⟩
  obtain ⟨nd, rfl⟩ : ∃ n : Nat, d = n := ⟨d.toNat, by omega⟩
  obtain ⟨ne, rfl⟩ : ∃ n : Nat, e = n := ⟨e.toNat, by omega⟩
  rcases hc with rfl | rfl | rfl | rfl
  · exact l29Text_0 na nd ne b w (by omega) (by omega) (by omega)
  · exact l29Text_1 na nd ne b w (by omega) (by omega) (by omega)
  · exact l29Text_2 na nd ne b w (by omega) (by omega) (by omega)
  · exact l29Text_3 na nd ne b w (by omega) (by omega) (by omega)

set_option maxHeartbeats 2000000 in
theorem specSaleText_any (x : R5) (w : World) : Calls Tryd.prog 4 #[.agg #[.int .i64 x.a, .int .i64 x.b, .int .i64 x.c, .int .i64 x.d, .int .i64 x.e]] w (Ret (.tuple #[.string (slV x), .bool (lotB x)]) w) := by
  have C0 := Lib.hid (fun w => l29One_any x w)
  have C1 := Lib.hid (fun w hv => l29Text_any x w hv)
  cases hv : lotB x with
  | false =>
    rw [hv] at C0
    have HV := Lib.hid (show slV x = ⟨#[]⟩ by rw [slV, hv]; rfl)
    have HVV := Lib.hid hv
    clear hv
    go_enter Tryd.func4, Tryd.ntmps4
    go_wp2_with fail
    refine (C0.out _).mono ?_
    rintro e w1 ⟨rfl, b1⟩
    go_wp2
    go_ret2
    exact ⟨by first | (rw [HV.out]; done) | (rw [HV.out]; rfl), ((Below.refl _ _).alloc (Nat.le_refl _) _).trans (b1.mono (by simp))⟩
  | true =>
    rw [hv] at C0
    have HV := Lib.hid (show slV x = slT x by rw [slV, hv]; rfl)
    have HVV := Lib.hid hv
    clear hv
    go_enter Tryd.func4, Tryd.ntmps4
    go_wp2_with fail
    refine (C0.out _).mono ?_
    rintro e w1 ⟨rfl, b1⟩
    have hs1 := b1.size
    simp only [World.size_alloc] at hs1
    have e0 := (b1.cell (p := ⟨w.heap.size, 0, none⟩) (by simp)).trans (World.cell?_alloc_at _ _ _ _ rfl)
    have e1 := (b1.cell (p := ⟨w.heap.size, 1, none⟩) (by simp)).trans (World.cell?_alloc_at _ _ _ _ rfl)
    have e2 := (b1.cell (p := ⟨w.heap.size, 2, none⟩) (by simp)).trans (World.cell?_alloc_at _ _ _ _ rfl)
    have e3 := (b1.cell (p := ⟨w.heap.size, 3, none⟩) (by simp)).trans (World.cell?_alloc_at _ _ _ _ rfl)
    have e4 := (b1.cell (p := ⟨w.heap.size, 4, none⟩) (by simp)).trans (World.cell?_alloc_at _ _ _ _ rfl)
    have HB1 := Lib.hid (((Below.refl w.heap.size w).alloc (Nat.le_refl _) (Obj.cells #[.int .i64 x.a, .int .i64 x.b, .int .i64 x.c, .int .i64 x.d, .int .i64 x.e] 26)).trans (b1.mono (by simp)))
    clear b1
    go_wp2_with fail
    refine (C1.out _ HVV.out).mono ?_
    rintro e w2 ⟨rfl, b2⟩
    go_wp2
    go_ret2
    exact ⟨by first | (rw [HV.out]; done) | (rw [HV.out]; rfl), HB1.out.trans (b2.mono HB1.out.size)⟩

set_option maxRecDepth 20000 in
set_option maxHeartbeats 8000000 in
theorem implSaleText_any (x : R5) (w : World) (ht : ∀ w', Below w.heap.size w w' → Lib.TabIs Tryd.prog w' "internal/strconv.uint64pow10" .u64 Lib.pow10Tab) : Calls Tryd.prog 6 #[.agg #[.int .i64 x.a, .int .i64 x.b, .int .i64 x.c, .int .i64 x.d, .int .i64 x.e]] w (Ret (.tuple #[.string (slV x), .bool (lotB x)]) w) := by
  have HT := Lib.hid ht
  clear ht
  have C0 : Hid (∀ w A, Rd w A (cells5 [x]) → Calls Tryd.prog 9 #[.slice A 1 1] w (Ret (.bool (lotB x)) w)) := Lib.hid (fun w A h => by have := isAuction_any A 1 1 [x] w rfl h (by omega); rw [auc_one] at this; exact this)
  cases hv : lotB x with
  | false =>
    rw [hv] at C0
    have HV := Lib.hid (show slV x = ⟨#[]⟩ by rw [slV, hv]; rfl)
    clear hv
    go_enter Tryd.func6, Tryd.ntmps6
    go_wp2_with fail
    refine (C0.out _ _ (rd_new #[.int .i64 x.a, .int .i64 x.b, .int .i64 x.c, .int .i64 x.d, .int .i64 x.e] 26 (by simp))).mono ?_
    rintro e w1 ⟨rfl, b1⟩
    go_wp2
    go_ret2
    exact ⟨by first | (rw [HV.out]; done) | (rw [HV.out]; rfl), (((Below.refl _ _).alloc (Nat.le_refl _) _).alloc (by simp) _).trans (b1.mono (by first | (simp; done) | (simp; omega)))⟩
  | true =>
    rw [hv] at C0
    have HV := Lib.hid (show slV x = slT x by rw [slV, hv]; rfl)
    obtain ⟨⟨ba1, ba2⟩, ⟨bd1, bd2⟩, ⟨be1, be2⟩, hc⟩ := lotB_bd hv
    obtain ⟨a, b, c, d, e⟩ := x
    simp only at ba1 ba2 bd1 bd2 be1 be2 hc C0 HV ⊢
    clear hv
    obtain ⟨na, rfl⟩ : ∃ n : Nat, a = n := ⟨a.toNat, by omega⟩
    obtain ⟨Ta, hTa⟩ : ∃ T, T = numT na := ⟨_, rfl⟩
    have sa : Ta.size ≤ 13 := by rw [hTa]; exact numT_size (by omega)
    have Ca := Lib.hid (fun w' h => itoa_any na (by omega) w' (HT.out w' h))
    rw [← hTa] at Ca
    obtain ⟨nd, rfl⟩ : ∃ n : Nat, d = n := ⟨d.toNat, by omega⟩
    obtain ⟨Td, hTd⟩ : ∃ T, T = numT nd := ⟨_, rfl⟩
    have sd : Td.size ≤ 13 := by rw [hTd]; exact numT_size (by omega)
    have Cd := Lib.hid (fun w' h => itoa_any nd (by omega) w' (HT.out w' h))
    rw [← hTd] at Cd
    obtain ⟨ne, rfl⟩ : ∃ n : Nat, e = n := ⟨e.toNat, by omega⟩
    obtain ⟨Te, hTe⟩ : ∃ T, T = numT ne := ⟨_, rfl⟩
    have se : Te.size ≤ 13 := by rw [hTe]; exact numT_size (by omega)
    have Ce := Lib.hid (fun w' h => itoa_any ne (by omega) w' (HT.out w' h))
    rw [← hTe] at Ce
    have HTA := Lib.hid hTa
    have HTD := Lib.hid hTd
    have HTE := Lib.hid hTe
    clear hTa hTd hTe ba1 ba2 bd2 be1 be2
    rcases hc with rfl | rfl | rfl | rfl
    · have HS : Hid ((((⟨#[108, 111, 116, 32]⟩ : ByteArray) ++ Ta) ++ (⟨#[32]⟩ : ByteArray)) ++ (⟨#[119, 97, 105, 116, 115]⟩ : ByteArray) = slS ⟨na, b, 0, nd, ne⟩) := Lib.hid (by rw [HTA.out]; rfl)
      obtain ⟨S9, hS9⟩ : ∃ S, S = slS ⟨na, b, 0, nd, ne⟩ := ⟨_, rfl⟩
      have hS9s : S9.size ≤ 100 := by have h := sz4 (⟨#[108, 111, 116, 32]⟩ : ByteArray) Ta (⟨#[32]⟩ : ByteArray) (⟨#[119, 97, 105, 116, 115]⟩ : ByteArray); rw [HS.out, ← hS9] at h; have h1 : ((⟨#[108, 111, 116, 32]⟩ : ByteArray)).size = 4 := rfl; have h2 : ((⟨#[32]⟩ : ByteArray)).size = 1 := rfl; have h3 : ((⟨#[119, 97, 105, 116, 115]⟩ : ByteArray)).size ≤ 6 := (by decide); omega
      have HS9 : Hid ((((⟨#[108, 111, 116, 32]⟩ : ByteArray) ++ Ta) ++ (⟨#[32]⟩ : ByteArray)) ++ (⟨#[119, 97, 105, 116, 115]⟩ : ByteArray) = S9) := Lib.hid (by rw [HS.out, hS9])
      have hix : ∀ W, Sem.run Tryd.prog (Instr.index 34 (.agg #[.string ⟨#[119, 97, 105, 116, 115]⟩, .string ⟨#[111, 112, 101, 110]⟩, .string ⟨#[115, 111, 108, 100]⟩, .string ⟨#[112, 97, 115, 115, 101, 100]⟩]) (.int .i64 0)) W = .ok (.string (⟨#[119, 97, 105, 116, 115]⟩ : ByteArray)) W := fun W => by kernel_rfl
      have HSE := Lib.hid hS9
      clear hS9
      go_enter Tryd.func6, Tryd.ntmps6
      go_wp2_with fail
      refine (C0.out _ _ (rd_new #[.int .i64 na, .int .i64 b, .int .i64 0, .int .i64 nd, .int .i64 ne] 26 (by simp))).mono ?_
      rintro e w1 ⟨rfl, b1⟩
      have B1 : Below (w.heap.size + 1) (w.alloc (Obj.cells #[.int .i64 na, .int .i64 b, .int .i64 0, .int .i64 nd, .int .i64 ne] 26)) w1 := ((Below.refl _ _).alloc (by simp) _).trans (b1.mono (by first | (simp; done) | (simp; omega)))
      have hz1 := B1.size
      simp only [World.size_alloc] at hz1
      have e0 := (B1.cell (p := ⟨w.heap.size, 0, none⟩) (by simp)).trans (World.cell?_alloc_at _ _ _ _ rfl)
      have e1 := (B1.cell (p := ⟨w.heap.size, 1, none⟩) (by simp)).trans (World.cell?_alloc_at _ _ _ _ rfl)
      have e2 := (B1.cell (p := ⟨w.heap.size, 2, none⟩) (by simp)).trans (World.cell?_alloc_at _ _ _ _ rfl)
      have e3 := (B1.cell (p := ⟨w.heap.size, 3, none⟩) (by simp)).trans (World.cell?_alloc_at _ _ _ _ rfl)
      have e4 := (B1.cell (p := ⟨w.heap.size, 4, none⟩) (by simp)).trans (World.cell?_alloc_at _ _ _ _ rfl)
      have hlt1 : w.heap.size < w1.heap.size := by omega
      have HB1 := Lib.hid (((Below.refl w.heap.size w).alloc (Nat.le_refl _) (Obj.cells #[.int .i64 na, .int .i64 b, .int .i64 0, .int .i64 nd, .int .i64 ne] 26)).trans (B1.mono (by omega)))
      clear B1 b1
      go_wp2_with fail
      refine wp_region_lat w1.heap.size (by kernel_rfl) (by kernel_rfl) ?_
      have LC := fun (u : Lat w1.heap.size w1) => u.cell
      repeat (go_big_quiet_step ((go_at_call 10; (with_reducible exact lat_call _ (Nat.le_refl _) (Ca.out _ (HB1.out.trans ((Lat.below _).mono HB1.out.size)))))))
      refine wpQuiet_nil ?_
      intro w5 B5
      clear LC
      have k2 := trivial
      have hl5 : w.heap.size < w5.heap.size := by have := B5.size; omega
      all_goals (
        have d3 := (B5.cell (p := ⟨w.heap.size, 3, none⟩) (by show w.heap.size < _; omega)).trans e3
        have d4 := (B5.cell (p := ⟨w.heap.size, 4, none⟩) (by show w.heap.size < _; omega)).trans e4
        have HB9 := Lib.hid (HB1.out.trans (B5.mono HB1.out.size))
        clear e0 e1 e2 e3 e4 B5 k2
        try rw [HS9.out]
        by_cases hd0 : nd = 0
        · have f1 : ((nd : Int) != 0) = false := by simp; omega
          have HE := Lib.hid (show slT ⟨na, b, 0, nd, ne⟩ = S9 by rw [slT, if_pos (by show (nd : Int) = 0; omega), HSE.out])
          clear hd0
          go_wp2
          go_ret2
          exact ⟨by rw [HV.out, HE.out]; first | done | rfl | (rw [← HS9.out]; rfl), HB9.out⟩
        · have f1 : ((nd : Int) != 0) = true := by simp; omega
          have HE := Lib.hid (show S9 ++ ((((⟨#[32]⟩ : ByteArray) ++ Td) ++ (⟨#[32, 98, 121, 32]⟩ : ByteArray)) ++ Te) = slT ⟨na, b, 0, nd, ne⟩ by rw [slT, if_neg (by show ¬ (nd : Int) = 0; omega), ← HSE.out, HTD.out, HTE.out]; simp only [ByteArray.append_assoc]; rfl)
          clear hd0
          go_wp2_with fail
          refine wp_region_lat w5.heap.size (by kernel_rfl) (by kernel_rfl) ?_
          have LC := fun (u : Lat w5.heap.size w5) => u.cell
          repeat (go_big_quiet_step ((first | (go_at_call 10; (with_reducible exact lat_call _ (Nat.le_refl _) (Cd.out _ (HB9.out.trans ((Lat.below _).mono HB9.out.size))))) | (go_at_call 10; (with_reducible exact lat_call _ (Nat.le_refl _) (Ce.out _ (HB9.out.trans ((Lat.below _).mono HB9.out.size))))))))
          refine wpQuiet_nil ?_
          intro w7 hw7
          clear LC
          go_wp2
          go_ret2
          exact ⟨by rw [HV.out, ← HE.out]; first | done | rfl | (rw [← HS9.out]; rfl), HB9.out.trans (hw7.mono HB9.out.size)⟩)
    · have HS : Hid ((((⟨#[108, 111, 116, 32]⟩ : ByteArray) ++ Ta) ++ (⟨#[32]⟩ : ByteArray)) ++ (⟨#[111, 112, 101, 110]⟩ : ByteArray) = slS ⟨na, b, 1, nd, ne⟩) := Lib.hid (by rw [HTA.out]; rfl)
      obtain ⟨S9, hS9⟩ : ∃ S, S = slS ⟨na, b, 1, nd, ne⟩ := ⟨_, rfl⟩
      have hS9s : S9.size ≤ 100 := by have h := sz4 (⟨#[108, 111, 116, 32]⟩ : ByteArray) Ta (⟨#[32]⟩ : ByteArray) (⟨#[111, 112, 101, 110]⟩ : ByteArray); rw [HS.out, ← hS9] at h; have h1 : ((⟨#[108, 111, 116, 32]⟩ : ByteArray)).size = 4 := rfl; have h2 : ((⟨#[32]⟩ : ByteArray)).size = 1 := rfl; have h3 : ((⟨#[111, 112, 101, 110]⟩ : ByteArray)).size ≤ 6 := (by decide); omega
      have HS9 : Hid ((((⟨#[108, 111, 116, 32]⟩ : ByteArray) ++ Ta) ++ (⟨#[32]⟩ : ByteArray)) ++ (⟨#[111, 112, 101, 110]⟩ : ByteArray) = S9) := Lib.hid (by rw [HS.out, hS9])
      have hix : ∀ W, Sem.run Tryd.prog (Instr.index 34 (.agg #[.string ⟨#[119, 97, 105, 116, 115]⟩, .string ⟨#[111, 112, 101, 110]⟩, .string ⟨#[115, 111, 108, 100]⟩, .string ⟨#[112, 97, 115, 115, 101, 100]⟩]) (.int .i64 1)) W = .ok (.string (⟨#[111, 112, 101, 110]⟩ : ByteArray)) W := fun W => by kernel_rfl
      have HSE := Lib.hid hS9
      clear hS9
      go_enter Tryd.func6, Tryd.ntmps6
      go_wp2_with fail
      refine (C0.out _ _ (rd_new #[.int .i64 na, .int .i64 b, .int .i64 1, .int .i64 nd, .int .i64 ne] 26 (by simp))).mono ?_
      rintro e w1 ⟨rfl, b1⟩
      have B1 : Below (w.heap.size + 1) (w.alloc (Obj.cells #[.int .i64 na, .int .i64 b, .int .i64 1, .int .i64 nd, .int .i64 ne] 26)) w1 := ((Below.refl _ _).alloc (by simp) _).trans (b1.mono (by first | (simp; done) | (simp; omega)))
      have hz1 := B1.size
      simp only [World.size_alloc] at hz1
      have e0 := (B1.cell (p := ⟨w.heap.size, 0, none⟩) (by simp)).trans (World.cell?_alloc_at _ _ _ _ rfl)
      have e1 := (B1.cell (p := ⟨w.heap.size, 1, none⟩) (by simp)).trans (World.cell?_alloc_at _ _ _ _ rfl)
      have e2 := (B1.cell (p := ⟨w.heap.size, 2, none⟩) (by simp)).trans (World.cell?_alloc_at _ _ _ _ rfl)
      have e3 := (B1.cell (p := ⟨w.heap.size, 3, none⟩) (by simp)).trans (World.cell?_alloc_at _ _ _ _ rfl)
      have e4 := (B1.cell (p := ⟨w.heap.size, 4, none⟩) (by simp)).trans (World.cell?_alloc_at _ _ _ _ rfl)
      have hlt1 : w.heap.size < w1.heap.size := by omega
      have HB1 := Lib.hid (((Below.refl w.heap.size w).alloc (Nat.le_refl _) (Obj.cells #[.int .i64 na, .int .i64 b, .int .i64 1, .int .i64 nd, .int .i64 ne] 26)).trans (B1.mono (by omega)))
      clear B1 b1
      go_wp2_with fail
      refine wp_region_lat w1.heap.size (by kernel_rfl) (by kernel_rfl) ?_
      have LC := fun (u : Lat w1.heap.size w1) => u.cell
      repeat (go_big_quiet_step ((go_at_call 10; (with_reducible exact lat_call _ (Nat.le_refl _) (Ca.out _ (HB1.out.trans ((Lat.below _).mono HB1.out.size)))))))
      refine wpQuiet_nil ?_
      intro w5 B5
      clear LC
      have k2 := trivial
      have hl5 : w.heap.size < w5.heap.size := by have := B5.size; omega
      all_goals (
        have d3 := (B5.cell (p := ⟨w.heap.size, 3, none⟩) (by show w.heap.size < _; omega)).trans e3
        have d4 := (B5.cell (p := ⟨w.heap.size, 4, none⟩) (by show w.heap.size < _; omega)).trans e4
        have HB9 := Lib.hid (HB1.out.trans (B5.mono HB1.out.size))
        clear e0 e1 e2 e3 e4 B5 k2
        try rw [HS9.out]
        by_cases hd0 : nd = 0
        · have f1 : ((nd : Int) != 0) = false := by simp; omega
          have HE := Lib.hid (show slT ⟨na, b, 1, nd, ne⟩ = S9 by rw [slT, if_pos (by show (nd : Int) = 0; omega), HSE.out])
          clear hd0
          go_wp2
          go_ret2
          exact ⟨by rw [HV.out, HE.out]; first | done | rfl | (rw [← HS9.out]; rfl), HB9.out⟩
        · have f1 : ((nd : Int) != 0) = true := by simp; omega
          have HE := Lib.hid (show S9 ++ ((((⟨#[32]⟩ : ByteArray) ++ Td) ++ (⟨#[32, 98, 121, 32]⟩ : ByteArray)) ++ Te) = slT ⟨na, b, 1, nd, ne⟩ by rw [slT, if_neg (by show ¬ (nd : Int) = 0; omega), ← HSE.out, HTD.out, HTE.out]; simp only [ByteArray.append_assoc]; rfl)
          clear hd0
          go_wp2_with fail
          refine wp_region_lat w5.heap.size (by kernel_rfl) (by kernel_rfl) ?_
          have LC := fun (u : Lat w5.heap.size w5) => u.cell
          repeat (go_big_quiet_step ((first | (go_at_call 10; (with_reducible exact lat_call _ (Nat.le_refl _) (Cd.out _ (HB9.out.trans ((Lat.below _).mono HB9.out.size))))) | (go_at_call 10; (with_reducible exact lat_call _ (Nat.le_refl _) (Ce.out _ (HB9.out.trans ((Lat.below _).mono HB9.out.size))))))))
          refine wpQuiet_nil ?_
          intro w7 hw7
          clear LC
          go_wp2
          go_ret2
          exact ⟨by rw [HV.out, ← HE.out]; first | done | rfl | (rw [← HS9.out]; rfl), HB9.out.trans (hw7.mono HB9.out.size)⟩)
    · have HS : Hid ((((⟨#[108, 111, 116, 32]⟩ : ByteArray) ++ Ta) ++ (⟨#[32]⟩ : ByteArray)) ++ (⟨#[115, 111, 108, 100]⟩ : ByteArray) = slS ⟨na, b, 2, nd, ne⟩) := Lib.hid (by rw [HTA.out]; rfl)
      obtain ⟨S9, hS9⟩ : ∃ S, S = slS ⟨na, b, 2, nd, ne⟩ := ⟨_, rfl⟩
      have hS9s : S9.size ≤ 100 := by have h := sz4 (⟨#[108, 111, 116, 32]⟩ : ByteArray) Ta (⟨#[32]⟩ : ByteArray) (⟨#[115, 111, 108, 100]⟩ : ByteArray); rw [HS.out, ← hS9] at h; have h1 : ((⟨#[108, 111, 116, 32]⟩ : ByteArray)).size = 4 := rfl; have h2 : ((⟨#[32]⟩ : ByteArray)).size = 1 := rfl; have h3 : ((⟨#[115, 111, 108, 100]⟩ : ByteArray)).size ≤ 6 := (by decide); omega
      have HS9 : Hid ((((⟨#[108, 111, 116, 32]⟩ : ByteArray) ++ Ta) ++ (⟨#[32]⟩ : ByteArray)) ++ (⟨#[115, 111, 108, 100]⟩ : ByteArray) = S9) := Lib.hid (by rw [HS.out, hS9])
      have hix : ∀ W, Sem.run Tryd.prog (Instr.index 34 (.agg #[.string ⟨#[119, 97, 105, 116, 115]⟩, .string ⟨#[111, 112, 101, 110]⟩, .string ⟨#[115, 111, 108, 100]⟩, .string ⟨#[112, 97, 115, 115, 101, 100]⟩]) (.int .i64 2)) W = .ok (.string (⟨#[115, 111, 108, 100]⟩ : ByteArray)) W := fun W => by kernel_rfl
      have HSE := Lib.hid hS9
      clear hS9
      go_enter Tryd.func6, Tryd.ntmps6
      go_wp2_with fail
      refine (C0.out _ _ (rd_new #[.int .i64 na, .int .i64 b, .int .i64 2, .int .i64 nd, .int .i64 ne] 26 (by simp))).mono ?_
      rintro e w1 ⟨rfl, b1⟩
      have B1 : Below (w.heap.size + 1) (w.alloc (Obj.cells #[.int .i64 na, .int .i64 b, .int .i64 2, .int .i64 nd, .int .i64 ne] 26)) w1 := ((Below.refl _ _).alloc (by simp) _).trans (b1.mono (by first | (simp; done) | (simp; omega)))
      have hz1 := B1.size
      simp only [World.size_alloc] at hz1
      have e0 := (B1.cell (p := ⟨w.heap.size, 0, none⟩) (by simp)).trans (World.cell?_alloc_at _ _ _ _ rfl)
      have e1 := (B1.cell (p := ⟨w.heap.size, 1, none⟩) (by simp)).trans (World.cell?_alloc_at _ _ _ _ rfl)
      have e2 := (B1.cell (p := ⟨w.heap.size, 2, none⟩) (by simp)).trans (World.cell?_alloc_at _ _ _ _ rfl)
      have e3 := (B1.cell (p := ⟨w.heap.size, 3, none⟩) (by simp)).trans (World.cell?_alloc_at _ _ _ _ rfl)
      have e4 := (B1.cell (p := ⟨w.heap.size, 4, none⟩) (by simp)).trans (World.cell?_alloc_at _ _ _ _ rfl)
      have hlt1 : w.heap.size < w1.heap.size := by omega
      have HB1 := Lib.hid (((Below.refl w.heap.size w).alloc (Nat.le_refl _) (Obj.cells #[.int .i64 na, .int .i64 b, .int .i64 2, .int .i64 nd, .int .i64 ne] 26)).trans (B1.mono (by omega)))
      clear B1 b1
      go_wp2_with fail
      refine wp_region_lat w1.heap.size (by kernel_rfl) (by kernel_rfl) ?_
      have LC := fun (u : Lat w1.heap.size w1) => u.cell
      repeat (go_big_quiet_step ((go_at_call 10; (with_reducible exact lat_call _ (Nat.le_refl _) (Ca.out _ (HB1.out.trans ((Lat.below _).mono HB1.out.size)))))))
      refine wpQuiet_nil ?_
      intro w5 B5
      clear LC
      have k2 := trivial
      have hl5 : w.heap.size < w5.heap.size := by have := B5.size; omega
      all_goals (
        have d3 := (B5.cell (p := ⟨w.heap.size, 3, none⟩) (by show w.heap.size < _; omega)).trans e3
        have d4 := (B5.cell (p := ⟨w.heap.size, 4, none⟩) (by show w.heap.size < _; omega)).trans e4
        have HB9 := Lib.hid (HB1.out.trans (B5.mono HB1.out.size))
        clear e0 e1 e2 e3 e4 B5 k2
        try rw [HS9.out]
        by_cases hd0 : nd = 0
        · have f1 : ((nd : Int) != 0) = false := by simp; omega
          have HE := Lib.hid (show slT ⟨na, b, 2, nd, ne⟩ = S9 by rw [slT, if_pos (by show (nd : Int) = 0; omega), HSE.out])
          clear hd0
          go_wp2
          go_ret2
          exact ⟨by rw [HV.out, HE.out]; first | done | rfl | (rw [← HS9.out]; rfl), HB9.out⟩
        · have f1 : ((nd : Int) != 0) = true := by simp; omega
          have HE := Lib.hid (show S9 ++ ((((⟨#[32]⟩ : ByteArray) ++ Td) ++ (⟨#[32, 98, 121, 32]⟩ : ByteArray)) ++ Te) = slT ⟨na, b, 2, nd, ne⟩ by rw [slT, if_neg (by show ¬ (nd : Int) = 0; omega), ← HSE.out, HTD.out, HTE.out]; simp only [ByteArray.append_assoc]; rfl)
          clear hd0
          go_wp2_with fail
          refine wp_region_lat w5.heap.size (by kernel_rfl) (by kernel_rfl) ?_
          have LC := fun (u : Lat w5.heap.size w5) => u.cell
          repeat (go_big_quiet_step ((first | (go_at_call 10; (with_reducible exact lat_call _ (Nat.le_refl _) (Cd.out _ (HB9.out.trans ((Lat.below _).mono HB9.out.size))))) | (go_at_call 10; (with_reducible exact lat_call _ (Nat.le_refl _) (Ce.out _ (HB9.out.trans ((Lat.below _).mono HB9.out.size))))))))
          refine wpQuiet_nil ?_
          intro w7 hw7
          clear LC
          go_wp2
          go_ret2
          exact ⟨by rw [HV.out, ← HE.out]; first | done | rfl | (rw [← HS9.out]; rfl), HB9.out.trans (hw7.mono HB9.out.size)⟩)
    · have HS : Hid ((((⟨#[108, 111, 116, 32]⟩ : ByteArray) ++ Ta) ++ (⟨#[32]⟩ : ByteArray)) ++ (⟨#[112, 97, 115, 115, 101, 100]⟩ : ByteArray) = slS ⟨na, b, 3, nd, ne⟩) := Lib.hid (by rw [HTA.out]; rfl)
      obtain ⟨S9, hS9⟩ : ∃ S, S = slS ⟨na, b, 3, nd, ne⟩ := ⟨_, rfl⟩
      have hS9s : S9.size ≤ 100 := by have h := sz4 (⟨#[108, 111, 116, 32]⟩ : ByteArray) Ta (⟨#[32]⟩ : ByteArray) (⟨#[112, 97, 115, 115, 101, 100]⟩ : ByteArray); rw [HS.out, ← hS9] at h; have h1 : ((⟨#[108, 111, 116, 32]⟩ : ByteArray)).size = 4 := rfl; have h2 : ((⟨#[32]⟩ : ByteArray)).size = 1 := rfl; have h3 : ((⟨#[112, 97, 115, 115, 101, 100]⟩ : ByteArray)).size ≤ 6 := (by decide); omega
      have HS9 : Hid ((((⟨#[108, 111, 116, 32]⟩ : ByteArray) ++ Ta) ++ (⟨#[32]⟩ : ByteArray)) ++ (⟨#[112, 97, 115, 115, 101, 100]⟩ : ByteArray) = S9) := Lib.hid (by rw [HS.out, hS9])
      have hix : ∀ W, Sem.run Tryd.prog (Instr.index 34 (.agg #[.string ⟨#[119, 97, 105, 116, 115]⟩, .string ⟨#[111, 112, 101, 110]⟩, .string ⟨#[115, 111, 108, 100]⟩, .string ⟨#[112, 97, 115, 115, 101, 100]⟩]) (.int .i64 3)) W = .ok (.string (⟨#[112, 97, 115, 115, 101, 100]⟩ : ByteArray)) W := fun W => by kernel_rfl
      have HSE := Lib.hid hS9
      clear hS9
      go_enter Tryd.func6, Tryd.ntmps6
      go_wp2_with fail
      refine (C0.out _ _ (rd_new #[.int .i64 na, .int .i64 b, .int .i64 3, .int .i64 nd, .int .i64 ne] 26 (by simp))).mono ?_
      rintro e w1 ⟨rfl, b1⟩
      have B1 : Below (w.heap.size + 1) (w.alloc (Obj.cells #[.int .i64 na, .int .i64 b, .int .i64 3, .int .i64 nd, .int .i64 ne] 26)) w1 := ((Below.refl _ _).alloc (by simp) _).trans (b1.mono (by first | (simp; done) | (simp; omega)))
      have hz1 := B1.size
      simp only [World.size_alloc] at hz1
      have e0 := (B1.cell (p := ⟨w.heap.size, 0, none⟩) (by simp)).trans (World.cell?_alloc_at _ _ _ _ rfl)
      have e1 := (B1.cell (p := ⟨w.heap.size, 1, none⟩) (by simp)).trans (World.cell?_alloc_at _ _ _ _ rfl)
      have e2 := (B1.cell (p := ⟨w.heap.size, 2, none⟩) (by simp)).trans (World.cell?_alloc_at _ _ _ _ rfl)
      have e3 := (B1.cell (p := ⟨w.heap.size, 3, none⟩) (by simp)).trans (World.cell?_alloc_at _ _ _ _ rfl)
      have e4 := (B1.cell (p := ⟨w.heap.size, 4, none⟩) (by simp)).trans (World.cell?_alloc_at _ _ _ _ rfl)
      have hlt1 : w.heap.size < w1.heap.size := by omega
      have HB1 := Lib.hid (((Below.refl w.heap.size w).alloc (Nat.le_refl _) (Obj.cells #[.int .i64 na, .int .i64 b, .int .i64 3, .int .i64 nd, .int .i64 ne] 26)).trans (B1.mono (by omega)))
      clear B1 b1
      go_wp2_with fail
      refine wp_region_lat w1.heap.size (by kernel_rfl) (by kernel_rfl) ?_
      have LC := fun (u : Lat w1.heap.size w1) => u.cell
      repeat (go_big_quiet_step ((go_at_call 10; (with_reducible exact lat_call _ (Nat.le_refl _) (Ca.out _ (HB1.out.trans ((Lat.below _).mono HB1.out.size)))))))
      refine wpQuiet_nil ?_
      intro w5 B5
      clear LC
      have k2 := trivial
      have hl5 : w.heap.size < w5.heap.size := by have := B5.size; omega
      all_goals (
        have d3 := (B5.cell (p := ⟨w.heap.size, 3, none⟩) (by show w.heap.size < _; omega)).trans e3
        have d4 := (B5.cell (p := ⟨w.heap.size, 4, none⟩) (by show w.heap.size < _; omega)).trans e4
        have HB9 := Lib.hid (HB1.out.trans (B5.mono HB1.out.size))
        clear e0 e1 e2 e3 e4 B5 k2
        try rw [HS9.out]
        by_cases hd0 : nd = 0
        · have f1 : ((nd : Int) != 0) = false := by simp; omega
          have HE := Lib.hid (show slT ⟨na, b, 3, nd, ne⟩ = S9 by rw [slT, if_pos (by show (nd : Int) = 0; omega), HSE.out])
          clear hd0
          go_wp2
          go_ret2
          exact ⟨by rw [HV.out, HE.out]; first | done | rfl | (rw [← HS9.out]; rfl), HB9.out⟩
        · have f1 : ((nd : Int) != 0) = true := by simp; omega
          have HE := Lib.hid (show S9 ++ ((((⟨#[32]⟩ : ByteArray) ++ Td) ++ (⟨#[32, 98, 121, 32]⟩ : ByteArray)) ++ Te) = slT ⟨na, b, 3, nd, ne⟩ by rw [slT, if_neg (by show ¬ (nd : Int) = 0; omega), ← HSE.out, HTD.out, HTE.out]; simp only [ByteArray.append_assoc]; rfl)
          clear hd0
          go_wp2_with fail
          refine wp_region_lat w5.heap.size (by kernel_rfl) (by kernel_rfl) ?_
          have LC := fun (u : Lat w5.heap.size w5) => u.cell
          repeat (go_big_quiet_step ((first | (go_at_call 10; (with_reducible exact lat_call _ (Nat.le_refl _) (Cd.out _ (HB9.out.trans ((Lat.below _).mono HB9.out.size))))) | (go_at_call 10; (with_reducible exact lat_call _ (Nat.le_refl _) (Ce.out _ (HB9.out.trans ((Lat.below _).mono HB9.out.size))))))))
          refine wpQuiet_nil ?_
          intro w7 hw7
          clear LC
          go_wp2
          go_ret2
          exact ⟨by rw [HV.out, ← HE.out]; first | done | rfl | (rw [← HS9.out]; rfl), HB9.out.trans (hw7.mono HB9.out.size)⟩)
end Go.Proofs.YtoijpemmcnmbeaaDoor
