/- TreatyText: the reference's and the program's. -/
import Derived.Test.YtnaehlglpaadhaaDoorTreA
import Derived.Test.YtnaehlglpaadhaaDoorDNum
namespace Go.Proofs.YtnaehlglpaadhaaDoor
set_option linter.unusedVariables false
set_option linter.unusedSimpArgs false
open Go.RowKit

def ttT (x : R5) : ByteArray := (((((((((numT x.a.toNat ++ (⟨#[45]⟩ : ByteArray)) ++ numT x.b.toNat) ++ (⟨#[32]⟩ : ByteArray)) ++ numT x.c.toNat) ++ (⟨#[46, 46]⟩ : ByteArray)) ++ numT x.d.toNat) ++ (⟨#[32]⟩ : ByteArray)) ++ numT x.e.toNat) ++ (⟨#[37]⟩ : ByteArray))
def ttV (x : R5) : ByteArray := if trB x = true then ttT x else ⟨#[]⟩
set_option maxRecDepth 20000 in
set_option maxHeartbeats 4000000 in
theorem specTreatyText_any (x : R5) (w : World) : Calls Tryd.prog 26 #[.agg #[.int .i64 x.a, .int .i64 x.b, .int .i64 x.c, .int .i64 x.d, .int .i64 x.e]] w (Ret (.tuple #[.string (ttV x), .bool (trB x)]) w) := by
  have C0 := Lib.hid (fun w => l25One_any x w)
  cases hv : trB x with
  | false =>
    rw [hv] at C0
    have HV := Lib.hid (show ttV x = ⟨#[]⟩ by rw [ttV, hv]; rfl)
    clear hv
    go_enter Tryd.func26, Tryd.ntmps26
    go_wp2_with fail
    refine (C0.out _).mono ?_
    rintro e w1 ⟨rfl, b1⟩
    go_wp2
    go_ret2
    exact ⟨by first | (rw [HV.out]; done) | (rw [HV.out]; rfl), ((Below.refl _ _).alloc (Nat.le_refl _) _).trans (b1.mono (by simp))⟩
  | true =>
    rw [hv] at C0
    have hbd := trB_bd hv
    have HV := Lib.hid (show ttV x = ttT x by rw [ttV, hv]; rfl)
    obtain ⟨a, b, c, d, e⟩ := x
    simp only at hbd C0 HV ⊢
    clear hv
    obtain ⟨na, rfl⟩ : ∃ n : Nat, a = n := ⟨a.toNat, by omega⟩
    obtain ⟨Ta, hTa⟩ : ∃ T, T = numT na := ⟨_, rfl⟩
    have sa : Ta.size ≤ 13 := by rw [hTa]; exact numT_size (by omega)
    have Ca := Lib.hid (fun w => l1Num_any na w (by omega))
    rw [← hTa] at Ca
    obtain ⟨nb, rfl⟩ : ∃ n : Nat, b = n := ⟨b.toNat, by omega⟩
    obtain ⟨Tb, hTb⟩ : ∃ T, T = numT nb := ⟨_, rfl⟩
    have sb : Tb.size ≤ 13 := by rw [hTb]; exact numT_size (by omega)
    have Cb := Lib.hid (fun w => l1Num_any nb w (by omega))
    rw [← hTb] at Cb
    obtain ⟨nc, rfl⟩ : ∃ n : Nat, c = n := ⟨c.toNat, by omega⟩
    obtain ⟨Tc, hTc⟩ : ∃ T, T = numT nc := ⟨_, rfl⟩
    have sc : Tc.size ≤ 13 := by rw [hTc]; exact numT_size (by omega)
    have Cc := Lib.hid (fun w => l1Num_any nc w (by omega))
    rw [← hTc] at Cc
    obtain ⟨nd, rfl⟩ : ∃ n : Nat, d = n := ⟨d.toNat, by omega⟩
    obtain ⟨Td, hTd⟩ : ∃ T, T = numT nd := ⟨_, rfl⟩
    have sd : Td.size ≤ 13 := by rw [hTd]; exact numT_size (by omega)
    have Cd := Lib.hid (fun w => l1Num_any nd w (by omega))
    rw [← hTd] at Cd
    obtain ⟨ne, rfl⟩ : ∃ n : Nat, e = n := ⟨e.toNat, by omega⟩
    obtain ⟨Te, hTe⟩ : ∃ T, T = numT ne := ⟨_, rfl⟩
    have se : Te.size ≤ 13 := by rw [hTe]; exact numT_size (by omega)
    have Ce := Lib.hid (fun w => l1Num_any ne w (by omega))
    rw [← hTe] at Ce
    have HE := Lib.hid (show (((((((((Ta ++ (⟨#[45]⟩ : ByteArray)) ++ Tb) ++ (⟨#[32]⟩ : ByteArray)) ++ Tc) ++ (⟨#[46, 46]⟩ : ByteArray)) ++ Td) ++ (⟨#[32]⟩ : ByteArray)) ++ Te) ++ (⟨#[37]⟩ : ByteArray)) = ttV ⟨na, nb, nc, nd, ne⟩ by rw [HV.out, ttT]; simp only [Int.toNat_natCast, hTa, hTb, hTc, hTd, hTe])
    clear hbd HV hTa hTb hTc hTd hTe
    go_enter Tryd.func26, Tryd.ntmps26
    go_wp2_with fail
    refine (C0.out _).mono ?_
    rintro e w1 ⟨rfl, b1⟩
    have hs1 := b1.size
    simp only [World.size_alloc] at hs1
    have e0 := (b1.cell (p := ⟨w.heap.size, 0, none⟩) (by simp)).trans (World.cell?_alloc_at _ _ _ _ rfl)
    have e1 := (b1.cell (p := ⟨w.heap.size, 1, none⟩) (by simp)).trans (World.cell?_alloc_at _ _ _ _ rfl)
    have e2 := (b1.cell (p := ⟨w.heap.size, 2, none⟩) (by simp)).trans (World.cell?_alloc_at _ _ _ _ rfl)
    have e3 := (b1.cell (p := ⟨w.heap.size, 3, none⟩) (by simp)).trans (World.cell?_alloc_at _ _ _ _ rfl)
    have e4 := (b1.cell (p := ⟨w.heap.size, 4, none⟩) (by simp)).trans (World.cell?_alloc_at _ _ _ _ rfl)
    have hlt : w.heap.size < w1.heap.size := by omega
    have HB1 := Lib.hid (((Below.refl w.heap.size w).alloc (Nat.le_refl _) (Obj.cells #[.int .i64 na, .int .i64 nb, .int .i64 nc, .int .i64 nd, .int .i64 ne] 44)).trans (b1.mono (by simp)))
    clear b1
    go_wp2_with fail
    refine wp_region_lat w1.heap.size (by kernel_rfl) (by kernel_rfl) ?_
    have LC := fun (u : Lat w1.heap.size w1) => u.cell
    repeat (go_big_quiet_step ((first | (go_at_call 59; (with_reducible exact lat_call _ (Nat.le_refl _) (Ca.out _))) | (go_at_call 59; (with_reducible exact lat_call _ (Nat.le_refl _) (Cb.out _))) | (go_at_call 59; (with_reducible exact lat_call _ (Nat.le_refl _) (Cc.out _))) | (go_at_call 59; (with_reducible exact lat_call _ (Nat.le_refl _) (Cd.out _))) | (go_at_call 59; (with_reducible exact lat_call _ (Nat.le_refl _) (Ce.out _))))))
    refine wpQuiet_nil ?_
    intro w4 hw4
    clear LC
    go_wp2
    go_ret2
    exact ⟨by rw [← HE.out]; rfl, HB1.out.trans (hw4.mono HB1.out.size)⟩

set_option maxRecDepth 20000 in
set_option maxHeartbeats 4000000 in
theorem implTreatyText_any (x : R5) (w : World) (ht : ∀ w', Below w.heap.size w w' → Lib.TabIs Tryd.prog w' "internal/strconv.uint64pow10" .u64 Lib.pow10Tab) : Calls Tryd.prog 25 #[.agg #[.int .i64 x.a, .int .i64 x.b, .int .i64 x.c, .int .i64 x.d, .int .i64 x.e]] w (Ret (.tuple #[.string (ttV x), .bool (trB x)]) w) := by
  have HT := Lib.hid ht
  clear ht
  have C0 := Lib.hid (fun w => isTreaty_any x w)
  cases hv : trB x with
  | false =>
    rw [hv] at C0
    have HV := Lib.hid (show ttV x = ⟨#[]⟩ by rw [ttV, hv]; rfl)
    clear hv
    go_enter Tryd.func25, Tryd.ntmps25
    go_wp2_with fail
    refine (C0.out _).mono ?_
    rintro e w1 ⟨rfl, b1⟩
    go_wp2
    go_ret2
    exact ⟨by first | (rw [HV.out]; done) | (rw [HV.out]; rfl), ((Below.refl _ _).alloc (Nat.le_refl _) _).trans (b1.mono (by simp))⟩
  | true =>
    rw [hv] at C0
    have hbd := trB_bd hv
    have HV := Lib.hid (show ttV x = ttT x by rw [ttV, hv]; rfl)
    obtain ⟨a, b, c, d, e⟩ := x
    simp only at hbd C0 HV ⊢
    clear hv
    obtain ⟨na, rfl⟩ : ∃ n : Nat, a = n := ⟨a.toNat, by omega⟩
    obtain ⟨Ta, hTa⟩ : ∃ T, T = numT na := ⟨_, rfl⟩
    have sa : Ta.size ≤ 13 := by rw [hTa]; exact numT_size (by omega)
    have Ca := Lib.hid (fun w' h => itoa_any na (by omega) w' (HT.out w' h))
    rw [← hTa] at Ca
    obtain ⟨nb, rfl⟩ : ∃ n : Nat, b = n := ⟨b.toNat, by omega⟩
    obtain ⟨Tb, hTb⟩ : ∃ T, T = numT nb := ⟨_, rfl⟩
    have sb : Tb.size ≤ 13 := by rw [hTb]; exact numT_size (by omega)
    have Cb := Lib.hid (fun w' h => itoa_any nb (by omega) w' (HT.out w' h))
    rw [← hTb] at Cb
    obtain ⟨nc, rfl⟩ : ∃ n : Nat, c = n := ⟨c.toNat, by omega⟩
    obtain ⟨Tc, hTc⟩ : ∃ T, T = numT nc := ⟨_, rfl⟩
    have sc : Tc.size ≤ 13 := by rw [hTc]; exact numT_size (by omega)
    have Cc := Lib.hid (fun w' h => itoa_any nc (by omega) w' (HT.out w' h))
    rw [← hTc] at Cc
    obtain ⟨nd, rfl⟩ : ∃ n : Nat, d = n := ⟨d.toNat, by omega⟩
    obtain ⟨Td, hTd⟩ : ∃ T, T = numT nd := ⟨_, rfl⟩
    have sd : Td.size ≤ 13 := by rw [hTd]; exact numT_size (by omega)
    have Cd := Lib.hid (fun w' h => itoa_any nd (by omega) w' (HT.out w' h))
    rw [← hTd] at Cd
    obtain ⟨ne, rfl⟩ : ∃ n : Nat, e = n := ⟨e.toNat, by omega⟩
    obtain ⟨Te, hTe⟩ : ∃ T, T = numT ne := ⟨_, rfl⟩
    have se : Te.size ≤ 13 := by rw [hTe]; exact numT_size (by omega)
    have Ce := Lib.hid (fun w' h => itoa_any ne (by omega) w' (HT.out w' h))
    rw [← hTe] at Ce
    have HE := Lib.hid (show (((((((((Ta ++ (⟨#[45]⟩ : ByteArray)) ++ Tb) ++ (⟨#[32]⟩ : ByteArray)) ++ Tc) ++ (⟨#[46, 46]⟩ : ByteArray)) ++ Td) ++ (⟨#[32]⟩ : ByteArray)) ++ Te) ++ (⟨#[37]⟩ : ByteArray)) = ttV ⟨na, nb, nc, nd, ne⟩ by rw [HV.out, ttT]; simp only [Int.toNat_natCast, hTa, hTb, hTc, hTd, hTe])
    clear hbd HV hTa hTb hTc hTd hTe
    go_enter Tryd.func25, Tryd.ntmps25
    go_wp2_with fail
    refine (C0.out _).mono ?_
    rintro e w1 ⟨rfl, b1⟩
    have hs1 := b1.size
    simp only [World.size_alloc] at hs1
    have e0 := (b1.cell (p := ⟨w.heap.size, 0, none⟩) (by simp)).trans (World.cell?_alloc_at _ _ _ _ rfl)
    have e1 := (b1.cell (p := ⟨w.heap.size, 1, none⟩) (by simp)).trans (World.cell?_alloc_at _ _ _ _ rfl)
    have e2 := (b1.cell (p := ⟨w.heap.size, 2, none⟩) (by simp)).trans (World.cell?_alloc_at _ _ _ _ rfl)
    have e3 := (b1.cell (p := ⟨w.heap.size, 3, none⟩) (by simp)).trans (World.cell?_alloc_at _ _ _ _ rfl)
    have e4 := (b1.cell (p := ⟨w.heap.size, 4, none⟩) (by simp)).trans (World.cell?_alloc_at _ _ _ _ rfl)
    have hlt : w.heap.size < w1.heap.size := by omega
    have HB1 := Lib.hid (((Below.refl w.heap.size w).alloc (Nat.le_refl _) (Obj.cells #[.int .i64 na, .int .i64 nb, .int .i64 nc, .int .i64 nd, .int .i64 ne] 44)).trans (b1.mono (by simp)))
    clear b1
    go_wp2_with fail
    refine wp_region_lat w1.heap.size (by kernel_rfl) (by kernel_rfl) ?_
    have LC := fun (u : Lat w1.heap.size w1) => u.cell
    repeat (go_big_quiet_step ((first | (go_at_call 58; (with_reducible exact lat_call _ (Nat.le_refl _) (Ca.out _ (HB1.out.trans ((Lat.below _).mono HB1.out.size))))) | (go_at_call 58; (with_reducible exact lat_call _ (Nat.le_refl _) (Cb.out _ (HB1.out.trans ((Lat.below _).mono HB1.out.size))))) | (go_at_call 58; (with_reducible exact lat_call _ (Nat.le_refl _) (Cc.out _ (HB1.out.trans ((Lat.below _).mono HB1.out.size))))) | (go_at_call 58; (with_reducible exact lat_call _ (Nat.le_refl _) (Cd.out _ (HB1.out.trans ((Lat.below _).mono HB1.out.size))))) | (go_at_call 58; (with_reducible exact lat_call _ (Nat.le_refl _) (Ce.out _ (HB1.out.trans ((Lat.below _).mono HB1.out.size))))))))
    refine wpQuiet_nil ?_
    intro w4 hw4
    clear LC
    go_wp2
    go_ret2
    exact ⟨by rw [← HE.out]; rfl, HB1.out.trans (hw4.mono HB1.out.size)⟩

end Go.Proofs.YtnaehlglpaadhaaDoor
