/- slices.ContainsFunc over a route. -/
import Derived.Test.YtobloedpmjkgpaaCvR
import Derived.Test.YtobloedpmjkgpaaExt
import Derived.Test.YtobloedpmjkgpaaCur
namespace Go.Proofs.Ytobloedpmjkgpaa
set_option linter.unusedVariables false
set_option linter.unusedSimpArgs false
open Go.RowKit

theorem idxV_any {α : Type} (p : α → Bool) (xs : List α) : decide (0 ≤ idxV p xs) = xs.any p := by
  rcases idxV_cases p xs with ⟨h, hn⟩ | ⟨k, x, h, hx, hp, -⟩
  · rw [h]
    have : xs.any p = false := by rw [List.any_eq_false]; exact fun x hx => by rw [hn x hx]; simp
    rw [this]; rfl
  · rw [h]
    have : xs.any p = true := by rw [List.any_eq_true]; exact ⟨x, List.mem_of_getElem? hx, hp⟩
    rw [this]; simp
theorem own_ne3 {w : World} {base e size n : Nat} {v : Value} {cs : List Value} (h : w.ownsRow base e size v n cs) {b : Nat} (hb : b < base) : some b ≠ v.ownBlock := fun e => by have := (h.lt _ e.symm).1; omega
set_option maxHeartbeats 2000000 in
theorem viK_any (i : Int) (B : Option Addr) (n2 c2 : Nat) (ms : List R4) (office : Int) (bp bo : Nat) (w : World) (hn2 : ms.length = n2) (hB : Rd w B (cells4 ms)) (hi : 0 ≤ i ∧ i < ms.length) (h1 : w.cell? ⟨bp, 0, none⟩ = some (.slice B n2 c2)) (h2 : w.cell? ⟨bo, 0, none⟩ = some (.int .i64 office)) :
    Calls Try.prog 33 #[.int .i64 i, .pointer (some ⟨bp, 0, none⟩), .pointer (some ⟨bo, 0, none⟩)] w (Ret (.bool (toAt ms office i)) w) := by
  obtain ⟨nz, rfl⟩ : ∃ nz : Nat, i = (nz : Int) := ⟨i.toNat, by omega⟩
  have hnz : nz < ms.length := by omega
  obtain ⟨y, ey⟩ : ∃ y, ms[nz]? = some y := ⟨_, List.getElem?_eq_getElem hnz⟩
  have hta : toAt ms office (nz : Int) = (y.c == office) := by unfold toAt; rw [Int.toNat_natCast, ey]; rfl
  obtain ⟨g3, o3, eA3, hg3, m0, m1, m2, m3⟩ := hB.at4 ey
  subst eA3
  have hp1 := World.block_lt_of_cell? w _ h1
  have hp2 := World.block_lt_of_cell? w _ h2
  simp only at hp1 hp2
  have hnz0 : (0 : Int) ≤ (nz : Int) := by omega
  have hnz1 : (nz : Int) < (n2 : Int) := by omega
  rw [hta]
  clear hta ey hnz hi hB
  go_enter Try.func33, Try.ntmps33
  go_wp2_with fail
  refine wp_region_lat w.heap.size (by kernel_rfl) (by kernel_rfl) ?_
  have LC := fun (u : Lat w.heap.size w) => u.cell
  repeat (go_big_quiet_step (fail))
  refine wpQuiet_nil ?_
  intro w1 hw1
  clear LC
  go_wp2
  go_ret
  exact ⟨rfl, hw1⟩
set_option maxRecDepth 20000 in
set_option maxHeartbeats 2000000 in
theorem viIndex_any (A : Option Addr) (c : Nat) (zs : List Int) (B : Option Addr) (n2 c2 : Nat) (ms : List R4) (office : Int) (bp bo : Nat) (w : World) (h20 : zs.length ≤ 1048576) (hA : Rd w A (cells1 zs)) (hn2 : ms.length = n2) (hB : Rd w B (cells4 ms)) (hi : ∀ z ∈ zs, 0 ≤ z ∧ z < ms.length) (h1 : w.cell? ⟨bp, 0, none⟩ = some (.slice B n2 c2)) (h2 : w.cell? ⟨bo, 0, none⟩ = some (.int .i64 office)) :
    Calls Try.prog 57 #[.slice A zs.length c, .func (.func 33) #[] #[.pointer (some ⟨bp, 0, none⟩), .pointer (some ⟨bo, 0, none⟩)]] w (Ret (.int .i64 (idxV (toAt ms office) zs)) w) := by
  have hp1 := World.block_lt_of_cell? w _ h1
  have hp2 := World.block_lt_of_cell? w _ h2
  simp only at hp1 hp2
  have CK := Lib.hid (fun i w h hi h1 h2 => viK_any i B n2 c2 ms office bp bo w hn2 h hi h1 h2)
  have H1 := Lib.hid h1
  have H2 := Lib.hid h2
  have HA := Lib.hid hA
  have HB := Lib.hid hB
  have HI := Lib.hid hi
  clear h1 h2 hA hB hi hn2
  go_enter Try.func57, Try.ntmps57
  go_wp2_with fail
  go_loopw [8, 4, 5] (fun i r _ wr => ∃ (k : Nat), k ≤ zs.length ∧ i = .int .i64 k ∧ r = .int .i64 0 ∧ (∀ (j : Nat) (y : Int), j < k → zs[j]? = some y → toAt ms office y = false) ∧ Below w.heap.size w wr) (fun i _ _ _ => zs.length - (intOf i).toNat)
  case atStart => exact ⟨0, by omega, rfl, rfl, fun j y hj => by omega, Below.refl _ _⟩
  case round =>
    obtain ⟨k, hk, rfl, rfl, hrel, hb⟩ := hrel
    have HR := Lib.hid hrel
    clear hrel
    by_cases hlt : k < zs.length
    · obtain ⟨z, ez⟩ : ∃ z, zs[k]? = some z := ⟨_, List.getElem?_eq_getElem hlt⟩
      obtain ⟨g, o, eA, hg, c0⟩ := (HA.out.below hb).at1 ez
      subst eA
      have HX := Lib.hid ez
      have HZ := Lib.hid (HI.out z (List.mem_of_getElem? ez))
      clear ez
      go_wp2_with fail
      refine (CK.out z _ (HB.out.below hb) HZ.out ((hb.cell (p := ⟨bp, 0, none⟩) hp1).trans H1.out) ((hb.cell (p := ⟨bo, 0, none⟩) hp2).trans H2.out)).mono ?_
      rintro e w1 ⟨rfl, b1⟩
      have hb1 : Below w.heap.size w w1 := hb.trans (b1.mono hb.size)
      obtain ⟨q, hq⟩ : ∃ q, q = toAt ms office z := ⟨_, rfl⟩
      rw [← hq]
      have HQ := Lib.hid hq
      clear hq
      cases q with
      | true =>
        go_wp2
        go_ret
        exact ⟨ret_int (idxV_hit (p := toAt ms office) HR.out HX.out HQ.out.symm).symm, hb1⟩
      | false =>
        go_wp2
        go_roundw
        case rel =>
          refine ⟨k + 1, by omega, by go_num, rfl, fun j y hj hy => ?_, hb1⟩
          rcases Nat.lt_or_ge j k with h | h
          · exact HR.out j y h hy
          · have : j = k := by omega
            subst this; rw [HX.out] at hy; injection hy with hy; subst hy; exact HQ.out.symm
        case measure => simp [intOf]; omega
    · go_wp2
      go_ret
      exact ⟨ret_int (idxV_miss (p := toAt ms office) (fun j y hy => HR.out j y (by have := (List.getElem?_eq_some_iff.1 hy).1; omega) hy)).symm, hb⟩
set_option maxHeartbeats 1000000 in
theorem viContains_any (A : Option Addr) (c : Nat) (zs : List Int) (B : Option Addr) (n2 c2 : Nat) (ms : List R4) (office : Int) (bp bo : Nat) (w : World) (h20 : zs.length ≤ 1048576) (hA : Rd w A (cells1 zs)) (hn2 : ms.length = n2) (hB : Rd w B (cells4 ms)) (hi : ∀ z ∈ zs, 0 ≤ z ∧ z < ms.length) (h1 : w.cell? ⟨bp, 0, none⟩ = some (.slice B n2 c2)) (h2 : w.cell? ⟨bo, 0, none⟩ = some (.int .i64 office)) :
    Calls Try.prog 32 #[.slice A zs.length c, .func (.func 33) #[] #[.pointer (some ⟨bp, 0, none⟩), .pointer (some ⟨bo, 0, none⟩)]] w (Ret (.bool (zs.any (toAt ms office))) w) := by
  have C1 := Lib.hid (fun w hA hB h1 h2 => viIndex_any A c zs B n2 c2 ms office bp bo w h20 hA hn2 hB hi h1 h2)
  have H1 := Lib.hid h1
  have H2 := Lib.hid h2
  have HA := Lib.hid hA
  have HB := Lib.hid hB
  have HV := Lib.hid (idxV_any (toAt ms office) zs)
  obtain ⟨q, hq⟩ : ∃ q, q = idxV (toAt ms office) zs := ⟨_, rfl⟩
  rw [← hq] at C1 HV
  clear hA hB hq hn2 hi h1 h2
  go_enter Try.func32, Try.ntmps32
  go_wp2_with fail
  refine (C1.out _ HA.out HB.out H1.out H2.out).mono ?_
  rintro e w1 ⟨rfl, b1⟩
  go_wp2
  go_ret
  exact ⟨ret_bool HV.out, b1⟩
end Go.Proofs.Ytobloedpmjkgpaa
