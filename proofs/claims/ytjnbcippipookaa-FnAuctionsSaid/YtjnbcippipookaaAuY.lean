/- The step that the law on auctions draws. -/
import Derived.Test.YtjnbcippipookaaAucE
import Derived.Test.YtjnbcippipookaaCurL
import Derived.Test.YtjnbcippipookaaRegC
namespace Go.Proofs.Ytjnbcippipookaa
set_option linter.unusedVariables false
set_option linter.unusedSimpArgs false
open Go.RowKit

def leastOf (a b : Int) : Int := if a < b then a else b
theorem l1Least_any (a b : Int) (w : World) : Calls Try.prog 31 #[.int .i64 a, .int .i64 b] w (RetS (.int .i64 (leastOf a b)) w) := by
  by_cases h : a < b
  · go_enter Try.func31, Try.ntmps31
    go_wp2
    go_ret
    exact ⟨ret_int (by rw [leastOf, if_pos h]), rfl⟩
  · go_enter Try.func31, Try.ntmps31
    go_wp2
    go_ret
    exact ⟨ret_int (by rw [leastOf, if_neg (by omega)]), rfl⟩
theorem rd_at5b {w : World} {g o k : Nat} {xs : List R5} {x : R5} (h : Rd w (some ⟨g, o, none⟩) (cells5 xs)) (hk : xs[k]? = some x) : w.cell? ⟨g, o + k * 5 + 1, none⟩ = some (.int .i64 x.b) := by
  obtain ⟨g2, o2, e, -, -, c1, -⟩ := h.at5 hk
  injection e with e; injection e with e1 e2; subst e1; subst e2
  exact c1
def kindA (i : Nat) : Nat := [0, 1, 2, 0, 3, 2, 1, 2, 0, 1, 2, 0, 1, 2, 4].getD i 9
def kindB (i : Nat) : Nat := [0, 1, 2, 0, 2, 2, 2, 2, 2, 2, 5, 8, 6, 7, 2, 1, 2, 4].getD i 9
def Agg4V (v : Value) : Prop := ∃ a b c d : Int, v = .agg #[.int .i64 a, .int .i64 b, .int .i64 c, .int .i64 d]

set_option maxRecDepth 20000 in
set_option maxHeartbeats 4000000 in
theorem auctionStep_any (p k : Nat) (u : Cu) (A : Option Addr) (n c : Nat) (xs : List R5) (w : World) (hn : xs.length = n) (hn2 : n ≤ 100) (hd : ∀ x ∈ xs, 0 ≤ x.d ∧ x.d ≤ 99999) (hA : Rd w A (cells5 xs)) (hf : ∀ g o q, A = some ⟨g, o, q⟩ → g ≠ p) (h : CurB w p u k) (hk : k ≤ 800000) :
    Calls Try.prog 17 #[.pointer (some ⟨p, 0, none⟩), .slice A n c] w (RetC p u k 60 Agg4V w) := by
  have AM := Lib.hid (fun k n c A zs w h hk hz hn hn2 hA hf => among_any p k n c u A zs w h hk hz hn hn2 hA hf)
  have PK := Lib.hid (fun k m w h hk hm hm2 => pick_any p k m u w h hk hm hm2)
  have ON := Lib.hid (fun k m w h hk hm hm2 => one_any p k m u w h hk hm hm2)
  have HC := Lib.hid h
  have HA := Lib.hid hA
  have HF := Lib.hid hf
  have HD := Lib.hid hd
  have HN := Lib.hid hn
  have hp := h.lt
  clear h hA hf hd hn
  go_enter Try.func17, Try.ntmps17
  go_wp2_with fail
  have KR : Blk (w.alloc (.cells #[.int .i64 0, .int .i64 0, .int .i64 0, .int .i64 0] 26)) w.heap.size [.int .i64 0, .int .i64 0, .int .i64 0, .int .i64 0] := Blk.new w _ _
  refine (AM.out k 2 _ (some ⟨w.heap.size + 1, 0, none⟩) [1, 7] _ ((HC.out.alloc _).alloc _) (by omega) rfl (by decide) (by decide) (by have := rd_ints (w := w.alloc (.cells #[.int .i64 0, .int .i64 0, .int .i64 0, .int .i64 0] 26)) [1, 7] 3; rw [World.size_alloc] at this; exact this) (fun g o q e => by injection e with e; injection e with e; omega)).mono ?_
  rintro e w1 ⟨v1, k1, rfl, ⟨z1, -, rfl⟩, hk1, hc, hg⟩
  have hg1 := grown_trans (World.grownBy_alloc (w.alloc (.cells #[.int .i64 0, .int .i64 0, .int .i64 0, .int .i64 0] 26)) _ (some p)) hg
  have KR1 := KR.grown hg1 (by simp; omega)
  have HG1 := Lib.hid (grown_trans (World.grownBy_alloc w _ _) hg1)
  have hs1 := hg1.size
  rw [World.size_alloc] at hs1
  have HA1 : Hid (Rd w1 A (cells5 xs)) := Lib.hid (Rd.grown HG1.out HA.out (fun g o q e => by have := HF.out g o q e; intro e2; injection e2 with e2; exact this e2))
  clear HC KR
  have HC := Lib.hid hc
  clear hc hg hg1
  have KX1 : Blk (w1.alloc (.cells #[.int .i64 z1, .int .i64 0, .int .i64 0, .int .i64 0, .int .i64 0] 36)) w1.heap.size [.int .i64 z1, .int .i64 0, .int .i64 0, .int .i64 0, .int .i64 0] := Blk.new w1 _ _
  have KR1 := KR1.alloc (.cells #[.int .i64 z1, .int .i64 0, .int .i64 0, .int .i64 0, .int .i64 0] 36)
  have HA1 := Lib.hid (HA1.out.alloc (.cells #[.int .i64 z1, .int .i64 0, .int .i64 0, .int .i64 0, .int .i64 0] 36))
  have HG1 := Lib.hid (grown_trans HG1.out (World.grownBy_alloc w1 (.cells #[.int .i64 z1, .int .i64 0, .int .i64 0, .int .i64 0, .int .i64 0] 36) (some p)))
  have HC1 := Lib.hid (HC.out.alloc (.cells #[.int .i64 z1, .int .i64 0, .int .i64 0, .int .i64 0, .int .i64 0] 36))
  clear HC
  have HQ : w.heap.size < w1.heap.size := by omega
  have hnp1 : (0 : Int) ≤ n := by omega
  by_cases hnp : 0 < n
  · have hnpd : (0 : Int) < n := by omega
    go_wp2_with fail
    refine (PK.out k1 n _ HC1.out (by omega) (by omega) (by omega)).mono ?_
    rintro e w2 ⟨v2, k2, rfl, ⟨r2, rfl, a2, b2⟩, hk2, hc, hg⟩
    obtain ⟨m, rfl⟩ := Int.eq_ofNat_of_zero_le a2
    have hm : m < n := by omega
    have hmd : (m : Int) < n := by omega
    obtain ⟨y, hy⟩ : ∃ y, xs[m]? = some y := ⟨xs[m]'(by have := HN.out; omega), List.getElem?_eq_getElem _⟩
    have HA2 := Lib.hid (Rd.grown hg HA1.out (fun g o q e => by have := HF.out g o q e; intro e2; injection e2 with e2; exact this e2))
    have KR2 := KR1.grown hg (by simp; omega)
    have KX2 := KX1.grown hg (by have := HC1.out.lt; simp; omega)
    have HG2 := Lib.hid (grown_trans HG1.out hg)
    clear HC1 HG1 KR1 KX1 HA1
    have HC2 := Lib.hid hc
    clear hc hg
    obtain ⟨g, o, hAe, hgl, c0, c1, c2, c3, c4⟩ := HA2.out.at5 hy
    subst hAe
    have x0 := KX2.cell 0 _ rfl
    have f0 := KX2.fr 0 (by simp)
    have x1 := KX2.cell 1 _ rfl
    have f1 := KX2.fr 1 (by simp)
    have x2 := KX2.cell 2 _ rfl
    have f2 := KX2.fr 2 (by simp)
    have x3 := KX2.cell 3 _ rfl
    have f3 := KX2.fr 3 (by simp)
    have x4 := KX2.cell 4 _ rfl
    have f4 := KX2.fr 4 (by simp)
    go_wp2_with fail
    obtain ⟨w3, hw3⟩ : ∃ w3, w3 = (((((w2.setCell ⟨w1.heap.size, 0, none⟩ (.int .i64 y.a)).setCell ⟨w1.heap.size, 1, none⟩ (.int .i64 y.b)).setCell ⟨w1.heap.size, 2, none⟩ (.int .i64 y.c)).setCell ⟨w1.heap.size, 3, none⟩ (.int .i64 y.d)).setCell ⟨w1.heap.size, 4, none⟩ (.int .i64 y.e)) := ⟨_, rfl⟩
    rw [← hw3]
    clear x0 x1 x2 x3 x4 f0 f1 f2 f3 f4 c0 c1 c2 c3 c4
    have KX3 : Blk w3 w1.heap.size [.int .i64 y.a, .int .i64 y.b, .int .i64 y.c, .int .i64 y.d, .int .i64 y.e] := by rw [hw3]; exact (((((KX2.set (i := 0) (by simp) _).set (i := 1) (by simp) _).set (i := 2) (by simp) _).set (i := 3) (by simp) _).set (i := 4) (by simp) _)
    have KR3 : Blk w3 w.heap.size [.int .i64 0, .int .i64 0, .int .i64 0, .int .i64 0] := by rw [hw3]; exact (((((KR2.other (by omega) _).other (by omega) _).other (by omega) _).other (by omega) _).other (by omega) _)
    have hpq : p < w1.heap.size := by omega
    have HC3 : Hid (CurB w3 p u k2) := Lib.hid (by rw [hw3]; exact (((((HC2.out.other hpq _).other hpq _).other hpq _).other hpq _).other hpq _))
    have hwq : w.heap.size ≤ w1.heap.size := by omega
    have HG3 : Hid (w.grownBy w3 (some p)) := Lib.hid (by rw [hw3]; exact grown_other (grown_other (grown_other (grown_other (grown_other HG2.out hwq _ _) hwq _ _) hwq _ _) hwq _ _) hwq _ _)
    have HA3 : Hid (Rd w3 (some ⟨g, o, none⟩) (cells5 xs)) := Lib.hid (Rd.grown HG3.out HA.out (fun g o q e => by have := HF.out g o q e; intro e2; injection e2 with e2; exact this e2))
    clear hw3 KX2 KR2 HC2 HG2 HA2
    refine (ON.out k2 40 _ HC3.out (by omega) (by decide) (by decide)).mono ?_
    rintro e w4 ⟨v4, k4, rfl, ⟨b4, rfl⟩, hk4, hc, hg⟩
    have hl3 := HC3.out.lt
    have KX4 := KX3.grown hg (by simp; omega)
    have KR4 := KR3.grown hg (by simp; omega)
    have HG4 := Lib.hid (grown_trans HG3.out hg)
    have HC4 := Lib.hid hc
    clear HC3 KX3 KR3 HG3 HA3 hc hg
    cases b4 with
    | true =>
      go_wp2_with fail
      refine wp_region_cur (w := w) p w.heap.size w1.heap.size k4 15 undef undef ⟨0, 0, none⟩ u [.int .i64 y.a, .int .i64 y.b, .int .i64 y.c, .int .i64 y.d, .int .i64 y.e] kindA [some 24, some 25, some 26, some 27, some 28, some 29, some 30, some 31, some 32, some 33, some 34, some 35, some 36, some 37, some 38, none] rfl (by kernel_rfl) (by kernel_rfl) rfl (by kernel_rfl) HC4.out HG4.out KR4 KX4 (by omega) (by omega) ?_ (by decide) rfl ?_ ?_
      · intro i o ho hi vals u1 k9 hc hk9 hg hx hv Kt Q' hK
        obtain hi0 : i = 0 ∨ i = 1 ∨ i = 2 ∨ i = 3 ∨ i = 4 ∨ i = 5 ∨ i = 6 ∨ i = 7 ∨ i = 8 ∨ i = 9 ∨ i = 10 ∨ i = 11 ∨ i = 12 ∨ i = 13 ∨ i = 14 := by omega
        rcases hi0 with rfl | rfl | rfl | rfl | rfl | rfl | rfl | rfl | rfl | rfl | rfl | rfl | rfl | rfl | rfl
        · injection ho with ho; subst ho
          simp only [List.take_succ_cons, List.take_zero, putsD]
          go_simp
          exact hK _ (.pointer (some ⟨p, 0, none⟩)) u1 k9 rfl rfl (grown_refl _ _) hc (by omega) (rfl)
        · injection ho with ho; subst ho
          have hl := hc.lt
          simp only [List.take_succ_cons, List.take_zero, putsD]
          go_simp
          exact hK _ (.slice (some ⟨u1.heap.size, 0, none⟩) 4 4) (u1.alloc (.cells (cells1 [0, 7, 3, 4]).toArray 3)) k9 rfl rfl (World.grownBy_alloc u1 _ _) (hc.alloc _) (by omega) ⟨_, 4, 4, [0, 7, 3, 4], rfl, rfl, by decide, by decide, rd_ints (w := u1) [0, 7, 3, 4] 3, fun g o q e => by injection e with e; injection e with e; omega⟩
        · injection ho with ho; subst ho
          have d0 : vals 0 = .pointer (some ⟨p, 0, none⟩) := hv ⟨0, .data⟩ (by simp) rfl
          obtain ⟨B, nb, cb, zs, d1, hz, hn1, hn2, hB, hBf⟩ : VK p w1.heap.size undef undef ⟨0, 0, none⟩ 1 (vals 1) u1 := hv ⟨1, .data⟩ (by simp) rfl
          simp only [List.take_succ_cons, List.take_zero, putsD, d0, d1]
          go_simp
          refine (AM.out k9 nb cb B zs u1 hc (by omega) hz hn1 hn2 hB hBf).mono ?_
          rintro e w' ⟨v, k', rfl, ⟨z, -, rfl⟩, hk', hc', hg'⟩
          exact hK _ (.int .i64 z) w' k' rfl rfl hg' hc' (by omega) ⟨z, rfl⟩
        · injection ho with ho; subst ho
          simp only [List.take_succ_cons, List.take_zero, putsD]
          go_simp
          exact hK _ (.pointer (some ⟨p, 0, none⟩)) u1 k9 rfl rfl (grown_refl _ _) hc (by omega) (rfl)
        · injection ho with ho; subst ho
          simp only [List.take_succ_cons, List.take_zero, putsD]
          go_simp
          exact hK _ (.pointer (some ⟨w1.heap.size, 0, none⟩)) u1 k9 rfl rfl (grown_refl _ _) hc (by omega) (rfl)
        · injection ho with ho; subst ho
          have d0 : vals 4 = .pointer (some ⟨w1.heap.size, 0, none⟩) := hv ⟨4, .data⟩ (by simp) rfl
          have x0 := hx.cell 0 _ rfl
          simp only [List.take_succ_cons, List.take_zero, putsD, d0]
          go_simp
          exact hK _ (.int .i64 y.a) u1 k9 rfl rfl (grown_refl _ _) hc (by omega) (⟨_, rfl⟩)
        · injection ho with ho; subst ho
          obtain ⟨z5, e5⟩ : ∃ z : Int, vals 5 = .int .i64 z := hv ⟨5, .data⟩ (by simp) rfl
          have hl := hc.lt
          simp only [List.take_succ_cons, List.take_zero, putsD, e5]
          go_simp
          exact hK _ (.slice (some ⟨u1.heap.size, 0, none⟩) 3 3) (u1.alloc (.cells (cells1 [0, z5, 100]).toArray 3)) k9 rfl rfl (World.grownBy_alloc u1 _ _) (hc.alloc _) (by omega) ⟨_, 3, 3, [0, z5, 100], rfl, rfl, by decide, by decide, rd_ints (w := u1) [0, z5, 100] 3, fun g o q e => by injection e with e; injection e with e; omega⟩
        · injection ho with ho; subst ho
          have d0 : vals 3 = .pointer (some ⟨p, 0, none⟩) := hv ⟨3, .data⟩ (by simp) rfl
          obtain ⟨B, nb, cb, zs, d1, hz, hn1, hn2, hB, hBf⟩ : VK p w1.heap.size undef undef ⟨0, 0, none⟩ 1 (vals 6) u1 := hv ⟨6, .data⟩ (by simp) rfl
          simp only [List.take_succ_cons, List.take_zero, putsD, d0, d1]
          go_simp
          refine (AM.out k9 nb cb B zs u1 hc (by omega) hz hn1 hn2 hB hBf).mono ?_
          rintro e w' ⟨v, k', rfl, ⟨z, -, rfl⟩, hk', hc', hg'⟩
          exact hK _ (.int .i64 z) w' k' rfl rfl hg' hc' (by omega) ⟨z, rfl⟩
        · injection ho with ho; subst ho
          simp only [List.take_succ_cons, List.take_zero, putsD]
          go_simp
          exact hK _ (.pointer (some ⟨p, 0, none⟩)) u1 k9 rfl rfl (grown_refl _ _) hc (by omega) (rfl)
        · injection ho with ho; subst ho
          have hl := hc.lt
          simp only [List.take_succ_cons, List.take_zero, putsD]
          go_simp
          exact hK _ (.slice (some ⟨u1.heap.size, 0, none⟩) 2 2) (u1.alloc (.cells (cells1 [0, 5]).toArray 3)) k9 rfl rfl (World.grownBy_alloc u1 _ _) (hc.alloc _) (by omega) ⟨_, 2, 2, [0, 5], rfl, rfl, by decide, by decide, rd_ints (w := u1) [0, 5] 3, fun g o q e => by injection e with e; injection e with e; omega⟩
        · injection ho with ho; subst ho
          have d0 : vals 8 = .pointer (some ⟨p, 0, none⟩) := hv ⟨8, .data⟩ (by simp) rfl
          obtain ⟨B, nb, cb, zs, d1, hz, hn1, hn2, hB, hBf⟩ : VK p w1.heap.size undef undef ⟨0, 0, none⟩ 1 (vals 9) u1 := hv ⟨9, .data⟩ (by simp) rfl
          simp only [List.take_succ_cons, List.take_zero, putsD, d0, d1]
          go_simp
          refine (AM.out k9 nb cb B zs u1 hc (by omega) hz hn1 hn2 hB hBf).mono ?_
          rintro e w' ⟨v, k', rfl, ⟨z, -, rfl⟩, hk', hc', hg'⟩
          exact hK _ (.int .i64 z) w' k' rfl rfl hg' hc' (by omega) ⟨z, rfl⟩
        · injection ho with ho; subst ho
          simp only [List.take_succ_cons, List.take_zero, putsD]
          go_simp
          exact hK _ (.pointer (some ⟨p, 0, none⟩)) u1 k9 rfl rfl (grown_refl _ _) hc (by omega) (rfl)
        · injection ho with ho; subst ho
          have hl := hc.lt
          simp only [List.take_succ_cons, List.take_zero, putsD]
          go_simp
          exact hK _ (.slice (some ⟨u1.heap.size, 0, none⟩) 3 3) (u1.alloc (.cells (cells1 [0, 1, (-1)]).toArray 3)) k9 rfl rfl (World.grownBy_alloc u1 _ _) (hc.alloc _) (by omega) ⟨_, 3, 3, [0, 1, (-1)], rfl, rfl, by decide, by decide, rd_ints (w := u1) [0, 1, (-1)] 3, fun g o q e => by injection e with e; injection e with e; omega⟩
        · injection ho with ho; subst ho
          have d0 : vals 11 = .pointer (some ⟨p, 0, none⟩) := hv ⟨11, .data⟩ (by simp) rfl
          obtain ⟨B, nb, cb, zs, d1, hz, hn1, hn2, hB, hBf⟩ : VK p w1.heap.size undef undef ⟨0, 0, none⟩ 1 (vals 12) u1 := hv ⟨12, .data⟩ (by simp) rfl
          simp only [List.take_succ_cons, List.take_zero, putsD, d0, d1]
          go_simp
          refine (AM.out k9 nb cb B zs u1 hc (by omega) hz hn1 hn2 hB hBf).mono ?_
          rintro e w' ⟨v, k', rfl, ⟨z, -, rfl⟩, hk', hc', hg'⟩
          exact hK _ (.int .i64 z) w' k' rfl rfl hg' hc' (by omega) ⟨z, rfl⟩
        · injection ho with ho; subst ho
          obtain ⟨z2, e2⟩ : ∃ z : Int, vals 2 = .int .i64 z := hv ⟨2, .data⟩ (by simp) rfl
          obtain ⟨z7, e7⟩ : ∃ z : Int, vals 7 = .int .i64 z := hv ⟨7, .data⟩ (by simp) rfl
          obtain ⟨z10, e10⟩ : ∃ z : Int, vals 10 = .int .i64 z := hv ⟨10, .data⟩ (by simp) rfl
          obtain ⟨z13, e13⟩ : ∃ z : Int, vals 13 = .int .i64 z := hv ⟨13, .data⟩ (by simp) rfl
          simp only [List.take_succ_cons, List.take_zero, putsD, e2, e7, e10, e13]
          go_simp
          exact hK _ (.agg #[.int .i64 z2, .int .i64 z7, .int .i64 z10, .int .i64 z13]) u1 k9 rfl rfl (grown_refl _ _) hc (by omega) (⟨_, _, _, _, rfl⟩)
      · intro o ho vals u1 k9 za zb zc zd hc hg hr e14 Kt Q' hK
        injection ho with ho; subst ho
        have e14 : vals 14 = _ := e14
        have hr4 : Blk u1 w.heap.size [.int .i64 0, .int .i64 0, .int .i64 0, .int .i64 0] := hr
        have r0 := hr4.cell 0 _ rfl
        have f0 := hr4.fr 0 (by simp)
        have r1 := hr4.cell 1 _ rfl
        have f1 := hr4.fr 1 (by simp)
        have r2 := hr4.cell 2 _ rfl
        have f2 := hr4.fr 2 (by simp)
        have r3 := hr4.cell 3 _ rfl
        have f3 := hr4.fr 3 (by simp)
        simp only [List.take_succ_cons, List.take_zero, putsD, e14]
        go_simp
        exact hK _ undef ((((u1.setCell ⟨w.heap.size, 0, none⟩ (.int .i64 za)).setCell ⟨w.heap.size, 1, none⟩ (.int .i64 zb)).setCell ⟨w.heap.size, 2, none⟩ (.int .i64 zc)).setCell ⟨w.heap.size, 3, none⟩ (.int .i64 zd)) rfl trivial (grown_other (grown_other (grown_other (grown_other hg (Nat.le_refl _) _ _) (Nat.le_refl _) _ _) (Nat.le_refl _) _ _) (Nat.le_refl _) _ _) ((((hc.other hp _).other hp _).other hp _).other hp _) ((((hr4.set (i := 0) (by simp) _).set (i := 1) (by simp) _).set (i := 2) (by simp) _).set (i := 3) (by simp) _)
      · intro vals u1 k9 za zb zc zd hk9 hc hg hr
        simp only [putsD]
        have hr4 : Blk u1 w.heap.size [.int .i64 za, .int .i64 zb, .int .i64 zc, .int .i64 zd] := hr
        have r0 := hr4.cell 0 _ rfl
        have r1 := hr4.cell 1 _ rfl
        have r2 := hr4.cell 2 _ rfl
        have r3 := hr4.cell 3 _ rfl
        go_wp2
        exact bodyPost_ret (v := .agg #[.int .i64 za, .int .i64 zb, .int .i64 zc, .int .i64 zd]) (by simp [results, Try.results17, go_sem, r0, r1, r2, r3]) rfl ⟨_, k9, rfl, ⟨_, _, _, _, rfl⟩, by omega, hc, hg⟩
    | false =>
      go_wp2_with fail
      have HA4 : Hid (Rd w4 (some ⟨g, o, none⟩) (cells5 xs)) := Lib.hid (Rd.grown HG4.out HA.out (fun g o q e => by have := HF.out g o q e; intro e2; injection e2 with e2; exact this e2))
      refine (l29Open_any _ _ c xs _ HN.out HA4.out (by omega)).mono ?_
      rintro e w5 ⟨rfl, rfl⟩
      rcases idxV_cases isOpen xs with ⟨e, -⟩ | ⟨j, z, e, hz, hp1, -⟩
      · rw [e]
        obtain ⟨kc, hkc⟩ : ∃ kc, kc = k4 := ⟨_, rfl⟩
        rw [← hkc] at HC4 hk4
        go_wp2_with fail
        refine (PK.out kc 8 _ HC4.out (by omega) (by decide) (by decide)).mono ?_
        rintro e w8 ⟨v8, k8, rfl, ⟨r8, rfl, a8, b8⟩, hk8, hc, hg⟩
        have hl4 := HC4.out.lt
        have KX5 := KX4.grown hg (by simp; omega)
        have KR5 := KR4.grown hg (by simp; omega)
        have HG5 := Lib.hid (grown_trans HG4.out hg)
        have HC5 := Lib.hid hc
        clear KX4 KR4 HG4 HC4 hl4 hc hg
        have KX4 := KX5
        have KR4 := KR5
        have HG4 := HG5
        have HC4 := HC5
        clear KX5 KR5 HG5 HC5
        have h8 : r8 = 0 ∨ r8 = 1 ∨ r8 = 2 ∨ r8 = 3 ∨ r8 = 4 ∨ r8 = 5 ∨ r8 = 6 ∨ r8 = 7 := by simp at b8; omega
        clear a8 b8
        rcases h8 with rfl | rfl | rfl | rfl | rfl | rfl | rfl | rfl
        · have x0 := KX4.cell 0 _ rfl
          go_wp2_with fail
          refine (AM.out k8 7 _ (some ⟨w8.heap.size, 0, none⟩) [1, 7, 20, 33, 98, 99, 100] _ (HC4.out.alloc _) (by omega) rfl (by decide) (by decide) (rd_ints (w := w8) [1, 7, 20, 33, 98, 99, 100] 3) (fun g o q e => by have := HC4.out.lt; injection e with e; injection e with e; omega)).mono ?_
          rintro e w9 ⟨v9, k9, rfl, ⟨z9, -, rfl⟩, hk9, hc, hg0⟩
          have hg := grown_trans (World.grownBy_alloc w8 _ _) hg0
          clear hg0 x0
          have hl4 := HC4.out.lt
          have KX5 := KX4.grown hg (by simp; omega)
          have KR5 := KR4.grown hg (by simp; omega)
          have HG5 := Lib.hid (grown_trans HG4.out hg)
          have HC5 := Lib.hid hc
          clear KX4 KR4 HG4 HC4 hl4 hc hg
          have KX4 := KX5
          have KR4 := KR5
          have HG4 := HG5
          have HC4 := HC5
          clear KX5 KR5 HG5 HC5
          go_wp2_with fail
          refine (AM.out k9 5 _ (some ⟨w9.heap.size, 0, none⟩) [0, 1, 50, 99999, 100000] _ (HC4.out.alloc _) (by omega) rfl (by decide) (by decide) (rd_ints (w := w9) [0, 1, 50, 99999, 100000] 3) (fun g o q e => by have := HC4.out.lt; injection e with e; injection e with e; omega)).mono ?_
          rintro e w10 ⟨v10, k10, rfl, ⟨z10, -, rfl⟩, hk10, hc, hg0⟩
          have hg := grown_trans (World.grownBy_alloc w9 _ _) hg0
          clear hg0
          have hl4 := HC4.out.lt
          have KX5 := KX4.grown hg (by simp; omega)
          have KR5 := KR4.grown hg (by simp; omega)
          have HG5 := Lib.hid (grown_trans HG4.out hg)
          have HC5 := Lib.hid hc
          clear KX4 KR4 HG4 HC4 hl4 hc hg
          have KX4 := KX5
          have KR4 := KR5
          have HG4 := HG5
          have HC4 := HC5
          clear KX5 KR5 HG5 HC5
          have hl4 := HC4.out.lt
          have r0 := KR4.cell 0 _ rfl
          have f0 := KR4.fr 0 (by simp)
          have r1 := KR4.cell 1 _ rfl
          have f1 := KR4.fr 1 (by simp)
          have r2 := KR4.cell 2 _ rfl
          have f2 := KR4.fr 2 (by simp)
          have r3 := KR4.cell 3 _ rfl
          have f3 := KR4.fr 3 (by simp)
          go_wp2
          exact bodyPost_ret (v := .agg #[.int .i64 1, .int .i64 z9, .int .i64 0, .int .i64 z10]) (by simp [results, Try.results17, go_sem, r0, r1, r2, r3]) rfl ⟨_, k10, rfl, ⟨_, _, _, _, rfl⟩, by omega, ((((HC4.out.other hp _).other hp _).other hp _).other hp _), (grown_other (grown_other (grown_other (grown_other HG4.out (Nat.le_refl _) _ _) (Nat.le_refl _) _ _) (Nat.le_refl _) _ _) (Nat.le_refl _) _ _)⟩
        · have x0 := KX4.cell 0 _ rfl
          go_wp2_with fail
          refine (AM.out k8 7 _ (some ⟨w8.heap.size, 0, none⟩) [1, 7, 20, 33, 98, 99, 100] _ (HC4.out.alloc _) (by omega) rfl (by decide) (by decide) (rd_ints (w := w8) [1, 7, 20, 33, 98, 99, 100] 3) (fun g o q e => by have := HC4.out.lt; injection e with e; injection e with e; omega)).mono ?_
          rintro e w9 ⟨v9, k9, rfl, ⟨z9, -, rfl⟩, hk9, hc, hg0⟩
          have hg := grown_trans (World.grownBy_alloc w8 _ _) hg0
          clear hg0 x0
          have hl4 := HC4.out.lt
          have KX5 := KX4.grown hg (by simp; omega)
          have KR5 := KR4.grown hg (by simp; omega)
          have HG5 := Lib.hid (grown_trans HG4.out hg)
          have HC5 := Lib.hid hc
          clear KX4 KR4 HG4 HC4 hl4 hc hg
          have KX4 := KX5
          have KR4 := KR5
          have HG4 := HG5
          have HC4 := HC5
          clear KX5 KR5 HG5 HC5
          go_wp2_with fail
          refine (AM.out k9 5 _ (some ⟨w9.heap.size, 0, none⟩) [0, 1, 50, 99999, 100000] _ (HC4.out.alloc _) (by omega) rfl (by decide) (by decide) (rd_ints (w := w9) [0, 1, 50, 99999, 100000] 3) (fun g o q e => by have := HC4.out.lt; injection e with e; injection e with e; omega)).mono ?_
          rintro e w10 ⟨v10, k10, rfl, ⟨z10, -, rfl⟩, hk10, hc, hg0⟩
          have hg := grown_trans (World.grownBy_alloc w9 _ _) hg0
          clear hg0
          have hl4 := HC4.out.lt
          have KX5 := KX4.grown hg (by simp; omega)
          have KR5 := KR4.grown hg (by simp; omega)
          have HG5 := Lib.hid (grown_trans HG4.out hg)
          have HC5 := Lib.hid hc
          clear KX4 KR4 HG4 HC4 hl4 hc hg
          have KX4 := KX5
          have KR4 := KR5
          have HG4 := HG5
          have HC4 := HC5
          clear KX5 KR5 HG5 HC5
          have hl4 := HC4.out.lt
          have r0 := KR4.cell 0 _ rfl
          have f0 := KR4.fr 0 (by simp)
          have r1 := KR4.cell 1 _ rfl
          have f1 := KR4.fr 1 (by simp)
          have r2 := KR4.cell 2 _ rfl
          have f2 := KR4.fr 2 (by simp)
          have r3 := KR4.cell 3 _ rfl
          have f3 := KR4.fr 3 (by simp)
          go_wp2
          exact bodyPost_ret (v := .agg #[.int .i64 1, .int .i64 z9, .int .i64 0, .int .i64 z10]) (by simp [results, Try.results17, go_sem, r0, r1, r2, r3]) rfl ⟨_, k10, rfl, ⟨_, _, _, _, rfl⟩, by omega, ((((HC4.out.other hp _).other hp _).other hp _).other hp _), (grown_other (grown_other (grown_other (grown_other HG4.out (Nat.le_refl _) _ _) (Nat.le_refl _) _ _) (Nat.le_refl _) _ _) (Nat.le_refl _) _ _)⟩
        · have x0 := KX4.cell 0 _ rfl
          go_wp2_with fail
          refine (AM.out k8 7 _ (some ⟨w8.heap.size, 0, none⟩) [1, 7, 20, 33, 98, 99, 100] _ (HC4.out.alloc _) (by omega) rfl (by decide) (by decide) (rd_ints (w := w8) [1, 7, 20, 33, 98, 99, 100] 3) (fun g o q e => by have := HC4.out.lt; injection e with e; injection e with e; omega)).mono ?_
          rintro e w9 ⟨v9, k9, rfl, ⟨z9, -, rfl⟩, hk9, hc, hg0⟩
          have hg := grown_trans (World.grownBy_alloc w8 _ _) hg0
          clear hg0 x0
          have hl4 := HC4.out.lt
          have KX5 := KX4.grown hg (by simp; omega)
          have KR5 := KR4.grown hg (by simp; omega)
          have HG5 := Lib.hid (grown_trans HG4.out hg)
          have HC5 := Lib.hid hc
          clear KX4 KR4 HG4 HC4 hl4 hc hg
          have KX4 := KX5
          have KR4 := KR5
          have HG4 := HG5
          have HC4 := HC5
          clear KX5 KR5 HG5 HC5
          go_wp2_with fail
          refine (AM.out k9 5 _ (some ⟨w9.heap.size, 0, none⟩) [0, 1, 50, 99999, 100000] _ (HC4.out.alloc _) (by omega) rfl (by decide) (by decide) (rd_ints (w := w9) [0, 1, 50, 99999, 100000] 3) (fun g o q e => by have := HC4.out.lt; injection e with e; injection e with e; omega)).mono ?_
          rintro e w10 ⟨v10, k10, rfl, ⟨z10, -, rfl⟩, hk10, hc, hg0⟩
          have hg := grown_trans (World.grownBy_alloc w9 _ _) hg0
          clear hg0
          have hl4 := HC4.out.lt
          have KX5 := KX4.grown hg (by simp; omega)
          have KR5 := KR4.grown hg (by simp; omega)
          have HG5 := Lib.hid (grown_trans HG4.out hg)
          have HC5 := Lib.hid hc
          clear KX4 KR4 HG4 HC4 hl4 hc hg
          have KX4 := KX5
          have KR4 := KR5
          have HG4 := HG5
          have HC4 := HC5
          clear KX5 KR5 HG5 HC5
          have hl4 := HC4.out.lt
          have r0 := KR4.cell 0 _ rfl
          have f0 := KR4.fr 0 (by simp)
          have r1 := KR4.cell 1 _ rfl
          have f1 := KR4.fr 1 (by simp)
          have r2 := KR4.cell 2 _ rfl
          have f2 := KR4.fr 2 (by simp)
          have r3 := KR4.cell 3 _ rfl
          have f3 := KR4.fr 3 (by simp)
          go_wp2
          exact bodyPost_ret (v := .agg #[.int .i64 1, .int .i64 z9, .int .i64 0, .int .i64 z10]) (by simp [results, Try.results17, go_sem, r0, r1, r2, r3]) rfl ⟨_, k10, rfl, ⟨_, _, _, _, rfl⟩, by omega, ((((HC4.out.other hp _).other hp _).other hp _).other hp _), (grown_other (grown_other (grown_other (grown_other HG4.out (Nat.le_refl _) _ _) (Nat.le_refl _) _ _) (Nat.le_refl _) _ _) (Nat.le_refl _) _ _)⟩
        · have x0 := KX4.cell 0 _ rfl
          have hl4 := HC4.out.lt
          have r0 := KR4.cell 0 _ rfl
          have f0 := KR4.fr 0 (by simp)
          have r1 := KR4.cell 1 _ rfl
          have f1 := KR4.fr 1 (by simp)
          have r2 := KR4.cell 2 _ rfl
          have f2 := KR4.fr 2 (by simp)
          have r3 := KR4.cell 3 _ rfl
          have f3 := KR4.fr 3 (by simp)
          go_wp2
          exact bodyPost_ret (v := .agg #[.int .i64 2, .int .i64 y.a, .int .i64 0, .int .i64 0]) (by simp [results, Try.results17, go_sem, r0, r1, r2, r3]) rfl ⟨_, k8, rfl, ⟨_, _, _, _, rfl⟩, by omega, ((((HC4.out.other hp _).other hp _).other hp _).other hp _), (grown_other (grown_other (grown_other (grown_other HG4.out (Nat.le_refl _) _ _) (Nat.le_refl _) _ _) (Nat.le_refl _) _ _) (Nat.le_refl _) _ _)⟩
        · have x0 := KX4.cell 0 _ rfl
          have hl4 := HC4.out.lt
          have r0 := KR4.cell 0 _ rfl
          have f0 := KR4.fr 0 (by simp)
          have r1 := KR4.cell 1 _ rfl
          have f1 := KR4.fr 1 (by simp)
          have r2 := KR4.cell 2 _ rfl
          have f2 := KR4.fr 2 (by simp)
          have r3 := KR4.cell 3 _ rfl
          have f3 := KR4.fr 3 (by simp)
          go_wp2
          exact bodyPost_ret (v := .agg #[.int .i64 6, .int .i64 y.a, .int .i64 0, .int .i64 0]) (by simp [results, Try.results17, go_sem, r0, r1, r2, r3]) rfl ⟨_, k8, rfl, ⟨_, _, _, _, rfl⟩, by omega, ((((HC4.out.other hp _).other hp _).other hp _).other hp _), (grown_other (grown_other (grown_other (grown_other HG4.out (Nat.le_refl _) _ _) (Nat.le_refl _) _ _) (Nat.le_refl _) _ _) (Nat.le_refl _) _ _)⟩
        · have x0 := KX4.cell 0 _ rfl
          have hl4 := HC4.out.lt
          have r0 := KR4.cell 0 _ rfl
          have f0 := KR4.fr 0 (by simp)
          have r1 := KR4.cell 1 _ rfl
          have f1 := KR4.fr 1 (by simp)
          have r2 := KR4.cell 2 _ rfl
          have f2 := KR4.fr 2 (by simp)
          have r3 := KR4.cell 3 _ rfl
          have f3 := KR4.fr 3 (by simp)
          go_wp2
          exact bodyPost_ret (v := .agg #[.int .i64 3, .int .i64 y.a, .int .i64 0, .int .i64 0]) (by simp [results, Try.results17, go_sem, r0, r1, r2, r3]) rfl ⟨_, k8, rfl, ⟨_, _, _, _, rfl⟩, by omega, ((((HC4.out.other hp _).other hp _).other hp _).other hp _), (grown_other (grown_other (grown_other (grown_other HG4.out (Nat.le_refl _) _ _) (Nat.le_refl _) _ _) (Nat.le_refl _) _ _) (Nat.le_refl _) _ _)⟩
        · have x0 := KX4.cell 0 _ rfl
          have hl4 := HC4.out.lt
          have r0 := KR4.cell 0 _ rfl
          have f0 := KR4.fr 0 (by simp)
          have r1 := KR4.cell 1 _ rfl
          have f1 := KR4.fr 1 (by simp)
          have r2 := KR4.cell 2 _ rfl
          have f2 := KR4.fr 2 (by simp)
          have r3 := KR4.cell 3 _ rfl
          have f3 := KR4.fr 3 (by simp)
          go_wp2
          exact bodyPost_ret (v := .agg #[.int .i64 3, .int .i64 y.a, .int .i64 0, .int .i64 0]) (by simp [results, Try.results17, go_sem, r0, r1, r2, r3]) rfl ⟨_, k8, rfl, ⟨_, _, _, _, rfl⟩, by omega, ((((HC4.out.other hp _).other hp _).other hp _).other hp _), (grown_other (grown_other (grown_other (grown_other HG4.out (Nat.le_refl _) _ _) (Nat.le_refl _) _ _) (Nat.le_refl _) _ _) (Nat.le_refl _) _ _)⟩
        · have x0 := KX4.cell 0 _ rfl
          have hl4 := HC4.out.lt
          have r0 := KR4.cell 0 _ rfl
          have f0 := KR4.fr 0 (by simp)
          have r1 := KR4.cell 1 _ rfl
          have f1 := KR4.fr 1 (by simp)
          have r2 := KR4.cell 2 _ rfl
          have f2 := KR4.fr 2 (by simp)
          have r3 := KR4.cell 3 _ rfl
          have f3 := KR4.fr 3 (by simp)
          go_wp2
          exact bodyPost_ret (v := .agg #[.int .i64 3, .int .i64 y.a, .int .i64 0, .int .i64 0]) (by simp [results, Try.results17, go_sem, r0, r1, r2, r3]) rfl ⟨_, k8, rfl, ⟨_, _, _, _, rfl⟩, by omega, ((((HC4.out.other hp _).other hp _).other hp _).other hp _), (grown_other (grown_other (grown_other (grown_other HG4.out (Nat.le_refl _) _ _) (Nat.le_refl _) _ _) (Nat.le_refl _) _ _) (Nat.le_refl _) _ _)⟩
      · rw [e]
        have hj : j < n := by have := (List.getElem?_eq_some_iff.1 hz).1; have := HN.out; omega
        have hjd : (j : Int) < n := by omega
        have hj0 : (0 : Int) ≤ j := by omega
        go_wp2_with fail
        refine (ON.out k4 6 _ HC4.out (by omega) (by decide) (by decide)).mono ?_
        rintro e w6 ⟨v6, k6, rfl, ⟨b6, rfl⟩, hk6, hc, hg⟩
        have hl4 := HC4.out.lt
        have KX5 := KX4.grown hg (by simp; omega)
        have KR5 := KR4.grown hg (by simp; omega)
        have HG5 := Lib.hid (grown_trans HG4.out hg)
        have HC5 := Lib.hid hc
        clear KX4 KR4 HG4 HC4 hl4 hc hg
        have KX4 := KX5
        have KR4 := KR5
        have HG4 := HG5
        have HC4 := HC5
        clear KX5 KR5 HG5 HC5
        cases b6 with
        | true =>
          obtain ⟨kc, hkc⟩ : ∃ kc, kc = k6 := ⟨_, rfl⟩
          rw [← hkc] at HC4 hk6
          go_wp2_with fail
          refine (PK.out kc 8 _ HC4.out (by omega) (by decide) (by decide)).mono ?_
          rintro e w8 ⟨v8, k8, rfl, ⟨r8, rfl, a8, b8⟩, hk8, hc, hg⟩
          have hl4 := HC4.out.lt
          have KX5 := KX4.grown hg (by simp; omega)
          have KR5 := KR4.grown hg (by simp; omega)
          have HG5 := Lib.hid (grown_trans HG4.out hg)
          have HC5 := Lib.hid hc
          clear KX4 KR4 HG4 HC4 hl4 hc hg
          have KX4 := KX5
          have KR4 := KR5
          have HG4 := HG5
          have HC4 := HC5
          clear KX5 KR5 HG5 HC5
          have h8 : r8 = 0 ∨ r8 = 1 ∨ r8 = 2 ∨ r8 = 3 ∨ r8 = 4 ∨ r8 = 5 ∨ r8 = 6 ∨ r8 = 7 := by simp at b8; omega
          clear a8 b8
          rcases h8 with rfl | rfl | rfl | rfl | rfl | rfl | rfl | rfl
          · have x0 := KX4.cell 0 _ rfl
            go_wp2_with fail
            refine (AM.out k8 7 _ (some ⟨w8.heap.size, 0, none⟩) [1, 7, 20, 33, 98, 99, 100] _ (HC4.out.alloc _) (by omega) rfl (by decide) (by decide) (rd_ints (w := w8) [1, 7, 20, 33, 98, 99, 100] 3) (fun g o q e => by have := HC4.out.lt; injection e with e; injection e with e; omega)).mono ?_
            rintro e w9 ⟨v9, k9, rfl, ⟨z9, -, rfl⟩, hk9, hc, hg0⟩
            have hg := grown_trans (World.grownBy_alloc w8 _ _) hg0
            clear hg0 x0
            have hl4 := HC4.out.lt
            have KX5 := KX4.grown hg (by simp; omega)
            have KR5 := KR4.grown hg (by simp; omega)
            have HG5 := Lib.hid (grown_trans HG4.out hg)
            have HC5 := Lib.hid hc
            clear KX4 KR4 HG4 HC4 hl4 hc hg
            have KX4 := KX5
            have KR4 := KR5
            have HG4 := HG5
            have HC4 := HC5
            clear KX5 KR5 HG5 HC5
            go_wp2_with fail
            refine (AM.out k9 5 _ (some ⟨w9.heap.size, 0, none⟩) [0, 1, 50, 99999, 100000] _ (HC4.out.alloc _) (by omega) rfl (by decide) (by decide) (rd_ints (w := w9) [0, 1, 50, 99999, 100000] 3) (fun g o q e => by have := HC4.out.lt; injection e with e; injection e with e; omega)).mono ?_
            rintro e w10 ⟨v10, k10, rfl, ⟨z10, -, rfl⟩, hk10, hc, hg0⟩
            have hg := grown_trans (World.grownBy_alloc w9 _ _) hg0
            clear hg0
            have hl4 := HC4.out.lt
            have KX5 := KX4.grown hg (by simp; omega)
            have KR5 := KR4.grown hg (by simp; omega)
            have HG5 := Lib.hid (grown_trans HG4.out hg)
            have HC5 := Lib.hid hc
            clear KX4 KR4 HG4 HC4 hl4 hc hg
            have KX4 := KX5
            have KR4 := KR5
            have HG4 := HG5
            have HC4 := HC5
            clear KX5 KR5 HG5 HC5
            have hl4 := HC4.out.lt
            have r0 := KR4.cell 0 _ rfl
            have f0 := KR4.fr 0 (by simp)
            have r1 := KR4.cell 1 _ rfl
            have f1 := KR4.fr 1 (by simp)
            have r2 := KR4.cell 2 _ rfl
            have f2 := KR4.fr 2 (by simp)
            have r3 := KR4.cell 3 _ rfl
            have f3 := KR4.fr 3 (by simp)
            go_wp2
            exact bodyPost_ret (v := .agg #[.int .i64 1, .int .i64 z9, .int .i64 0, .int .i64 z10]) (by simp [results, Try.results17, go_sem, r0, r1, r2, r3]) rfl ⟨_, k10, rfl, ⟨_, _, _, _, rfl⟩, by omega, ((((HC4.out.other hp _).other hp _).other hp _).other hp _), (grown_other (grown_other (grown_other (grown_other HG4.out (Nat.le_refl _) _ _) (Nat.le_refl _) _ _) (Nat.le_refl _) _ _) (Nat.le_refl _) _ _)⟩
          · have x0 := KX4.cell 0 _ rfl
            go_wp2_with fail
            refine (AM.out k8 7 _ (some ⟨w8.heap.size, 0, none⟩) [1, 7, 20, 33, 98, 99, 100] _ (HC4.out.alloc _) (by omega) rfl (by decide) (by decide) (rd_ints (w := w8) [1, 7, 20, 33, 98, 99, 100] 3) (fun g o q e => by have := HC4.out.lt; injection e with e; injection e with e; omega)).mono ?_
            rintro e w9 ⟨v9, k9, rfl, ⟨z9, -, rfl⟩, hk9, hc, hg0⟩
            have hg := grown_trans (World.grownBy_alloc w8 _ _) hg0
            clear hg0 x0
            have hl4 := HC4.out.lt
            have KX5 := KX4.grown hg (by simp; omega)
            have KR5 := KR4.grown hg (by simp; omega)
            have HG5 := Lib.hid (grown_trans HG4.out hg)
            have HC5 := Lib.hid hc
            clear KX4 KR4 HG4 HC4 hl4 hc hg
            have KX4 := KX5
            have KR4 := KR5
            have HG4 := HG5
            have HC4 := HC5
            clear KX5 KR5 HG5 HC5
            go_wp2_with fail
            refine (AM.out k9 5 _ (some ⟨w9.heap.size, 0, none⟩) [0, 1, 50, 99999, 100000] _ (HC4.out.alloc _) (by omega) rfl (by decide) (by decide) (rd_ints (w := w9) [0, 1, 50, 99999, 100000] 3) (fun g o q e => by have := HC4.out.lt; injection e with e; injection e with e; omega)).mono ?_
            rintro e w10 ⟨v10, k10, rfl, ⟨z10, -, rfl⟩, hk10, hc, hg0⟩
            have hg := grown_trans (World.grownBy_alloc w9 _ _) hg0
            clear hg0
            have hl4 := HC4.out.lt
            have KX5 := KX4.grown hg (by simp; omega)
            have KR5 := KR4.grown hg (by simp; omega)
            have HG5 := Lib.hid (grown_trans HG4.out hg)
            have HC5 := Lib.hid hc
            clear KX4 KR4 HG4 HC4 hl4 hc hg
            have KX4 := KX5
            have KR4 := KR5
            have HG4 := HG5
            have HC4 := HC5
            clear KX5 KR5 HG5 HC5
            have hl4 := HC4.out.lt
            have r0 := KR4.cell 0 _ rfl
            have f0 := KR4.fr 0 (by simp)
            have r1 := KR4.cell 1 _ rfl
            have f1 := KR4.fr 1 (by simp)
            have r2 := KR4.cell 2 _ rfl
            have f2 := KR4.fr 2 (by simp)
            have r3 := KR4.cell 3 _ rfl
            have f3 := KR4.fr 3 (by simp)
            go_wp2
            exact bodyPost_ret (v := .agg #[.int .i64 1, .int .i64 z9, .int .i64 0, .int .i64 z10]) (by simp [results, Try.results17, go_sem, r0, r1, r2, r3]) rfl ⟨_, k10, rfl, ⟨_, _, _, _, rfl⟩, by omega, ((((HC4.out.other hp _).other hp _).other hp _).other hp _), (grown_other (grown_other (grown_other (grown_other HG4.out (Nat.le_refl _) _ _) (Nat.le_refl _) _ _) (Nat.le_refl _) _ _) (Nat.le_refl _) _ _)⟩
          · have x0 := KX4.cell 0 _ rfl
            go_wp2_with fail
            refine (AM.out k8 7 _ (some ⟨w8.heap.size, 0, none⟩) [1, 7, 20, 33, 98, 99, 100] _ (HC4.out.alloc _) (by omega) rfl (by decide) (by decide) (rd_ints (w := w8) [1, 7, 20, 33, 98, 99, 100] 3) (fun g o q e => by have := HC4.out.lt; injection e with e; injection e with e; omega)).mono ?_
            rintro e w9 ⟨v9, k9, rfl, ⟨z9, -, rfl⟩, hk9, hc, hg0⟩
            have hg := grown_trans (World.grownBy_alloc w8 _ _) hg0
            clear hg0 x0
            have hl4 := HC4.out.lt
            have KX5 := KX4.grown hg (by simp; omega)
            have KR5 := KR4.grown hg (by simp; omega)
            have HG5 := Lib.hid (grown_trans HG4.out hg)
            have HC5 := Lib.hid hc
            clear KX4 KR4 HG4 HC4 hl4 hc hg
            have KX4 := KX5
            have KR4 := KR5
            have HG4 := HG5
            have HC4 := HC5
            clear KX5 KR5 HG5 HC5
            go_wp2_with fail
            refine (AM.out k9 5 _ (some ⟨w9.heap.size, 0, none⟩) [0, 1, 50, 99999, 100000] _ (HC4.out.alloc _) (by omega) rfl (by decide) (by decide) (rd_ints (w := w9) [0, 1, 50, 99999, 100000] 3) (fun g o q e => by have := HC4.out.lt; injection e with e; injection e with e; omega)).mono ?_
            rintro e w10 ⟨v10, k10, rfl, ⟨z10, -, rfl⟩, hk10, hc, hg0⟩
            have hg := grown_trans (World.grownBy_alloc w9 _ _) hg0
            clear hg0
            have hl4 := HC4.out.lt
            have KX5 := KX4.grown hg (by simp; omega)
            have KR5 := KR4.grown hg (by simp; omega)
            have HG5 := Lib.hid (grown_trans HG4.out hg)
            have HC5 := Lib.hid hc
            clear KX4 KR4 HG4 HC4 hl4 hc hg
            have KX4 := KX5
            have KR4 := KR5
            have HG4 := HG5
            have HC4 := HC5
            clear KX5 KR5 HG5 HC5
            have hl4 := HC4.out.lt
            have r0 := KR4.cell 0 _ rfl
            have f0 := KR4.fr 0 (by simp)
            have r1 := KR4.cell 1 _ rfl
            have f1 := KR4.fr 1 (by simp)
            have r2 := KR4.cell 2 _ rfl
            have f2 := KR4.fr 2 (by simp)
            have r3 := KR4.cell 3 _ rfl
            have f3 := KR4.fr 3 (by simp)
            go_wp2
            exact bodyPost_ret (v := .agg #[.int .i64 1, .int .i64 z9, .int .i64 0, .int .i64 z10]) (by simp [results, Try.results17, go_sem, r0, r1, r2, r3]) rfl ⟨_, k10, rfl, ⟨_, _, _, _, rfl⟩, by omega, ((((HC4.out.other hp _).other hp _).other hp _).other hp _), (grown_other (grown_other (grown_other (grown_other HG4.out (Nat.le_refl _) _ _) (Nat.le_refl _) _ _) (Nat.le_refl _) _ _) (Nat.le_refl _) _ _)⟩
          · have x0 := KX4.cell 0 _ rfl
            have hl4 := HC4.out.lt
            have r0 := KR4.cell 0 _ rfl
            have f0 := KR4.fr 0 (by simp)
            have r1 := KR4.cell 1 _ rfl
            have f1 := KR4.fr 1 (by simp)
            have r2 := KR4.cell 2 _ rfl
            have f2 := KR4.fr 2 (by simp)
            have r3 := KR4.cell 3 _ rfl
            have f3 := KR4.fr 3 (by simp)
            go_wp2
            exact bodyPost_ret (v := .agg #[.int .i64 2, .int .i64 y.a, .int .i64 0, .int .i64 0]) (by simp [results, Try.results17, go_sem, r0, r1, r2, r3]) rfl ⟨_, k8, rfl, ⟨_, _, _, _, rfl⟩, by omega, ((((HC4.out.other hp _).other hp _).other hp _).other hp _), (grown_other (grown_other (grown_other (grown_other HG4.out (Nat.le_refl _) _ _) (Nat.le_refl _) _ _) (Nat.le_refl _) _ _) (Nat.le_refl _) _ _)⟩
          · have x0 := KX4.cell 0 _ rfl
            have hl4 := HC4.out.lt
            have r0 := KR4.cell 0 _ rfl
            have f0 := KR4.fr 0 (by simp)
            have r1 := KR4.cell 1 _ rfl
            have f1 := KR4.fr 1 (by simp)
            have r2 := KR4.cell 2 _ rfl
            have f2 := KR4.fr 2 (by simp)
            have r3 := KR4.cell 3 _ rfl
            have f3 := KR4.fr 3 (by simp)
            go_wp2
            exact bodyPost_ret (v := .agg #[.int .i64 6, .int .i64 y.a, .int .i64 0, .int .i64 0]) (by simp [results, Try.results17, go_sem, r0, r1, r2, r3]) rfl ⟨_, k8, rfl, ⟨_, _, _, _, rfl⟩, by omega, ((((HC4.out.other hp _).other hp _).other hp _).other hp _), (grown_other (grown_other (grown_other (grown_other HG4.out (Nat.le_refl _) _ _) (Nat.le_refl _) _ _) (Nat.le_refl _) _ _) (Nat.le_refl _) _ _)⟩
          · have x0 := KX4.cell 0 _ rfl
            have hl4 := HC4.out.lt
            have r0 := KR4.cell 0 _ rfl
            have f0 := KR4.fr 0 (by simp)
            have r1 := KR4.cell 1 _ rfl
            have f1 := KR4.fr 1 (by simp)
            have r2 := KR4.cell 2 _ rfl
            have f2 := KR4.fr 2 (by simp)
            have r3 := KR4.cell 3 _ rfl
            have f3 := KR4.fr 3 (by simp)
            go_wp2
            exact bodyPost_ret (v := .agg #[.int .i64 3, .int .i64 y.a, .int .i64 0, .int .i64 0]) (by simp [results, Try.results17, go_sem, r0, r1, r2, r3]) rfl ⟨_, k8, rfl, ⟨_, _, _, _, rfl⟩, by omega, ((((HC4.out.other hp _).other hp _).other hp _).other hp _), (grown_other (grown_other (grown_other (grown_other HG4.out (Nat.le_refl _) _ _) (Nat.le_refl _) _ _) (Nat.le_refl _) _ _) (Nat.le_refl _) _ _)⟩
          · have x0 := KX4.cell 0 _ rfl
            have hl4 := HC4.out.lt
            have r0 := KR4.cell 0 _ rfl
            have f0 := KR4.fr 0 (by simp)
            have r1 := KR4.cell 1 _ rfl
            have f1 := KR4.fr 1 (by simp)
            have r2 := KR4.cell 2 _ rfl
            have f2 := KR4.fr 2 (by simp)
            have r3 := KR4.cell 3 _ rfl
            have f3 := KR4.fr 3 (by simp)
            go_wp2
            exact bodyPost_ret (v := .agg #[.int .i64 3, .int .i64 y.a, .int .i64 0, .int .i64 0]) (by simp [results, Try.results17, go_sem, r0, r1, r2, r3]) rfl ⟨_, k8, rfl, ⟨_, _, _, _, rfl⟩, by omega, ((((HC4.out.other hp _).other hp _).other hp _).other hp _), (grown_other (grown_other (grown_other (grown_other HG4.out (Nat.le_refl _) _ _) (Nat.le_refl _) _ _) (Nat.le_refl _) _ _) (Nat.le_refl _) _ _)⟩
          · have x0 := KX4.cell 0 _ rfl
            have hl4 := HC4.out.lt
            have r0 := KR4.cell 0 _ rfl
            have f0 := KR4.fr 0 (by simp)
            have r1 := KR4.cell 1 _ rfl
            have f1 := KR4.fr 1 (by simp)
            have r2 := KR4.cell 2 _ rfl
            have f2 := KR4.fr 2 (by simp)
            have r3 := KR4.cell 3 _ rfl
            have f3 := KR4.fr 3 (by simp)
            go_wp2
            exact bodyPost_ret (v := .agg #[.int .i64 3, .int .i64 y.a, .int .i64 0, .int .i64 0]) (by simp [results, Try.results17, go_sem, r0, r1, r2, r3]) rfl ⟨_, k8, rfl, ⟨_, _, _, _, rfl⟩, by omega, ((((HC4.out.other hp _).other hp _).other hp _).other hp _), (grown_other (grown_other (grown_other (grown_other HG4.out (Nat.le_refl _) _ _) (Nat.le_refl _) _ _) (Nat.le_refl _) _ _) (Nat.le_refl _) _ _)⟩
        | false =>
          have HA6 : Hid (Rd w6 (some ⟨g, o, none⟩) (cells5 xs)) := Lib.hid (Rd.grown HG4.out HA.out (fun g o q e => by have := HF.out g o q e; intro e2; injection e2 with e2; exact this e2))
          obtain ⟨g2, o2, hA2, hgl2, c0, c1, c2, c3, c4⟩ := HA6.out.at5 hz
          injection hA2 with hA2; injection hA2 with hA2 hA3; subst hA2; subst hA3
          have hzd := HD.out z (List.mem_of_getElem? hz)
          go_wp2_with fail
          refine (l29Least_any z _ hzd).mono ?_
          rintro e w7 ⟨rfl, b7⟩
          clear c0 c1 c2 c3 c4 HA6
          have hl4 := HC4.out.lt
          have KX5 := KX4.below b7 KX4.lt
          have KR5 := KR4.below b7 KR4.lt
          have HG5 := Lib.hid (grown_trans HG4.out (grown_below b7))
          have HC5 := Lib.hid (HC4.out.grown b7)
          clear KX4 KR4 HG4 HC4 hl4
          have KX4 := KX5
          have KR4 := KR5
          have HG4 := HG5
          have HC4 := HC5
          clear KX5 KR5 HG5 HC5
          clear b7
          go_wp2_with fail
          refine (l1Least_any 200000 (leastV z) _).mono ?_
          rintro e w7' ⟨rfl, rfl⟩
          obtain ⟨lst, hlst⟩ : ∃ lst, lst = leastOf 200000 (leastV z) := ⟨_, rfl⟩
          rw [← hlst]
          clear hlst
          go_wp2_with fail
          refine (ON.out k6 4 _ HC4.out (by omega) (by decide) (by decide)).mono ?_
          rintro e w9 ⟨v9, k9, rfl, ⟨b9, rfl⟩, hk9, hc, hg⟩
          have hl4 := HC4.out.lt
          have KX5 := KX4.grown hg (by simp; omega)
          have KR5 := KR4.grown hg (by simp; omega)
          have HG5 := Lib.hid (grown_trans HG4.out hg)
          have HC5 := Lib.hid hc
          clear KX4 KR4 HG4 HC4 hl4 hc hg
          have KX4 := KX5
          have KR4 := KR5
          have HG4 := HG5
          have HC4 := HC5
          clear KX5 KR5 HG5 HC5
          cases b9 with
          | true =>
            have hl4 := HC4.out.lt
            have r0 := KR4.cell 0 _ rfl
            have f0 := KR4.fr 0 (by simp)
            have r1 := KR4.cell 1 _ rfl
            have f1 := KR4.fr 1 (by simp)
            have r2 := KR4.cell 2 _ rfl
            have f2 := KR4.fr 2 (by simp)
            have r3 := KR4.cell 3 _ rfl
            have f3 := KR4.fr 3 (by simp)
            go_wp2
            exact bodyPost_ret (v := .agg #[.int .i64 5, .int .i64 0, .int .i64 0, .int .i64 0]) (by simp [results, Try.results17, go_sem, r0, r1, r2, r3]) rfl ⟨_, k9, rfl, ⟨_, _, _, _, rfl⟩, by omega, ((((HC4.out.other hp _).other hp _).other hp _).other hp _), (grown_other (grown_other (grown_other (grown_other HG4.out (Nat.le_refl _) _ _) (Nat.le_refl _) _ _) (Nat.le_refl _) _ _) (Nat.le_refl _) _ _)⟩
          | false =>
            obtain ⟨kb, hkb⟩ : ∃ kb, kb = k9 := ⟨_, rfl⟩
            rw [← hkb] at HC4 hk9
            clear hkb
            go_wp2_with fail
            refine wp_region_cur (w := w) p w.heap.size w1.heap.size kb 18 (.slice (some ⟨g, o, none⟩) n c) (.int .i64 j) ⟨g, o + j * 5, none⟩ u [.int .i64 y.a, .int .i64 y.b, .int .i64 y.c, .int .i64 y.d, .int .i64 y.e] kindB [some 57, some 58, some 59, some 60, some 61, some 62, some 63, some 64, some 65, some 66, some 67, some 68, some 69, some 70, some 71, some 72, some 73, some 74, none] rfl (by kernel_rfl) (by kernel_rfl) rfl (by kernel_rfl) HC4.out HG4.out KR4 KX4 (by omega) (by omega) ?_ (by decide) rfl ?_ ?_
            · intro i o' ho hi vals u1 k9 hc hk9' hg hx hv Kt Q' hK
              obtain hi0 : i = 0 ∨ i = 1 ∨ i = 2 ∨ i = 3 ∨ i = 4 ∨ i = 5 ∨ i = 6 ∨ i = 7 ∨ i = 8 ∨ i = 9 ∨ i = 10 ∨ i = 11 ∨ i = 12 ∨ i = 13 ∨ i = 14 ∨ i = 15 ∨ i = 16 ∨ i = 17 := by omega
              rcases hi0 with rfl | rfl | rfl | rfl | rfl | rfl | rfl | rfl | rfl | rfl | rfl | rfl | rfl | rfl | rfl | rfl | rfl | rfl
              · injection ho with ho; subst ho
                simp only [List.take_succ_cons, List.take_zero, putsD]
                go_simp
                exact hK _ _ u1 k9 rfl rfl (grown_refl _ _) hc (by omega) (rfl)
              · injection ho with ho; subst ho
                have hl := hc.lt
                simp only [List.take_succ_cons, List.take_zero, putsD]
                go_simp
                exact hK _ (.slice (some ⟨u1.heap.size, 0, none⟩) 4 4) (u1.alloc (.cells (cells1 [5, 17, 999, 1000]).toArray 3)) k9 rfl rfl (World.grownBy_alloc u1 _ _) (hc.alloc _) (by omega) ⟨_, 4, 4, [5, 17, 999, 1000], rfl, rfl, by decide, by decide, rd_ints (w := u1) [5, 17, 999, 1000] 3, fun g o q e => by injection e with e; injection e with e; omega⟩
              · injection ho with ho; subst ho
                have d0 : vals 0 = .pointer (some ⟨p, 0, none⟩) := hv ⟨0, .data⟩ (by simp) rfl
                obtain ⟨B, nb, cb, zs, d1, hzs, hn1, hn2, hB, hBf⟩ : VK p w1.heap.size (.slice (some ⟨g, o, none⟩) n c) (.int .i64 j) ⟨g, o + j * 5, none⟩ 1 (vals 1) u1 := hv ⟨1, .data⟩ (by simp) rfl
                simp only [List.take_succ_cons, List.take_zero, putsD, d0, d1]
                go_simp
                refine (AM.out k9 nb cb B zs u1 hc (by omega) hzs hn1 hn2 hB hBf).mono ?_
                rintro e w' ⟨v, k', rfl, ⟨z', -, rfl⟩, hk', hc', hg'⟩
                exact hK _ (.int .i64 z') w' k' rfl rfl hg' hc' (by omega) ⟨z', rfl⟩
              · injection ho with ho; subst ho
                simp only [List.take_succ_cons, List.take_zero, putsD]
                go_simp
                exact hK _ _ u1 k9 rfl rfl (grown_refl _ _) hc (by omega) (rfl)
              · injection ho with ho; subst ho
                simp only [List.take_succ_cons, List.take_zero, putsD]
                go_simp
                exact hK _ _ u1 k9 rfl rfl (grown_refl _ _) hc (by omega) (⟨_, rfl⟩)
              · injection ho with ho; subst ho
                simp only [List.take_succ_cons, List.take_zero, putsD]
                go_simp
                exact hK _ _ u1 k9 rfl rfl (grown_refl _ _) hc (by omega) (⟨_, rfl⟩)
              · injection ho with ho; subst ho
                simp only [List.take_succ_cons, List.take_zero, putsD]
                go_simp
                exact hK _ _ u1 k9 rfl rfl (grown_refl _ _) hc (by omega) (⟨_, rfl⟩)
              · injection ho with ho; subst ho
                have e6 : vals 6 = .int .i64 (intVal (vals 6)) := VK.int (hv ⟨6, .data⟩ (by simp) rfl)
                generalize intVal (vals 6) = z6 at e6
                simp only [List.take_succ_cons, List.take_zero, putsD, e6]
                go_simp
                exact hK _ _ u1 k9 rfl rfl (grown_refl _ _) hc (by omega) (⟨_, rfl⟩)
              · injection ho with ho; subst ho
                simp only [List.take_succ_cons, List.take_zero, putsD]
                go_simp
                exact hK _ _ u1 k9 rfl rfl (grown_refl _ _) hc (by omega) (⟨_, rfl⟩)
              · injection ho with ho; subst ho
                have e8 : vals 8 = .int .i64 (intVal (vals 8)) := VK.int (hv ⟨8, .data⟩ (by simp) rfl)
                generalize intVal (vals 8) = z8 at e8
                simp only [List.take_succ_cons, List.take_zero, putsD, e8]
                go_simp
                exact hK _ _ u1 k9 rfl rfl (grown_refl _ _) hc (by omega) (⟨_, rfl⟩)
              · injection ho with ho; subst ho
                simp only [List.take_succ_cons, List.take_zero, putsD]
                go_simp
                exact hK _ _ u1 k9 rfl rfl (grown_refl _ _) hc (by omega) (rfl)
              · injection ho with ho; subst ho
                simp only [List.take_succ_cons, List.take_zero, putsD]
                go_simp
                exact hK _ _ u1 k9 rfl rfl (grown_refl _ _) hc (by omega) (rfl)
              · injection ho with ho; subst ho
                have e10 : vals 10 = .slice (some ⟨g, o, none⟩) n c := hv ⟨10, .data⟩ (by simp) rfl
                have e11 : vals 11 = .int .i64 j := hv ⟨11, .data⟩ (by simp) rfl
                simp only [List.take_succ_cons, List.take_zero, putsD, e10, e11]
                go_simp
                exact hK _ _ u1 k9 rfl rfl (grown_refl _ _) hc (by omega) (rfl)
              · injection ho with ho; subst ho
                have e12 : vals 12 = .pointer (some ⟨g, o + j * 5, none⟩) := hv ⟨12, .data⟩ (by simp) rfl
                simp only [List.take_succ_cons, List.take_zero, putsD, e12]
                go_simp
                exact hK _ _ u1 k9 rfl rfl (grown_refl _ _) hc (by omega) (rfl)
              · injection ho with ho; subst ho
                have e13 : vals 13 = .pointer (some ⟨g, o + j * 5 + 1, none⟩) := hv ⟨13, .data⟩ (by simp) rfl
                have c1 := rd_at5b (Rd.grown hg HA.out (fun g o q e => by have := HF.out g o q e; intro e2; injection e2 with e2; exact this e2)) hz
                simp only [List.take_succ_cons, List.take_zero, putsD, e13]
                go_simp
                exact hK _ _ u1 k9 rfl rfl (grown_refl _ _) hc (by omega) (⟨_, rfl⟩)
              · injection ho with ho; subst ho
                have e4 : vals 4 = .int .i64 (intVal (vals 4)) := VK.int (hv ⟨4, .data⟩ (by simp) rfl)
                generalize intVal (vals 4) = z4 at e4
                have e5 : vals 5 = .int .i64 (intVal (vals 5)) := VK.int (hv ⟨5, .data⟩ (by simp) rfl)
                generalize intVal (vals 5) = z5 at e5
                have e7 : vals 7 = .int .i64 (intVal (vals 7)) := VK.int (hv ⟨7, .data⟩ (by simp) rfl)
                generalize intVal (vals 7) = z7 at e7
                have e9 : vals 9 = .int .i64 (intVal (vals 9)) := VK.int (hv ⟨9, .data⟩ (by simp) rfl)
                generalize intVal (vals 9) = z9 at e9
                have e14 : vals 14 = .int .i64 (intVal (vals 14)) := VK.int (hv ⟨14, .data⟩ (by simp) rfl)
                generalize intVal (vals 14) = z14 at e14
                have hl := hc.lt
                simp only [List.take_succ_cons, List.take_zero, putsD, e4, e5, e7, e9, e14]
                go_simp
                exact hK _ (.slice (some ⟨u1.heap.size, 0, none⟩) 6 6) (u1.alloc (.cells (cells1 [z4, z5, z7, z9, 99999, z14]).toArray 3)) k9 rfl rfl (World.grownBy_alloc u1 _ _) (hc.alloc _) (by omega) ⟨_, 6, 6, [z4, z5, z7, z9, 99999, z14], rfl, rfl, by decide, by decide, rd_ints (w := u1) [z4, z5, z7, z9, 99999, z14] 3, fun g o q e => by injection e with e; injection e with e; omega⟩
              · injection ho with ho; subst ho
                have d0 : vals 3 = .pointer (some ⟨p, 0, none⟩) := hv ⟨3, .data⟩ (by simp) rfl
                obtain ⟨B, nb, cb, zs, d1, hzs, hn1, hn2, hB, hBf⟩ : VK p w1.heap.size (.slice (some ⟨g, o, none⟩) n c) (.int .i64 j) ⟨g, o + j * 5, none⟩ 1 (vals 15) u1 := hv ⟨15, .data⟩ (by simp) rfl
                simp only [List.take_succ_cons, List.take_zero, putsD, d0, d1]
                go_simp
                refine (AM.out k9 nb cb B zs u1 hc (by omega) hzs hn1 hn2 hB hBf).mono ?_
                rintro e w' ⟨v, k', rfl, ⟨z', -, rfl⟩, hk', hc', hg'⟩
                exact hK _ (.int .i64 z') w' k' rfl rfl hg' hc' (by omega) ⟨z', rfl⟩
              · injection ho with ho; subst ho
                have e2 : vals 2 = .int .i64 (intVal (vals 2)) := VK.int (hv ⟨2, .data⟩ (by simp) rfl)
                generalize intVal (vals 2) = z2 at e2
                have e16 : vals 16 = .int .i64 (intVal (vals 16)) := VK.int (hv ⟨16, .data⟩ (by simp) rfl)
                generalize intVal (vals 16) = z16 at e16
                simp only [List.take_succ_cons, List.take_zero, putsD, e2, e16]
                go_simp
                exact hK _ _ u1 k9 rfl rfl (grown_refl _ _) hc (by omega) (⟨_, _, _, _, rfl⟩)
            · intro o' ho vals u1 k9 za zb zc zd hc hg hr e14 Kt Q' hK
              injection ho with ho; subst ho
              have e14 : vals 17 = _ := e14
              have hr4 : Blk u1 w.heap.size [.int .i64 0, .int .i64 0, .int .i64 0, .int .i64 0] := hr
              have r0 := hr4.cell 0 _ rfl
              have f0 := hr4.fr 0 (by simp)
              have r1 := hr4.cell 1 _ rfl
              have f1 := hr4.fr 1 (by simp)
              have r2 := hr4.cell 2 _ rfl
              have f2 := hr4.fr 2 (by simp)
              have r3 := hr4.cell 3 _ rfl
              have f3 := hr4.fr 3 (by simp)
              simp only [List.take_succ_cons, List.take_zero, putsD, e14]
              go_simp
              exact hK _ undef ((((u1.setCell ⟨w.heap.size, 0, none⟩ (.int .i64 za)).setCell ⟨w.heap.size, 1, none⟩ (.int .i64 zb)).setCell ⟨w.heap.size, 2, none⟩ (.int .i64 zc)).setCell ⟨w.heap.size, 3, none⟩ (.int .i64 zd)) rfl trivial (grown_other (grown_other (grown_other (grown_other hg (Nat.le_refl _) _ _) (Nat.le_refl _) _ _) (Nat.le_refl _) _ _) (Nat.le_refl _) _ _) ((((hc.other hp _).other hp _).other hp _).other hp _) ((((hr4.set (i := 0) (by simp) _).set (i := 1) (by simp) _).set (i := 2) (by simp) _).set (i := 3) (by simp) _)
            · intro vals u1 k9 za zb zc zd hk9' hc hg hr
              simp only [putsD]
              have hr4 : Blk u1 w.heap.size [.int .i64 za, .int .i64 zb, .int .i64 zc, .int .i64 zd] := hr
              have r0 := hr4.cell 0 _ rfl
              have r1 := hr4.cell 1 _ rfl
              have r2 := hr4.cell 2 _ rfl
              have r3 := hr4.cell 3 _ rfl
              go_wp2
              exact bodyPost_ret (v := .agg #[.int .i64 za, .int .i64 zb, .int .i64 zc, .int .i64 zd]) (by simp [results, Try.results17, go_sem, r0, r1, r2, r3]) rfl ⟨_, k9, rfl, ⟨_, _, _, _, rfl⟩, by omega, hc, hg⟩
  
  · have hn0 : n = 0 := by omega
    subst hn0
    go_wp2_with fail
    obtain ⟨w3, hw3⟩ : ∃ w3, w3 = w1.alloc (.cells #[.int .i64 z1, .int .i64 0, .int .i64 0, .int .i64 0, .int .i64 0] 36) := ⟨_, rfl⟩
    rw [← hw3] at KX1 KR1 HA1 HG1 HC1
    rw [← hw3]
    clear hw3
    have KX3 := KX1
    have KR3 := KR1
    have HA3 := HA1
    have HG3 := HG1
    have HC3 := HC1
    clear KX1 KR1 HA1 HG1 HC1
    obtain ⟨k2, hk2⟩ : ∃ k2, k2 = k1 := ⟨_, rfl⟩
    rw [← hk2] at HC3
    refine (ON.out k2 40 _ HC3.out (by omega) (by decide) (by decide)).mono ?_
    rintro e w4 ⟨v4, k4, rfl, ⟨b4, rfl⟩, hk4, hc, hg⟩
    have hl3 := HC3.out.lt
    have KX4 := KX3.grown hg (by simp; omega)
    have KR4 := KR3.grown hg (by simp; omega)
    have HG4 := Lib.hid (grown_trans HG3.out hg)
    have HC4 := Lib.hid hc
    clear HC3 KX3 KR3 HG3 HA3 hc hg
    cases b4 with
    | true =>
      go_wp2_with fail
      refine wp_region_cur (w := w) p w.heap.size w1.heap.size k4 15 undef undef ⟨0, 0, none⟩ u [.int .i64 z1, .int .i64 0, .int .i64 0, .int .i64 0, .int .i64 0] kindA [some 24, some 25, some 26, some 27, some 28, some 29, some 30, some 31, some 32, some 33, some 34, some 35, some 36, some 37, some 38, none] rfl (by kernel_rfl) (by kernel_rfl) rfl (by kernel_rfl) HC4.out HG4.out KR4 KX4 (by omega) (by omega) ?_ (by decide) rfl ?_ ?_
      · intro i o ho hi vals u1 k9 hc hk9 hg hx hv Kt Q' hK
        obtain hi0 : i = 0 ∨ i = 1 ∨ i = 2 ∨ i = 3 ∨ i = 4 ∨ i = 5 ∨ i = 6 ∨ i = 7 ∨ i = 8 ∨ i = 9 ∨ i = 10 ∨ i = 11 ∨ i = 12 ∨ i = 13 ∨ i = 14 := by omega
        rcases hi0 with rfl | rfl | rfl | rfl | rfl | rfl | rfl | rfl | rfl | rfl | rfl | rfl | rfl | rfl | rfl
        · injection ho with ho; subst ho
          simp only [List.take_succ_cons, List.take_zero, putsD]
          go_simp
          exact hK _ (.pointer (some ⟨p, 0, none⟩)) u1 k9 rfl rfl (grown_refl _ _) hc (by omega) (rfl)
        · injection ho with ho; subst ho
          have hl := hc.lt
          simp only [List.take_succ_cons, List.take_zero, putsD]
          go_simp
          exact hK _ (.slice (some ⟨u1.heap.size, 0, none⟩) 4 4) (u1.alloc (.cells (cells1 [0, 7, 3, 4]).toArray 3)) k9 rfl rfl (World.grownBy_alloc u1 _ _) (hc.alloc _) (by omega) ⟨_, 4, 4, [0, 7, 3, 4], rfl, rfl, by decide, by decide, rd_ints (w := u1) [0, 7, 3, 4] 3, fun g o q e => by injection e with e; injection e with e; omega⟩
        · injection ho with ho; subst ho
          have d0 : vals 0 = .pointer (some ⟨p, 0, none⟩) := hv ⟨0, .data⟩ (by simp) rfl
          obtain ⟨B, nb, cb, zs, d1, hz, hn1, hn2, hB, hBf⟩ : VK p w1.heap.size undef undef ⟨0, 0, none⟩ 1 (vals 1) u1 := hv ⟨1, .data⟩ (by simp) rfl
          simp only [List.take_succ_cons, List.take_zero, putsD, d0, d1]
          go_simp
          refine (AM.out k9 nb cb B zs u1 hc (by omega) hz hn1 hn2 hB hBf).mono ?_
          rintro e w' ⟨v, k', rfl, ⟨z, -, rfl⟩, hk', hc', hg'⟩
          exact hK _ (.int .i64 z) w' k' rfl rfl hg' hc' (by omega) ⟨z, rfl⟩
        · injection ho with ho; subst ho
          simp only [List.take_succ_cons, List.take_zero, putsD]
          go_simp
          exact hK _ (.pointer (some ⟨p, 0, none⟩)) u1 k9 rfl rfl (grown_refl _ _) hc (by omega) (rfl)
        · injection ho with ho; subst ho
          simp only [List.take_succ_cons, List.take_zero, putsD]
          go_simp
          exact hK _ (.pointer (some ⟨w1.heap.size, 0, none⟩)) u1 k9 rfl rfl (grown_refl _ _) hc (by omega) (rfl)
        · injection ho with ho; subst ho
          have d0 : vals 4 = .pointer (some ⟨w1.heap.size, 0, none⟩) := hv ⟨4, .data⟩ (by simp) rfl
          have x0 := hx.cell 0 _ rfl
          simp only [List.take_succ_cons, List.take_zero, putsD, d0]
          go_simp
          exact hK _ (.int .i64 z1) u1 k9 rfl rfl (grown_refl _ _) hc (by omega) (⟨_, rfl⟩)
        · injection ho with ho; subst ho
          obtain ⟨z5, e5⟩ : ∃ z : Int, vals 5 = .int .i64 z := hv ⟨5, .data⟩ (by simp) rfl
          have hl := hc.lt
          simp only [List.take_succ_cons, List.take_zero, putsD, e5]
          go_simp
          exact hK _ (.slice (some ⟨u1.heap.size, 0, none⟩) 3 3) (u1.alloc (.cells (cells1 [0, z5, 100]).toArray 3)) k9 rfl rfl (World.grownBy_alloc u1 _ _) (hc.alloc _) (by omega) ⟨_, 3, 3, [0, z5, 100], rfl, rfl, by decide, by decide, rd_ints (w := u1) [0, z5, 100] 3, fun g o q e => by injection e with e; injection e with e; omega⟩
        · injection ho with ho; subst ho
          have d0 : vals 3 = .pointer (some ⟨p, 0, none⟩) := hv ⟨3, .data⟩ (by simp) rfl
          obtain ⟨B, nb, cb, zs, d1, hz, hn1, hn2, hB, hBf⟩ : VK p w1.heap.size undef undef ⟨0, 0, none⟩ 1 (vals 6) u1 := hv ⟨6, .data⟩ (by simp) rfl
          simp only [List.take_succ_cons, List.take_zero, putsD, d0, d1]
          go_simp
          refine (AM.out k9 nb cb B zs u1 hc (by omega) hz hn1 hn2 hB hBf).mono ?_
          rintro e w' ⟨v, k', rfl, ⟨z, -, rfl⟩, hk', hc', hg'⟩
          exact hK _ (.int .i64 z) w' k' rfl rfl hg' hc' (by omega) ⟨z, rfl⟩
        · injection ho with ho; subst ho
          simp only [List.take_succ_cons, List.take_zero, putsD]
          go_simp
          exact hK _ (.pointer (some ⟨p, 0, none⟩)) u1 k9 rfl rfl (grown_refl _ _) hc (by omega) (rfl)
        · injection ho with ho; subst ho
          have hl := hc.lt
          simp only [List.take_succ_cons, List.take_zero, putsD]
          go_simp
          exact hK _ (.slice (some ⟨u1.heap.size, 0, none⟩) 2 2) (u1.alloc (.cells (cells1 [0, 5]).toArray 3)) k9 rfl rfl (World.grownBy_alloc u1 _ _) (hc.alloc _) (by omega) ⟨_, 2, 2, [0, 5], rfl, rfl, by decide, by decide, rd_ints (w := u1) [0, 5] 3, fun g o q e => by injection e with e; injection e with e; omega⟩
        · injection ho with ho; subst ho
          have d0 : vals 8 = .pointer (some ⟨p, 0, none⟩) := hv ⟨8, .data⟩ (by simp) rfl
          obtain ⟨B, nb, cb, zs, d1, hz, hn1, hn2, hB, hBf⟩ : VK p w1.heap.size undef undef ⟨0, 0, none⟩ 1 (vals 9) u1 := hv ⟨9, .data⟩ (by simp) rfl
          simp only [List.take_succ_cons, List.take_zero, putsD, d0, d1]
          go_simp
          refine (AM.out k9 nb cb B zs u1 hc (by omega) hz hn1 hn2 hB hBf).mono ?_
          rintro e w' ⟨v, k', rfl, ⟨z, -, rfl⟩, hk', hc', hg'⟩
          exact hK _ (.int .i64 z) w' k' rfl rfl hg' hc' (by omega) ⟨z, rfl⟩
        · injection ho with ho; subst ho
          simp only [List.take_succ_cons, List.take_zero, putsD]
          go_simp
          exact hK _ (.pointer (some ⟨p, 0, none⟩)) u1 k9 rfl rfl (grown_refl _ _) hc (by omega) (rfl)
        · injection ho with ho; subst ho
          have hl := hc.lt
          simp only [List.take_succ_cons, List.take_zero, putsD]
          go_simp
          exact hK _ (.slice (some ⟨u1.heap.size, 0, none⟩) 3 3) (u1.alloc (.cells (cells1 [0, 1, (-1)]).toArray 3)) k9 rfl rfl (World.grownBy_alloc u1 _ _) (hc.alloc _) (by omega) ⟨_, 3, 3, [0, 1, (-1)], rfl, rfl, by decide, by decide, rd_ints (w := u1) [0, 1, (-1)] 3, fun g o q e => by injection e with e; injection e with e; omega⟩
        · injection ho with ho; subst ho
          have d0 : vals 11 = .pointer (some ⟨p, 0, none⟩) := hv ⟨11, .data⟩ (by simp) rfl
          obtain ⟨B, nb, cb, zs, d1, hz, hn1, hn2, hB, hBf⟩ : VK p w1.heap.size undef undef ⟨0, 0, none⟩ 1 (vals 12) u1 := hv ⟨12, .data⟩ (by simp) rfl
          simp only [List.take_succ_cons, List.take_zero, putsD, d0, d1]
          go_simp
          refine (AM.out k9 nb cb B zs u1 hc (by omega) hz hn1 hn2 hB hBf).mono ?_
          rintro e w' ⟨v, k', rfl, ⟨z, -, rfl⟩, hk', hc', hg'⟩
          exact hK _ (.int .i64 z) w' k' rfl rfl hg' hc' (by omega) ⟨z, rfl⟩
        · injection ho with ho; subst ho
          obtain ⟨z2, e2⟩ : ∃ z : Int, vals 2 = .int .i64 z := hv ⟨2, .data⟩ (by simp) rfl
          obtain ⟨z7, e7⟩ : ∃ z : Int, vals 7 = .int .i64 z := hv ⟨7, .data⟩ (by simp) rfl
          obtain ⟨z10, e10⟩ : ∃ z : Int, vals 10 = .int .i64 z := hv ⟨10, .data⟩ (by simp) rfl
          obtain ⟨z13, e13⟩ : ∃ z : Int, vals 13 = .int .i64 z := hv ⟨13, .data⟩ (by simp) rfl
          simp only [List.take_succ_cons, List.take_zero, putsD, e2, e7, e10, e13]
          go_simp
          exact hK _ (.agg #[.int .i64 z2, .int .i64 z7, .int .i64 z10, .int .i64 z13]) u1 k9 rfl rfl (grown_refl _ _) hc (by omega) (⟨_, _, _, _, rfl⟩)
      · intro o ho vals u1 k9 za zb zc zd hc hg hr e14 Kt Q' hK
        injection ho with ho; subst ho
        have e14 : vals 14 = _ := e14
        have hr4 : Blk u1 w.heap.size [.int .i64 0, .int .i64 0, .int .i64 0, .int .i64 0] := hr
        have r0 := hr4.cell 0 _ rfl
        have f0 := hr4.fr 0 (by simp)
        have r1 := hr4.cell 1 _ rfl
        have f1 := hr4.fr 1 (by simp)
        have r2 := hr4.cell 2 _ rfl
        have f2 := hr4.fr 2 (by simp)
        have r3 := hr4.cell 3 _ rfl
        have f3 := hr4.fr 3 (by simp)
        simp only [List.take_succ_cons, List.take_zero, putsD, e14]
        go_simp
        exact hK _ undef ((((u1.setCell ⟨w.heap.size, 0, none⟩ (.int .i64 za)).setCell ⟨w.heap.size, 1, none⟩ (.int .i64 zb)).setCell ⟨w.heap.size, 2, none⟩ (.int .i64 zc)).setCell ⟨w.heap.size, 3, none⟩ (.int .i64 zd)) rfl trivial (grown_other (grown_other (grown_other (grown_other hg (Nat.le_refl _) _ _) (Nat.le_refl _) _ _) (Nat.le_refl _) _ _) (Nat.le_refl _) _ _) ((((hc.other hp _).other hp _).other hp _).other hp _) ((((hr4.set (i := 0) (by simp) _).set (i := 1) (by simp) _).set (i := 2) (by simp) _).set (i := 3) (by simp) _)
      · intro vals u1 k9 za zb zc zd hk9 hc hg hr
        simp only [putsD]
        have hr4 : Blk u1 w.heap.size [.int .i64 za, .int .i64 zb, .int .i64 zc, .int .i64 zd] := hr
        have r0 := hr4.cell 0 _ rfl
        have r1 := hr4.cell 1 _ rfl
        have r2 := hr4.cell 2 _ rfl
        have r3 := hr4.cell 3 _ rfl
        go_wp2
        exact bodyPost_ret (v := .agg #[.int .i64 za, .int .i64 zb, .int .i64 zc, .int .i64 zd]) (by simp [results, Try.results17, go_sem, r0, r1, r2, r3]) rfl ⟨_, k9, rfl, ⟨_, _, _, _, rfl⟩, by omega, hc, hg⟩
    | false =>
      go_wp2_with fail
      have HA4 : Hid (Rd w4 A (cells5 xs)) := Lib.hid (Rd.grown HG4.out HA.out (fun g o q e => by have := HF.out g o q e; intro e2; injection e2 with e2; exact this e2))
      refine (l29Open_any _ _ c xs _ HN.out HA4.out (by omega)).mono ?_
      rintro e w5 ⟨rfl, rfl⟩
      rcases idxV_cases isOpen xs with ⟨e, -⟩ | ⟨j, z, e, hz, hp1, -⟩
      · rw [e]
        obtain ⟨kc, hkc⟩ : ∃ kc, kc = k4 := ⟨_, rfl⟩
        rw [← hkc] at HC4 hk4
        go_wp2_with fail
        refine (PK.out kc 8 _ HC4.out (by omega) (by decide) (by decide)).mono ?_
        rintro e w8 ⟨v8, k8, rfl, ⟨r8, rfl, a8, b8⟩, hk8, hc, hg⟩
        have hl4 := HC4.out.lt
        have KX5 := KX4.grown hg (by simp; omega)
        have KR5 := KR4.grown hg (by simp; omega)
        have HG5 := Lib.hid (grown_trans HG4.out hg)
        have HC5 := Lib.hid hc
        clear KX4 KR4 HG4 HC4 hl4 hc hg
        have KX4 := KX5
        have KR4 := KR5
        have HG4 := HG5
        have HC4 := HC5
        clear KX5 KR5 HG5 HC5
        have h8 : r8 = 0 ∨ r8 = 1 ∨ r8 = 2 ∨ r8 = 3 ∨ r8 = 4 ∨ r8 = 5 ∨ r8 = 6 ∨ r8 = 7 := by simp at b8; omega
        clear a8 b8
        rcases h8 with rfl | rfl | rfl | rfl | rfl | rfl | rfl | rfl
        · have x0 := KX4.cell 0 _ rfl
          go_wp2_with fail
          refine (AM.out k8 7 _ (some ⟨w8.heap.size, 0, none⟩) [1, 7, 20, 33, 98, 99, 100] _ (HC4.out.alloc _) (by omega) rfl (by decide) (by decide) (rd_ints (w := w8) [1, 7, 20, 33, 98, 99, 100] 3) (fun g o q e => by have := HC4.out.lt; injection e with e; injection e with e; omega)).mono ?_
          rintro e w9 ⟨v9, k9, rfl, ⟨z9, -, rfl⟩, hk9, hc, hg0⟩
          have hg := grown_trans (World.grownBy_alloc w8 _ _) hg0
          clear hg0 x0
          have hl4 := HC4.out.lt
          have KX5 := KX4.grown hg (by simp; omega)
          have KR5 := KR4.grown hg (by simp; omega)
          have HG5 := Lib.hid (grown_trans HG4.out hg)
          have HC5 := Lib.hid hc
          clear KX4 KR4 HG4 HC4 hl4 hc hg
          have KX4 := KX5
          have KR4 := KR5
          have HG4 := HG5
          have HC4 := HC5
          clear KX5 KR5 HG5 HC5
          go_wp2_with fail
          refine (AM.out k9 5 _ (some ⟨w9.heap.size, 0, none⟩) [0, 1, 50, 99999, 100000] _ (HC4.out.alloc _) (by omega) rfl (by decide) (by decide) (rd_ints (w := w9) [0, 1, 50, 99999, 100000] 3) (fun g o q e => by have := HC4.out.lt; injection e with e; injection e with e; omega)).mono ?_
          rintro e w10 ⟨v10, k10, rfl, ⟨z10, -, rfl⟩, hk10, hc, hg0⟩
          have hg := grown_trans (World.grownBy_alloc w9 _ _) hg0
          clear hg0
          have hl4 := HC4.out.lt
          have KX5 := KX4.grown hg (by simp; omega)
          have KR5 := KR4.grown hg (by simp; omega)
          have HG5 := Lib.hid (grown_trans HG4.out hg)
          have HC5 := Lib.hid hc
          clear KX4 KR4 HG4 HC4 hl4 hc hg
          have KX4 := KX5
          have KR4 := KR5
          have HG4 := HG5
          have HC4 := HC5
          clear KX5 KR5 HG5 HC5
          have hl4 := HC4.out.lt
          have r0 := KR4.cell 0 _ rfl
          have f0 := KR4.fr 0 (by simp)
          have r1 := KR4.cell 1 _ rfl
          have f1 := KR4.fr 1 (by simp)
          have r2 := KR4.cell 2 _ rfl
          have f2 := KR4.fr 2 (by simp)
          have r3 := KR4.cell 3 _ rfl
          have f3 := KR4.fr 3 (by simp)
          go_wp2
          exact bodyPost_ret (v := .agg #[.int .i64 1, .int .i64 z9, .int .i64 0, .int .i64 z10]) (by simp [results, Try.results17, go_sem, r0, r1, r2, r3]) rfl ⟨_, k10, rfl, ⟨_, _, _, _, rfl⟩, by omega, ((((HC4.out.other hp _).other hp _).other hp _).other hp _), (grown_other (grown_other (grown_other (grown_other HG4.out (Nat.le_refl _) _ _) (Nat.le_refl _) _ _) (Nat.le_refl _) _ _) (Nat.le_refl _) _ _)⟩
        · have x0 := KX4.cell 0 _ rfl
          go_wp2_with fail
          refine (AM.out k8 7 _ (some ⟨w8.heap.size, 0, none⟩) [1, 7, 20, 33, 98, 99, 100] _ (HC4.out.alloc _) (by omega) rfl (by decide) (by decide) (rd_ints (w := w8) [1, 7, 20, 33, 98, 99, 100] 3) (fun g o q e => by have := HC4.out.lt; injection e with e; injection e with e; omega)).mono ?_
          rintro e w9 ⟨v9, k9, rfl, ⟨z9, -, rfl⟩, hk9, hc, hg0⟩
          have hg := grown_trans (World.grownBy_alloc w8 _ _) hg0
          clear hg0 x0
          have hl4 := HC4.out.lt
          have KX5 := KX4.grown hg (by simp; omega)
          have KR5 := KR4.grown hg (by simp; omega)
          have HG5 := Lib.hid (grown_trans HG4.out hg)
          have HC5 := Lib.hid hc
          clear KX4 KR4 HG4 HC4 hl4 hc hg
          have KX4 := KX5
          have KR4 := KR5
          have HG4 := HG5
          have HC4 := HC5
          clear KX5 KR5 HG5 HC5
          go_wp2_with fail
          refine (AM.out k9 5 _ (some ⟨w9.heap.size, 0, none⟩) [0, 1, 50, 99999, 100000] _ (HC4.out.alloc _) (by omega) rfl (by decide) (by decide) (rd_ints (w := w9) [0, 1, 50, 99999, 100000] 3) (fun g o q e => by have := HC4.out.lt; injection e with e; injection e with e; omega)).mono ?_
          rintro e w10 ⟨v10, k10, rfl, ⟨z10, -, rfl⟩, hk10, hc, hg0⟩
          have hg := grown_trans (World.grownBy_alloc w9 _ _) hg0
          clear hg0
          have hl4 := HC4.out.lt
          have KX5 := KX4.grown hg (by simp; omega)
          have KR5 := KR4.grown hg (by simp; omega)
          have HG5 := Lib.hid (grown_trans HG4.out hg)
          have HC5 := Lib.hid hc
          clear KX4 KR4 HG4 HC4 hl4 hc hg
          have KX4 := KX5
          have KR4 := KR5
          have HG4 := HG5
          have HC4 := HC5
          clear KX5 KR5 HG5 HC5
          have hl4 := HC4.out.lt
          have r0 := KR4.cell 0 _ rfl
          have f0 := KR4.fr 0 (by simp)
          have r1 := KR4.cell 1 _ rfl
          have f1 := KR4.fr 1 (by simp)
          have r2 := KR4.cell 2 _ rfl
          have f2 := KR4.fr 2 (by simp)
          have r3 := KR4.cell 3 _ rfl
          have f3 := KR4.fr 3 (by simp)
          go_wp2
          exact bodyPost_ret (v := .agg #[.int .i64 1, .int .i64 z9, .int .i64 0, .int .i64 z10]) (by simp [results, Try.results17, go_sem, r0, r1, r2, r3]) rfl ⟨_, k10, rfl, ⟨_, _, _, _, rfl⟩, by omega, ((((HC4.out.other hp _).other hp _).other hp _).other hp _), (grown_other (grown_other (grown_other (grown_other HG4.out (Nat.le_refl _) _ _) (Nat.le_refl _) _ _) (Nat.le_refl _) _ _) (Nat.le_refl _) _ _)⟩
        · have x0 := KX4.cell 0 _ rfl
          go_wp2_with fail
          refine (AM.out k8 7 _ (some ⟨w8.heap.size, 0, none⟩) [1, 7, 20, 33, 98, 99, 100] _ (HC4.out.alloc _) (by omega) rfl (by decide) (by decide) (rd_ints (w := w8) [1, 7, 20, 33, 98, 99, 100] 3) (fun g o q e => by have := HC4.out.lt; injection e with e; injection e with e; omega)).mono ?_
          rintro e w9 ⟨v9, k9, rfl, ⟨z9, -, rfl⟩, hk9, hc, hg0⟩
          have hg := grown_trans (World.grownBy_alloc w8 _ _) hg0
          clear hg0 x0
          have hl4 := HC4.out.lt
          have KX5 := KX4.grown hg (by simp; omega)
          have KR5 := KR4.grown hg (by simp; omega)
          have HG5 := Lib.hid (grown_trans HG4.out hg)
          have HC5 := Lib.hid hc
          clear KX4 KR4 HG4 HC4 hl4 hc hg
          have KX4 := KX5
          have KR4 := KR5
          have HG4 := HG5
          have HC4 := HC5
          clear KX5 KR5 HG5 HC5
          go_wp2_with fail
          refine (AM.out k9 5 _ (some ⟨w9.heap.size, 0, none⟩) [0, 1, 50, 99999, 100000] _ (HC4.out.alloc _) (by omega) rfl (by decide) (by decide) (rd_ints (w := w9) [0, 1, 50, 99999, 100000] 3) (fun g o q e => by have := HC4.out.lt; injection e with e; injection e with e; omega)).mono ?_
          rintro e w10 ⟨v10, k10, rfl, ⟨z10, -, rfl⟩, hk10, hc, hg0⟩
          have hg := grown_trans (World.grownBy_alloc w9 _ _) hg0
          clear hg0
          have hl4 := HC4.out.lt
          have KX5 := KX4.grown hg (by simp; omega)
          have KR5 := KR4.grown hg (by simp; omega)
          have HG5 := Lib.hid (grown_trans HG4.out hg)
          have HC5 := Lib.hid hc
          clear KX4 KR4 HG4 HC4 hl4 hc hg
          have KX4 := KX5
          have KR4 := KR5
          have HG4 := HG5
          have HC4 := HC5
          clear KX5 KR5 HG5 HC5
          have hl4 := HC4.out.lt
          have r0 := KR4.cell 0 _ rfl
          have f0 := KR4.fr 0 (by simp)
          have r1 := KR4.cell 1 _ rfl
          have f1 := KR4.fr 1 (by simp)
          have r2 := KR4.cell 2 _ rfl
          have f2 := KR4.fr 2 (by simp)
          have r3 := KR4.cell 3 _ rfl
          have f3 := KR4.fr 3 (by simp)
          go_wp2
          exact bodyPost_ret (v := .agg #[.int .i64 1, .int .i64 z9, .int .i64 0, .int .i64 z10]) (by simp [results, Try.results17, go_sem, r0, r1, r2, r3]) rfl ⟨_, k10, rfl, ⟨_, _, _, _, rfl⟩, by omega, ((((HC4.out.other hp _).other hp _).other hp _).other hp _), (grown_other (grown_other (grown_other (grown_other HG4.out (Nat.le_refl _) _ _) (Nat.le_refl _) _ _) (Nat.le_refl _) _ _) (Nat.le_refl _) _ _)⟩
        · have x0 := KX4.cell 0 _ rfl
          have hl4 := HC4.out.lt
          have r0 := KR4.cell 0 _ rfl
          have f0 := KR4.fr 0 (by simp)
          have r1 := KR4.cell 1 _ rfl
          have f1 := KR4.fr 1 (by simp)
          have r2 := KR4.cell 2 _ rfl
          have f2 := KR4.fr 2 (by simp)
          have r3 := KR4.cell 3 _ rfl
          have f3 := KR4.fr 3 (by simp)
          go_wp2
          exact bodyPost_ret (v := .agg #[.int .i64 2, .int .i64 z1, .int .i64 0, .int .i64 0]) (by simp [results, Try.results17, go_sem, r0, r1, r2, r3]) rfl ⟨_, k8, rfl, ⟨_, _, _, _, rfl⟩, by omega, ((((HC4.out.other hp _).other hp _).other hp _).other hp _), (grown_other (grown_other (grown_other (grown_other HG4.out (Nat.le_refl _) _ _) (Nat.le_refl _) _ _) (Nat.le_refl _) _ _) (Nat.le_refl _) _ _)⟩
        · have x0 := KX4.cell 0 _ rfl
          have hl4 := HC4.out.lt
          have r0 := KR4.cell 0 _ rfl
          have f0 := KR4.fr 0 (by simp)
          have r1 := KR4.cell 1 _ rfl
          have f1 := KR4.fr 1 (by simp)
          have r2 := KR4.cell 2 _ rfl
          have f2 := KR4.fr 2 (by simp)
          have r3 := KR4.cell 3 _ rfl
          have f3 := KR4.fr 3 (by simp)
          go_wp2
          exact bodyPost_ret (v := .agg #[.int .i64 6, .int .i64 z1, .int .i64 0, .int .i64 0]) (by simp [results, Try.results17, go_sem, r0, r1, r2, r3]) rfl ⟨_, k8, rfl, ⟨_, _, _, _, rfl⟩, by omega, ((((HC4.out.other hp _).other hp _).other hp _).other hp _), (grown_other (grown_other (grown_other (grown_other HG4.out (Nat.le_refl _) _ _) (Nat.le_refl _) _ _) (Nat.le_refl _) _ _) (Nat.le_refl _) _ _)⟩
        · have x0 := KX4.cell 0 _ rfl
          have hl4 := HC4.out.lt
          have r0 := KR4.cell 0 _ rfl
          have f0 := KR4.fr 0 (by simp)
          have r1 := KR4.cell 1 _ rfl
          have f1 := KR4.fr 1 (by simp)
          have r2 := KR4.cell 2 _ rfl
          have f2 := KR4.fr 2 (by simp)
          have r3 := KR4.cell 3 _ rfl
          have f3 := KR4.fr 3 (by simp)
          go_wp2
          exact bodyPost_ret (v := .agg #[.int .i64 3, .int .i64 z1, .int .i64 0, .int .i64 0]) (by simp [results, Try.results17, go_sem, r0, r1, r2, r3]) rfl ⟨_, k8, rfl, ⟨_, _, _, _, rfl⟩, by omega, ((((HC4.out.other hp _).other hp _).other hp _).other hp _), (grown_other (grown_other (grown_other (grown_other HG4.out (Nat.le_refl _) _ _) (Nat.le_refl _) _ _) (Nat.le_refl _) _ _) (Nat.le_refl _) _ _)⟩
        · have x0 := KX4.cell 0 _ rfl
          have hl4 := HC4.out.lt
          have r0 := KR4.cell 0 _ rfl
          have f0 := KR4.fr 0 (by simp)
          have r1 := KR4.cell 1 _ rfl
          have f1 := KR4.fr 1 (by simp)
          have r2 := KR4.cell 2 _ rfl
          have f2 := KR4.fr 2 (by simp)
          have r3 := KR4.cell 3 _ rfl
          have f3 := KR4.fr 3 (by simp)
          go_wp2
          exact bodyPost_ret (v := .agg #[.int .i64 3, .int .i64 z1, .int .i64 0, .int .i64 0]) (by simp [results, Try.results17, go_sem, r0, r1, r2, r3]) rfl ⟨_, k8, rfl, ⟨_, _, _, _, rfl⟩, by omega, ((((HC4.out.other hp _).other hp _).other hp _).other hp _), (grown_other (grown_other (grown_other (grown_other HG4.out (Nat.le_refl _) _ _) (Nat.le_refl _) _ _) (Nat.le_refl _) _ _) (Nat.le_refl _) _ _)⟩
        · have x0 := KX4.cell 0 _ rfl
          have hl4 := HC4.out.lt
          have r0 := KR4.cell 0 _ rfl
          have f0 := KR4.fr 0 (by simp)
          have r1 := KR4.cell 1 _ rfl
          have f1 := KR4.fr 1 (by simp)
          have r2 := KR4.cell 2 _ rfl
          have f2 := KR4.fr 2 (by simp)
          have r3 := KR4.cell 3 _ rfl
          have f3 := KR4.fr 3 (by simp)
          go_wp2
          exact bodyPost_ret (v := .agg #[.int .i64 3, .int .i64 z1, .int .i64 0, .int .i64 0]) (by simp [results, Try.results17, go_sem, r0, r1, r2, r3]) rfl ⟨_, k8, rfl, ⟨_, _, _, _, rfl⟩, by omega, ((((HC4.out.other hp _).other hp _).other hp _).other hp _), (grown_other (grown_other (grown_other (grown_other HG4.out (Nat.le_refl _) _ _) (Nat.le_refl _) _ _) (Nat.le_refl _) _ _) (Nat.le_refl _) _ _)⟩
      · rw [e]
        have hj : j < 0 := by have := (List.getElem?_eq_some_iff.1 hz).1; have := HN.out; omega
        omega
end Go.Proofs.Ytjnbcippipookaa
