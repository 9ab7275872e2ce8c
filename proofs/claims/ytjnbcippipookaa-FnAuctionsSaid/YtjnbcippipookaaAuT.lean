/- A step of an auction: the reference: a step with the open lot. -/
import Derived.Test.YtjnbcippipookaaAuS
import Derived.Test.YtjnbcippipookaaCur
namespace Go.Proofs.Ytjnbcippipookaa
set_option linter.unusedVariables false
set_option linter.unusedSimpArgs false
open Go.RowKit

/-- The call returns a list of lots in new memory and a Bool; the list is L where the Bool is true. -/
def RetMk (ok : Bool) (L : List R5) (W : World) : Ending → World → Prop := fun e w' => ∃ v L', e = .returned (.tuple #[v, .bool ok]) ∧ w'.ownsRow W.heap.size 36 5 v L'.length (cells5 L') ∧ (ok = true → L' = L) ∧ Below W.heap.size W w'
theorem hbw {w : World} (o : Obj) : Below w.heap.size w (w.alloc o) := (Below.refl _ _).alloc (Nat.le_refl _) o
theorem own_len {w : World} {B n : Nat} {v : Value} {L : List R5} (h : w.ownsRow B 36 5 v n (cells5 L)) (hl : L.length = n) : w.ownsRow B 36 5 v L.length (cells5 L) := by rw [hl]; exact h

theorem box_st {w w3 : World} {p q : Value} (h : Below w.heap.size w w3) : Below w.heap.size w ((w3.setCell ⟨w.heap.size + 1, 3, none⟩ p).setCell ⟨w.heap.size + 1, 4, none⟩ q) :=
  (h.setCell (by simp) p).setCell (by simp) q
theorem box_k2 (w : World) (o1 o2 : Obj) : Below w.heap.size w ((w.alloc o1).alloc o2) := (hbw o1).alloc (by simp) o2
set_option maxRecDepth 20000 in
set_option maxHeartbeats 4000000 in
theorem l29Sell4 (A : Option Addr) (n c : Nat) (xs : List R5) (i b v : Int) (w : World) (hn : xs.length = n) (hA : Rd w A (cells5 xs)) (hv : auc xs = true) :
    Calls Try.prog 42 #[.slice A n c, .agg #[.int .i64 4, .int .i64 i, .int .i64 b, .int .i64 v]] w (RetMk (stB xs 4 i b v) (stL xs 4 i b v) w) := by
  have n8 : n ≤ 8 := by have := auc_len hv; omega
  have CO := Lib.hid (fun w h => l29Open_any A n c xs w hn h (by omega))
  have HA := Lib.hid hA
  clear hA
  rcases open_cases hv with hi | ⟨j, x, hi, hj, hx, hxc, hlt⟩
  · rw [hi] at CO
    obtain ⟨e1, -⟩ := st_no (stO_45n i b v (by omega) hi : stO xs 4 i b v = none)
    rw [e1]
    obtain ⟨L, hL⟩ : ∃ L, L = stL xs 4 i b v := ⟨_, rfl⟩
    rw [← hL]
    clear e1 hL hi hn hv
    go_enter Try.func42, Try.ntmps42
    go_wp2_with fail
    refine (CO.out _ (HA.out.alloc _)).mono ?_
    rintro e w1 ⟨rfl, rfl⟩
    go_wp2
    go_ret2
    exact ⟨_, [], rfl, own_empty' (by simp) (by simp), by simp, (hbw _).alloc (by simp) _⟩
  · rw [hi] at CO
    obtain ⟨g, o, hAe, hg, c0, c1, c2, c3, c4⟩ := (HA.out.alloc (.cells #[.int .i64 4, .int .i64 i, .int .i64 b, .int .i64 v] 26)).at5 hx
    subst hAe
    have hj5 : j < n := by omega
    have hj0 : (0 : Int) ≤ (j : Int) := by omega
    have hjn : (j : Int) < (n : Int) := by omega
    have HST := Lib.hid (stO_4 i b v hi hx)
    have hxd := (lot_bd hlt).2.2.1
    have CL := Lib.hid (fun w => l29Least_any x w hxd)
    have CW := Lib.hid (fun w h => l29With_any (some ⟨g, o, none⟩) n c xs j { x with d := v, e := b } x w hn h (by omega) hx)
    have HPL := Lib.hid (show (xs.set j { x with d := v, e := b }).length = n by rw [List.length_set, hn])
    obtain ⟨L, hL⟩ : ∃ L, L = leastV x := ⟨_, rfl⟩
    have HLE := Lib.hid hL
    rw [← hL] at CL
    clear hi hv hxc hlt hxd hL hx hn
    by_cases h1 : L ≤ v
    · have h1d : decide (L ≤ v) = true := by simp [h1]
      by_cases h2 : b = x.e
      · have h2d : (b != x.e) = false := by simp [h2]
        obtain ⟨e1, -⟩ := st_no (HST.out.trans (if_neg (fun h => h.2 h2)))
        rw [e1]
        obtain ⟨L1, hL1⟩ : ∃ L1, L1 = stL xs 4 i b v := ⟨_, rfl⟩
        rw [← hL1]
        clear e1 hL1
        have H2 := Lib.hid h2
        clear h2
        go_enter Try.func42, Try.ntmps42
        go_wp2_with fail
        refine (CO.out _ (HA.out.alloc _)).mono ?_
        rintro e w1 ⟨rfl, rfl⟩
        go_wp2_with fail
        refine wp_region_lat (w.heap.size + 2) (by kernel_rfl) (by kernel_rfl) ?_
        have LC := fun (u : Lat (w.heap.size + 2) ((w.alloc (.cells #[.int .i64 4, .int .i64 i, .int .i64 b, .int .i64 v] 26)).alloc (.cells #[.int .i64 x.a, .int .i64 x.b, .int .i64 x.c, .int .i64 x.d, .int .i64 x.e] 36))) => u.cell
        repeat (go_big_quiet_step ((go_at_call 32; (with_reducible exact lat_call _ (by simp) (CL.out _)))))
        refine wpQuiet_nil ?_
        intro w3 b3
        clear LC c0 c1 c2 c3 c4
        have HB3 : Hid (Below w.heap.size w w3) := Lib.hid (((hbw _).alloc (by simp) _).trans (b3.mono (by omega)))
        have K0 : Hid (Blk w3 w.heap.size [.int .i64 4, .int .i64 i, .int .i64 b, .int .i64 v]) := Lib.hid (((Blk.new w _ _).alloc _).below b3 (by omega))
        have K1 : Hid (Blk w3 (w.heap.size + 1) [.int .i64 x.a, .int .i64 x.b, .int .i64 x.c, .int .i64 x.d, .int .i64 x.e]) := Lib.hid (Blk.below (by simpa using Blk.new (w.alloc (.cells #[.int .i64 4, .int .i64 i, .int .i64 b, .int .i64 v] 26)) [.int .i64 x.a, .int .i64 x.b, .int .i64 x.c, .int .i64 x.d, .int .i64 x.e] 36) b3 (by omega))
        have hs3 : w.heap.size + 1 < w3.heap.size := K1.out.lt
        clear b3
        have y0 := K0.out.cell 0 _ rfl
        have y1 := K0.out.cell 1 _ rfl
        have y2 := K0.out.cell 2 _ rfl
        have y3 := K0.out.cell 3 _ rfl
        have z0 := K1.out.cell 0 _ rfl
        have z1 := K1.out.cell 1 _ rfl
        have z2 := K1.out.cell 2 _ rfl
        have z3 := K1.out.cell 3 _ rfl
        have z4 := K1.out.cell 4 _ rfl
        have f3 := K1.out.fr 3 (by simp)
        have f4 := K1.out.fr 4 (by simp)
        have HR : Hid (Rd ((w3.setCell ⟨w.heap.size + 1, 3, none⟩ (.int .i64 v)).setCell ⟨w.heap.size + 1, 4, none⟩ (.int .i64 b)) (some ⟨g, o, none⟩) (cells5 xs)) := Lib.hid (HA.out.below (box_st HB3.out))
        have HB5 : Hid (Below w.heap.size w ((w3.setCell ⟨w.heap.size + 1, 3, none⟩ (.int .i64 v)).setCell ⟨w.heap.size + 1, 4, none⟩ (.int .i64 b))) := Lib.hid (box_st HB3.out)
        go_wp2_with fail
        refine (CW.out _ HR.out).mono ?_
        rintro e w5 ⟨v5, rfl, o5, b5⟩
        have HB6 := Lib.hid (HB5.out.trans (b5.mono HB5.out.size))
        have HO6 := Lib.hid (own_mono o5 HB5.out.size)
        clear o5 b5 y0 y1 y2 y3 z0 z1 z2 z3 z4 f3 f4
        go_wp2
        go_ret2
        exact ⟨_, _, rfl, own_len HO6.out HPL.out, by simp, HB6.out⟩
      · have h2d : (b != x.e) = true := by simp [h2]
        obtain ⟨e1, e2⟩ := st_yes (HST.out.trans (if_pos ⟨by rw [← HLE.out]; exact h1, h2⟩))
        rw [e1, e2]
        clear e1 e2
        go_enter Try.func42, Try.ntmps42
        go_wp2_with fail
        refine (CO.out _ (HA.out.alloc _)).mono ?_
        rintro e w1 ⟨rfl, rfl⟩
        go_wp2_with fail
        refine wp_region_lat (w.heap.size + 2) (by kernel_rfl) (by kernel_rfl) ?_
        have LC := fun (u : Lat (w.heap.size + 2) ((w.alloc (.cells #[.int .i64 4, .int .i64 i, .int .i64 b, .int .i64 v] 26)).alloc (.cells #[.int .i64 x.a, .int .i64 x.b, .int .i64 x.c, .int .i64 x.d, .int .i64 x.e] 36))) => u.cell
        repeat (go_big_quiet_step ((go_at_call 32; (with_reducible exact lat_call _ (by simp) (CL.out _)))))
        refine wpQuiet_nil ?_
        intro w3 b3
        clear LC c0 c1 c2 c3 c4
        have HB3 : Hid (Below w.heap.size w w3) := Lib.hid (((hbw _).alloc (by simp) _).trans (b3.mono (by omega)))
        have K0 : Hid (Blk w3 w.heap.size [.int .i64 4, .int .i64 i, .int .i64 b, .int .i64 v]) := Lib.hid (((Blk.new w _ _).alloc _).below b3 (by omega))
        have K1 : Hid (Blk w3 (w.heap.size + 1) [.int .i64 x.a, .int .i64 x.b, .int .i64 x.c, .int .i64 x.d, .int .i64 x.e]) := Lib.hid (Blk.below (by simpa using Blk.new (w.alloc (.cells #[.int .i64 4, .int .i64 i, .int .i64 b, .int .i64 v] 26)) [.int .i64 x.a, .int .i64 x.b, .int .i64 x.c, .int .i64 x.d, .int .i64 x.e] 36) b3 (by omega))
        have hs3 : w.heap.size + 1 < w3.heap.size := K1.out.lt
        clear b3
        have y0 := K0.out.cell 0 _ rfl
        have y1 := K0.out.cell 1 _ rfl
        have y2 := K0.out.cell 2 _ rfl
        have y3 := K0.out.cell 3 _ rfl
        have z0 := K1.out.cell 0 _ rfl
        have z1 := K1.out.cell 1 _ rfl
        have z2 := K1.out.cell 2 _ rfl
        have z3 := K1.out.cell 3 _ rfl
        have z4 := K1.out.cell 4 _ rfl
        have f3 := K1.out.fr 3 (by simp)
        have f4 := K1.out.fr 4 (by simp)
        have HR : Hid (Rd ((w3.setCell ⟨w.heap.size + 1, 3, none⟩ (.int .i64 v)).setCell ⟨w.heap.size + 1, 4, none⟩ (.int .i64 b)) (some ⟨g, o, none⟩) (cells5 xs)) := Lib.hid (HA.out.below (box_st HB3.out))
        have HB5 : Hid (Below w.heap.size w ((w3.setCell ⟨w.heap.size + 1, 3, none⟩ (.int .i64 v)).setCell ⟨w.heap.size + 1, 4, none⟩ (.int .i64 b))) := Lib.hid (box_st HB3.out)
        go_wp2_with fail
        refine (CW.out _ HR.out).mono ?_
        rintro e w5 ⟨v5, rfl, o5, b5⟩
        have HB6 := Lib.hid (HB5.out.trans (b5.mono HB5.out.size))
        have HO6 := Lib.hid (own_mono o5 HB5.out.size)
        clear o5 b5 y0 y1 y2 y3 z0 z1 z2 z3 z4 f3 f4
        go_wp2
        go_ret2
        exact ⟨_, _, rfl, own_len HO6.out HPL.out, fun _ => rfl, HB6.out⟩
    · have h1d : decide (L ≤ v) = false := by simp; omega
      have h1n : v < L := by omega
      obtain ⟨e1, -⟩ := st_no (HST.out.trans (if_neg (fun h => h1 (by rw [HLE.out]; exact h.1))))
      rw [e1]
      obtain ⟨L1, hL1⟩ : ∃ L1, L1 = stL xs 4 i b v := ⟨_, rfl⟩
      rw [← hL1]
      clear e1 hL1
      go_enter Try.func42, Try.ntmps42
      go_wp2_with fail
      refine (CO.out _ (HA.out.alloc _)).mono ?_
      rintro e w1 ⟨rfl, rfl⟩
      go_wp2_with fail
      refine wp_region_lat (w.heap.size + 2) (by kernel_rfl) (by kernel_rfl) ?_
      have LC := fun (u : Lat (w.heap.size + 2) ((w.alloc (.cells #[.int .i64 4, .int .i64 i, .int .i64 b, .int .i64 v] 26)).alloc (.cells #[.int .i64 x.a, .int .i64 x.b, .int .i64 x.c, .int .i64 x.d, .int .i64 x.e] 36))) => u.cell
      repeat (go_big_quiet_step ((go_at_call 32; (with_reducible exact lat_call _ (by simp) (CL.out _)))))
      refine wpQuiet_nil ?_
      intro w3 b3
      clear LC c0 c1 c2 c3 c4
      have HB3 : Hid (Below w.heap.size w w3) := Lib.hid (((hbw _).alloc (by simp) _).trans (b3.mono (by omega)))
      have K0 : Hid (Blk w3 w.heap.size [.int .i64 4, .int .i64 i, .int .i64 b, .int .i64 v]) := Lib.hid (((Blk.new w _ _).alloc _).below b3 (by omega))
      have K1 : Hid (Blk w3 (w.heap.size + 1) [.int .i64 x.a, .int .i64 x.b, .int .i64 x.c, .int .i64 x.d, .int .i64 x.e]) := Lib.hid (Blk.below (by simpa using Blk.new (w.alloc (.cells #[.int .i64 4, .int .i64 i, .int .i64 b, .int .i64 v] 26)) [.int .i64 x.a, .int .i64 x.b, .int .i64 x.c, .int .i64 x.d, .int .i64 x.e] 36) b3 (by omega))
      have hs3 : w.heap.size + 1 < w3.heap.size := K1.out.lt
      clear b3
      have y0 := K0.out.cell 0 _ rfl
      have y1 := K0.out.cell 1 _ rfl
      have y2 := K0.out.cell 2 _ rfl
      have y3 := K0.out.cell 3 _ rfl
      have z0 := K1.out.cell 0 _ rfl
      have z1 := K1.out.cell 1 _ rfl
      have z2 := K1.out.cell 2 _ rfl
      have z3 := K1.out.cell 3 _ rfl
      have z4 := K1.out.cell 4 _ rfl
      have f3 := K1.out.fr 3 (by simp)
      have f4 := K1.out.fr 4 (by simp)
      have HR : Hid (Rd ((w3.setCell ⟨w.heap.size + 1, 3, none⟩ (.int .i64 v)).setCell ⟨w.heap.size + 1, 4, none⟩ (.int .i64 b)) (some ⟨g, o, none⟩) (cells5 xs)) := Lib.hid (HA.out.below (box_st HB3.out))
      have HB5 : Hid (Below w.heap.size w ((w3.setCell ⟨w.heap.size + 1, 3, none⟩ (.int .i64 v)).setCell ⟨w.heap.size + 1, 4, none⟩ (.int .i64 b))) := Lib.hid (box_st HB3.out)
      go_wp2_with fail
      refine (CW.out _ HR.out).mono ?_
      rintro e w5 ⟨v5, rfl, o5, b5⟩
      have HB6 := Lib.hid (HB5.out.trans (b5.mono HB5.out.size))
      have HO6 := Lib.hid (own_mono o5 HB5.out.size)
      clear o5 b5 y0 y1 y2 y3 z0 z1 z2 z3 z4 f3 f4
      go_wp2
      go_ret2
      exact ⟨_, _, rfl, own_len HO6.out HPL.out, by simp, HB6.out⟩

set_option maxRecDepth 20000 in
set_option maxHeartbeats 4000000 in
theorem l29Sell5 (A : Option Addr) (n c : Nat) (xs : List R5) (i b v : Int) (w : World) (hn : xs.length = n) (hA : Rd w A (cells5 xs)) (hv : auc xs = true) :
    Calls Try.prog 42 #[.slice A n c, .agg #[.int .i64 5, .int .i64 i, .int .i64 b, .int .i64 v]] w (RetMk (stB xs 5 i b v) (stL xs 5 i b v) w) := by
  have n8 : n ≤ 8 := by have := auc_len hv; omega
  have CO := Lib.hid (fun w h => l29Open_any A n c xs w hn h (by omega))
  have HA := Lib.hid hA
  clear hA
  rcases open_cases hv with hi | ⟨j, x, hi, hj, hx, hxc, hlt⟩
  · rw [hi] at CO
    obtain ⟨e1, -⟩ := st_no (stO_45n i b v (by omega) hi : stO xs 5 i b v = none)
    rw [e1]
    obtain ⟨L, hL⟩ : ∃ L, L = stL xs 5 i b v := ⟨_, rfl⟩
    rw [← hL]
    clear e1 hL hi hn hv
    go_enter Try.func42, Try.ntmps42
    go_wp2_with fail
    refine (CO.out _ (HA.out.alloc _)).mono ?_
    rintro e w1 ⟨rfl, rfl⟩
    go_wp2
    go_ret2
    exact ⟨_, [], rfl, own_empty' (by simp) (by simp), by simp, (hbw _).alloc (by simp) _⟩
  · rw [hi] at CO
    obtain ⟨g, o, hAe, hg, c0, c1, c2, c3, c4⟩ := (HA.out.alloc (.cells #[.int .i64 5, .int .i64 i, .int .i64 b, .int .i64 v] 26)).at5 hx
    subst hAe
    have hj5 : j < n := by omega
    have hj0 : (0 : Int) ≤ (j : Int) := by omega
    have hjn : (j : Int) < (n : Int) := by omega
    have HST := Lib.hid (stO_5 i b v hi hx)
    have hxd := (lot_bd hlt).2.2.1
    have CW := Lib.hid (fun w h => l29With_any (some ⟨g, o, none⟩) n c xs j { x with c := knC x } x w hn h (by omega) hx)
    have HPL := Lib.hid (show (xs.set j { x with c := knC x }).length = n by rw [List.length_set, hn])
    obtain ⟨e1, e2⟩ := st_yes HST.out
    rw [e1, e2]
    clear e1 e2 hi hv hxc hlt hxd hx hn
    by_cases h1 : 1 ≤ x.d
    · by_cases h2 : x.b ≤ x.d
      · have hk : knC x = 2 := if_pos ⟨h1, h2⟩
        rw [hk] at CW HPL ⊢
        clear hk
        go_enter Try.func42, Try.ntmps42
        go_wp2_with fail
        refine (CO.out _ (HA.out.alloc _)).mono ?_
        rintro e w1 ⟨rfl, rfl⟩
        go_wp2_with fail
        refine (CW.out _ (HA.out.below (box_k2 _ _ _))).mono ?_
        rintro e w5 ⟨v5, rfl, o5, b5⟩
        have HB6 := Lib.hid (Below.trans (box_k2 _ _ _) (b5.mono (by simp <;> omega)))
        have HO6 := Lib.hid (own_mono (base' := w.heap.size) o5 (by simp <;> omega))
        clear o5 b5
        go_wp2
        go_ret2
        exact ⟨_, _, rfl, own_len HO6.out HPL.out, fun _ => rfl, HB6.out⟩
      · have hk : knC x = 3 := if_neg (fun h => h2 h.2)
        rw [hk] at CW HPL ⊢
        have h2n : x.d < x.b := by omega
        clear hk
        go_enter Try.func42, Try.ntmps42
        go_wp2_with fail
        refine (CO.out _ (HA.out.alloc _)).mono ?_
        rintro e w1 ⟨rfl, rfl⟩
        go_wp2_with fail
        refine (CW.out _ (HA.out.below (box_k2 _ _ _))).mono ?_
        rintro e w5 ⟨v5, rfl, o5, b5⟩
        have HB6 := Lib.hid (Below.trans (box_k2 _ _ _) (b5.mono (by simp <;> omega)))
        have HO6 := Lib.hid (own_mono (base' := w.heap.size) o5 (by simp <;> omega))
        clear o5 b5
        go_wp2
        go_ret2
        exact ⟨_, _, rfl, own_len HO6.out HPL.out, fun _ => rfl, HB6.out⟩
    · have hk : knC x = 3 := if_neg (fun h => h1 h.1)
      rw [hk] at CW HPL ⊢
      have h1n : x.d < 1 := by omega
      clear hk
      go_enter Try.func42, Try.ntmps42
      go_wp2_with fail
      refine (CO.out _ (HA.out.alloc _)).mono ?_
      rintro e w1 ⟨rfl, rfl⟩
      go_wp2_with fail
      refine (CW.out _ (HA.out.below (box_k2 _ _ _))).mono ?_
      rintro e w5 ⟨v5, rfl, o5, b5⟩
      have HB6 := Lib.hid (Below.trans (box_k2 _ _ _) (b5.mono (by simp <;> omega)))
      have HO6 := Lib.hid (own_mono (base' := w.heap.size) o5 (by simp <;> omega))
      clear o5 b5
      go_wp2
      go_ret2
      exact ⟨_, _, rfl, own_len HO6.out HPL.out, fun _ => rfl, HB6.out⟩
end Go.Proofs.Ytjnbcippipookaa
