/- The law FnExactUnderInsured returns true for every input: the two calls, of the reference and of the program, return the same value for all arguments, their arguments stay as they are, and results lie in new memory. No conditions. -/
import Derived.Test.YtkaljkgkllefcaaInsG
import Derived.Test.YtkaljkgkllefcaaInts
import Derived.Test.YtkaljkgkllefcaaOpen
namespace Go.Proofs.Ytkaljkgkllefcaa.lwUnderInsured
open Go.ChangeShapes Go.WideShapes Go.ChangeAt Go.RowKit
set_option linter.unusedVariables false

set_option maxHeartbeats 2000000 in
theorem walk (A0 : Option Addr) (n0 c0 : Nat) (xs0 : List R5) (A1 : Option Addr) (n1 c1 : Nat) (xs1 : List Int) (A2 : Option Addr) (n2 c2 : Nat) (xs2 : List Int) (z3 : Int) (w : World) (hn0 : xs0.length = n0) (hA0 : Rd w A0 (cells5 xs0)) (hm0 : n0 ≤ maxLen) (hn1 : xs1.length = n1) (hA1 : Rd w A1 (cells1 xs1)) (hm1 : n1 ≤ maxLen) (hn2 : xs2.length = n2) (hA2 : Rd w A2 (cells1 xs2)) (hm2 : n2 ≤ maxLen) (wz3 : (Lit.int .i64 z3).wf = true) :
    Calls Try.prog 11 #[.slice A0 n0 c0, .slice A1 n1 c1, .slice A2 n2 c2, .int .i64 z3] w (Ret (.bool true) w) := by
  by_cases hbig1 : (1048576 : Int) < n1
  · go_enter Try.func11, Try.ntmps11
    go_wp2
    go_ret
    exact ⟨rfl, Below.refl _ _⟩
  have hsm1 : (n1 : Int) ≤ 1048576 := by omega
  clear hbig1
  by_cases hbig2 : (1048576 : Int) < n2
  · go_enter Try.func11, Try.ntmps11
    go_wp2
    go_ret
    exact ⟨rfl, Below.refl _ _⟩
  have hsm2 : (n2 : Int) ≤ 1048576 := by omega
  clear hbig2
  by_cases hbig0 : (1048576 : Int) < n0
  · have e0 := Lib.hid (show szR (1048576) n0 = -1 by rw [szR, if_pos (by omega)])
    go_enter Try.func11, Try.ntmps11
    go_wp2_with fail
    refine (szInsuredS_any A0 n0 c0 (1048576) hm0 (by omega) (by omega) _).mono ?_
    rintro e w1 ⟨rfl, rfl⟩
    rw [e0.out]
    go_wp2
    go_ret
    exact ⟨rfl, Below.refl _ _⟩
  have e0 := Lib.hid (show szR (1048576) n0 = 1048576 - n0 by rw [szR, if_neg (by omega)])
  have h20_0 : n0 ≤ 1048576 := by omega
  have h20_1 : n1 ≤ 1048576 := by omega
  have h20_2 : n2 ≤ 1048576 := by omega
  go_enter Try.func11, Try.ntmps11
  go_wp2_with fail
  refine (szInsuredS_any A0 n0 c0 (1048576) hm0 (by omega) (by omega) _).mono ?_
  rintro e w1 ⟨rfl, rfl⟩
  rw [e0.out]
  have B0 := Below.refl w.heap.size w
  go_wp2_with fail
  refine (toInsuredS_any A0 n0 c0 xs0 _ hn0 (hA0.below B0) h20_0).mono ?_
  rintro e w1 ⟨v_s0, rfl, o_s0, b1⟩
  obtain ⟨A_s0, c_s0, rfl⟩ := own_form o_s0
  have B1 := B0.trans (b1.mono B0.size)
  have S1 := b1.size
  have ge_s0 := fun k hk => (o_s0.lt k hk).1
  have lt_s0 := fun k hk => (o_s0.lt k hk).2
  go_wp2_with fail
  refine (toIntS_any A1 n1 c1 xs1 _ hn1 (hA1.below B1) h20_1).mono ?_
  rintro e w2 ⟨v_s1, rfl, o_s1, b2⟩
  obtain ⟨A_s1, c_s1, rfl⟩ := own_form o_s1
  have B2 := B1.trans (b2.mono B1.size)
  have S2 := b2.size
  have o_s0' := own_below o_s0 b2
  clear o_s0
  have o_s0 := o_s0'
  clear o_s0'
  have ge_s1 := fun k hk => (o_s1.lt k hk).1
  have lt_s1 := fun k hk => (o_s1.lt k hk).2
  go_wp2_with fail
  refine (toIntS_any A2 n2 c2 xs2 _ hn2 (hA2.below B2) h20_2).mono ?_
  rintro e w3 ⟨v_s2, rfl, o_s2, b3⟩
  obtain ⟨A_s2, c_s2, rfl⟩ := own_form o_s2
  have B3 := B2.trans (b3.mono B2.size)
  have S3 := b3.size
  have o_s0' := own_below o_s0 b3
  clear o_s0
  have o_s0 := o_s0'
  clear o_s0'
  have o_s1' := own_below o_s1 b3
  clear o_s1
  have o_s1 := o_s1'
  clear o_s1'
  have ge_s2 := fun k hk => (o_s2.lt k hk).1
  have lt_s2 := fun k hk => (o_s2.lt k hk).2
  go_wp2_with fail
  refine (specUnderInsured_any _ _ _ xs0 _ _ _ xs1 _ _ _ xs2 z3 _ hn0 (Rd.of_own o_s0) h20_0 hn1 (Rd.of_own o_s1) h20_1 hn2 (Rd.of_own o_s2) h20_2).mono ?_
  rintro e w4 ⟨v_w0, rfl, o_w0, b4⟩
  obtain ⟨A_w0, c_w0, rfl⟩ := own_form o_w0
  have B4 := B3.trans (b4.mono B3.size)
  have S4 := b4.size
  have o_s0' := own_below o_s0 b4
  clear o_s0
  have o_s0 := o_s0'
  clear o_s0'
  have o_s1' := own_below o_s1 b4
  clear o_s1
  have o_s1 := o_s1'
  clear o_s1'
  have o_s2' := own_below o_s2 b4
  clear o_s2
  have o_s2 := o_s2'
  clear o_s2'
  have ge_w0 := fun k hk => (o_w0.lt k hk).1
  have lt_w0 := fun k hk => (o_w0.lt k hk).2
  go_wp2_with fail
  refine (toInsuredS_any A0 n0 c0 xs0 _ hn0 (hA0.below B4) h20_0).mono ?_
  rintro e w5 ⟨v_x0, rfl, o_x0, b5⟩
  obtain ⟨A_x0, c_x0, rfl⟩ := own_form o_x0
  have B5 := B4.trans (b5.mono B4.size)
  have S5 := b5.size
  have o_w0' := own_below o_w0 b5
  clear o_w0
  have o_w0 := o_w0'
  clear o_w0'
  have ge_x0 := fun k hk => (o_x0.lt k hk).1
  have lt_x0 := fun k hk => (o_x0.lt k hk).2
  go_wp2_with fail
  refine (toIntS_any A1 n1 c1 xs1 _ hn1 (hA1.below B5) h20_1).mono ?_
  rintro e w6 ⟨v_x1, rfl, o_x1, b6⟩
  obtain ⟨A_x1, c_x1, rfl⟩ := own_form o_x1
  have B6 := B5.trans (b6.mono B5.size)
  have S6 := b6.size
  have o_w0' := own_below o_w0 b6
  clear o_w0
  have o_w0 := o_w0'
  clear o_w0'
  have o_x0' := own_below o_x0 b6
  clear o_x0
  have o_x0 := o_x0'
  clear o_x0'
  have ge_x1 := fun k hk => (o_x1.lt k hk).1
  have lt_x1 := fun k hk => (o_x1.lt k hk).2
  go_wp2_with fail
  refine (toIntS_any A2 n2 c2 xs2 _ hn2 (hA2.below B6) h20_2).mono ?_
  rintro e w7 ⟨v_x2, rfl, o_x2, b7⟩
  obtain ⟨A_x2, c_x2, rfl⟩ := own_form o_x2
  have B7 := B6.trans (b7.mono B6.size)
  have S7 := b7.size
  have o_w0' := own_below o_w0 b7
  clear o_w0
  have o_w0 := o_w0'
  clear o_w0'
  have o_x0' := own_below o_x0 b7
  clear o_x0
  have o_x0 := o_x0'
  clear o_x0'
  have o_x1' := own_below o_x1 b7
  clear o_x1
  have o_x1 := o_x1'
  clear o_x1'
  have ge_x2 := fun k hk => (o_x2.lt k hk).1
  have lt_x2 := fun k hk => (o_x2.lt k hk).2
  go_wp2_with fail
  refine (implUnderInsured_any _ _ _ xs0 _ _ _ xs1 _ _ _ xs2 z3 _ hn0 (Rd.of_own o_x0) h20_0 hn1 (Rd.of_own o_x1) h20_1 hn2 (Rd.of_own o_x2) h20_2).mono ?_
  rintro e w8 ⟨v_g0, rfl, o_g0, b8⟩
  obtain ⟨A_g0, c_g0, rfl⟩ := own_form o_g0
  have B8 := B7.trans (b8.mono B7.size)
  have S8 := b8.size
  have o_w0' := own_below o_w0 b8
  clear o_w0
  have o_w0 := o_w0'
  clear o_w0'
  have o_x0' := own_below o_x0 b8
  clear o_x0
  have o_x0 := o_x0'
  clear o_x0'
  have o_x1' := own_below o_x1 b8
  clear o_x1
  have o_x1 := o_x1'
  clear o_x1'
  have o_x2' := own_below o_x2 b8
  clear o_x2
  have o_x2 := o_x2'
  clear o_x2'
  have ge_g0 := fun k hk => (o_g0.lt k hk).1
  have lt_g0 := fun k hk => (o_g0.lt k hk).2
  go_wp2_with fail
  refine (eqIntS_same _ _ _ _ _ (uiV xs0 xs1 xs2 z3) _ rfl (Rd.of_own o_g0) (Rd.of_own o_w0) (by have := ui_len xs0 xs1 xs2 z3; omega)).mono ?_
  rintro e w9 ⟨rfl, b9⟩
  have B9 := B8.trans (b9.mono B8.size)
  have S9 := b9.size
  have o_w0' := own_below o_w0 b9
  clear o_w0
  have o_w0 := o_w0'
  clear o_w0'
  have o_x0' := own_below o_x0 b9
  clear o_x0
  have o_x0 := o_x0'
  clear o_x0'
  have o_x1' := own_below o_x1 b9
  clear o_x1
  have o_x1 := o_x1'
  clear o_x1'
  have o_x2' := own_below o_x2 b9
  clear o_x2
  have o_x2 := o_x2'
  clear o_x2'
  have o_g0' := own_below o_g0 b9
  clear o_g0
  have o_g0 := o_g0'
  clear o_g0'
  go_wp2_with fail
  refine (toInsuredS_any A0 n0 c0 xs0 _ hn0 (hA0.below B9) h20_0).mono ?_
  rintro e w10 ⟨v_y0, rfl, o_y0, b10⟩
  obtain ⟨A_y0, c_y0, rfl⟩ := own_form o_y0
  have B10 := B9.trans (b10.mono B9.size)
  have S10 := b10.size
  have o_w0' := own_below o_w0 b10
  clear o_w0
  have o_w0 := o_w0'
  clear o_w0'
  have o_x0' := own_below o_x0 b10
  clear o_x0
  have o_x0 := o_x0'
  clear o_x0'
  have o_x1' := own_below o_x1 b10
  clear o_x1
  have o_x1 := o_x1'
  clear o_x1'
  have o_x2' := own_below o_x2 b10
  clear o_x2
  have o_x2 := o_x2'
  clear o_x2'
  have o_g0' := own_below o_g0 b10
  clear o_g0
  have o_g0 := o_g0'
  clear o_g0'
  have ge_y0 := fun k hk => (o_y0.lt k hk).1
  have lt_y0 := fun k hk => (o_y0.lt k hk).2
  go_wp2_with fail
  refine (eqInsuredS_same _ _ _ _ _ (xs0) _ hn0 (Rd.of_own o_x0) (Rd.of_own o_y0) h20_0).mono ?_
  rintro e w11 ⟨rfl, b11⟩
  have B11 := B10.trans (b11.mono B10.size)
  have S11 := b11.size
  have o_w0' := own_below o_w0 b11
  clear o_w0
  have o_w0 := o_w0'
  clear o_w0'
  have o_x0' := own_below o_x0 b11
  clear o_x0
  have o_x0 := o_x0'
  clear o_x0'
  have o_x1' := own_below o_x1 b11
  clear o_x1
  have o_x1 := o_x1'
  clear o_x1'
  have o_x2' := own_below o_x2 b11
  clear o_x2
  have o_x2 := o_x2'
  clear o_x2'
  have o_g0' := own_below o_g0 b11
  clear o_g0
  have o_g0 := o_g0'
  clear o_g0'
  have o_y0' := own_below o_y0 b11
  clear o_y0
  have o_y0 := o_y0'
  clear o_y0'
  go_wp2_with fail
  refine (toIntS_any A1 n1 c1 xs1 _ hn1 (hA1.below B11) h20_1).mono ?_
  rintro e w12 ⟨v_y1, rfl, o_y1, b12⟩
  obtain ⟨A_y1, c_y1, rfl⟩ := own_form o_y1
  have B12 := B11.trans (b12.mono B11.size)
  have S12 := b12.size
  have o_w0' := own_below o_w0 b12
  clear o_w0
  have o_w0 := o_w0'
  clear o_w0'
  have o_x0' := own_below o_x0 b12
  clear o_x0
  have o_x0 := o_x0'
  clear o_x0'
  have o_x1' := own_below o_x1 b12
  clear o_x1
  have o_x1 := o_x1'
  clear o_x1'
  have o_x2' := own_below o_x2 b12
  clear o_x2
  have o_x2 := o_x2'
  clear o_x2'
  have o_g0' := own_below o_g0 b12
  clear o_g0
  have o_g0 := o_g0'
  clear o_g0'
  have ge_y1 := fun k hk => (o_y1.lt k hk).1
  have lt_y1 := fun k hk => (o_y1.lt k hk).2
  go_wp2_with fail
  refine (eqIntS_same _ _ _ _ _ (xs1) _ hn1 (Rd.of_own o_x1) (Rd.of_own o_y1) h20_1).mono ?_
  rintro e w13 ⟨rfl, b13⟩
  have B13 := B12.trans (b13.mono B12.size)
  have S13 := b13.size
  have o_w0' := own_below o_w0 b13
  clear o_w0
  have o_w0 := o_w0'
  clear o_w0'
  have o_x0' := own_below o_x0 b13
  clear o_x0
  have o_x0 := o_x0'
  clear o_x0'
  have o_x1' := own_below o_x1 b13
  clear o_x1
  have o_x1 := o_x1'
  clear o_x1'
  have o_x2' := own_below o_x2 b13
  clear o_x2
  have o_x2 := o_x2'
  clear o_x2'
  have o_g0' := own_below o_g0 b13
  clear o_g0
  have o_g0 := o_g0'
  clear o_g0'
  have o_y1' := own_below o_y1 b13
  clear o_y1
  have o_y1 := o_y1'
  clear o_y1'
  go_wp2_with fail
  refine (toIntS_any A2 n2 c2 xs2 _ hn2 (hA2.below B13) h20_2).mono ?_
  rintro e w14 ⟨v_y2, rfl, o_y2, b14⟩
  obtain ⟨A_y2, c_y2, rfl⟩ := own_form o_y2
  have B14 := B13.trans (b14.mono B13.size)
  have S14 := b14.size
  have o_w0' := own_below o_w0 b14
  clear o_w0
  have o_w0 := o_w0'
  clear o_w0'
  have o_x0' := own_below o_x0 b14
  clear o_x0
  have o_x0 := o_x0'
  clear o_x0'
  have o_x1' := own_below o_x1 b14
  clear o_x1
  have o_x1 := o_x1'
  clear o_x1'
  have o_x2' := own_below o_x2 b14
  clear o_x2
  have o_x2 := o_x2'
  clear o_x2'
  have o_g0' := own_below o_g0 b14
  clear o_g0
  have o_g0 := o_g0'
  clear o_g0'
  have ge_y2 := fun k hk => (o_y2.lt k hk).1
  have lt_y2 := fun k hk => (o_y2.lt k hk).2
  go_wp2_with fail
  refine (eqIntS_same _ _ _ _ _ (xs2) _ hn2 (Rd.of_own o_x2) (Rd.of_own o_y2) h20_2).mono ?_
  rintro e w15 ⟨rfl, b15⟩
  have B15 := B14.trans (b15.mono B14.size)
  have S15 := b15.size
  have o_w0' := own_below o_w0 b15
  clear o_w0
  have o_w0 := o_w0'
  clear o_w0'
  have o_x0' := own_below o_x0 b15
  clear o_x0
  have o_x0 := o_x0'
  clear o_x0'
  have o_x1' := own_below o_x1 b15
  clear o_x1
  have o_x1 := o_x1'
  clear o_x1'
  have o_x2' := own_below o_x2 b15
  clear o_x2
  have o_x2 := o_x2'
  clear o_x2'
  have o_g0' := own_below o_g0 b15
  clear o_g0
  have o_g0 := o_g0'
  clear o_g0'
  have o_y2' := own_below o_y2 b15
  clear o_y2
  have o_y2 := o_y2'
  clear o_y2'
  go_wp2_with fail
  refine (markInsuredS_any _ _ _ _ (1) _ o_x0 h20_0 (by omega) (by omega)).mono ?_
  rintro e w16 ⟨rfl, om16, b16⟩
  have B16 := B15.trans (below_app o_x0 b16 B15.size (by omega))
  have S16 := b16.size
  have o_w0' := o_w0.kept b16 (rows_apart (fun k hk => (lt_w0 k hk)) (fun k hk => (ge_x0 k hk)) (by omega))
  clear o_w0
  have o_w0 := o_w0'
  clear o_w0'
  have o_x1' := o_x1.kept b16 (rows_apart' (fun k hk => (ge_x1 k hk)) (fun k hk => (lt_x0 k hk)) (by omega))
  clear o_x1
  have o_x1 := o_x1'
  clear o_x1'
  have o_x2' := o_x2.kept b16 (rows_apart' (fun k hk => (ge_x2 k hk)) (fun k hk => (lt_x0 k hk)) (by omega))
  clear o_x2
  have o_x2 := o_x2'
  clear o_x2'
  have o_g0' := o_g0.kept b16 (rows_apart' (fun k hk => (ge_g0 k hk)) (fun k hk => (lt_x0 k hk)) (by omega))
  clear o_g0
  have o_g0 := o_g0'
  clear o_g0'
  clear o_x0
  have o_x0 := om16
  clear om16
  go_wp2_with fail
  refine (markIntS_any _ _ _ _ (1 + 5 * (n0 : Nat)) _ o_x1 h20_1 (by omega) (by omega)).mono ?_
  rintro e w17 ⟨rfl, om17, b17⟩
  have B17 := B16.trans (below_app o_x1 b17 B16.size (by omega))
  have S17 := b17.size
  have o_w0' := o_w0.kept b17 (rows_apart (fun k hk => (lt_w0 k hk)) (fun k hk => (ge_x1 k hk)) (by omega))
  clear o_w0
  have o_w0 := o_w0'
  clear o_w0'
  have o_x0' := o_x0.kept b17 (rows_apart (fun k hk => (lt_x0 k hk)) (fun k hk => (ge_x1 k hk)) (by omega))
  clear o_x0
  have o_x0 := o_x0'
  clear o_x0'
  have o_x2' := o_x2.kept b17 (rows_apart' (fun k hk => (ge_x2 k hk)) (fun k hk => (lt_x1 k hk)) (by omega))
  clear o_x2
  have o_x2 := o_x2'
  clear o_x2'
  have o_g0' := o_g0.kept b17 (rows_apart' (fun k hk => (ge_g0 k hk)) (fun k hk => (lt_x1 k hk)) (by omega))
  clear o_g0
  have o_g0 := o_g0'
  clear o_g0'
  clear o_x1
  have o_x1 := om17
  clear om17
  go_wp2_with fail
  refine (markIntS_any _ _ _ _ (1 + 5 * (n0 : Nat) + (n1 : Nat)) _ o_x2 h20_2 (by omega) (by omega)).mono ?_
  rintro e w18 ⟨rfl, om18, b18⟩
  have B18 := B17.trans (below_app o_x2 b18 B17.size (by omega))
  have S18 := b18.size
  have o_w0' := o_w0.kept b18 (rows_apart (fun k hk => (lt_w0 k hk)) (fun k hk => (ge_x2 k hk)) (by omega))
  clear o_w0
  have o_w0 := o_w0'
  clear o_w0'
  have o_x0' := o_x0.kept b18 (rows_apart (fun k hk => (lt_x0 k hk)) (fun k hk => (ge_x2 k hk)) (by omega))
  clear o_x0
  have o_x0 := o_x0'
  clear o_x0'
  have o_x1' := o_x1.kept b18 (rows_apart (fun k hk => (lt_x1 k hk)) (fun k hk => (ge_x2 k hk)) (by omega))
  clear o_x1
  have o_x1 := o_x1'
  clear o_x1'
  have o_g0' := o_g0.kept b18 (rows_apart' (fun k hk => (ge_g0 k hk)) (fun k hk => (lt_x2 k hk)) (by omega))
  clear o_g0
  have o_g0 := o_g0'
  clear o_g0'
  clear o_x2
  have o_x2 := om18
  clear om18
  go_wp2_with fail
  refine (eqIntS_same _ _ _ _ _ (uiV xs0 xs1 xs2 z3) _ rfl (Rd.of_own o_g0) (Rd.of_own o_w0) (by have := ui_len xs0 xs1 xs2 z3; omega)).mono ?_
  rintro e w19 ⟨rfl, b19⟩
  have B19 := B18.trans (b19.mono B18.size)
  have S19 := b19.size
  have o_w0' := own_below o_w0 b19
  clear o_w0
  have o_w0 := o_w0'
  clear o_w0'
  have o_x0' := own_below o_x0 b19
  clear o_x0
  have o_x0 := o_x0'
  clear o_x0'
  have o_x1' := own_below o_x1 b19
  clear o_x1
  have o_x1 := o_x1'
  clear o_x1'
  have o_x2' := own_below o_x2 b19
  clear o_x2
  have o_x2 := o_x2'
  clear o_x2'
  have o_g0' := own_below o_g0 b19
  clear o_g0
  have o_g0 := o_g0'
  clear o_g0'
  go_wp2_with fail
  refine (markIntS_any _ _ _ _ (1) _ o_g0 (by have := ui_len xs0 xs1 xs2 z3; omega) (by omega) (by omega)).mono ?_
  rintro e w20 ⟨rfl, om20, b20⟩
  have B20 := B19.trans (below_app o_g0 b20 B19.size (by omega))
  have S20 := b20.size
  have o_w0' := o_w0.kept b20 (rows_apart (fun k hk => (lt_w0 k hk)) (fun k hk => (ge_g0 k hk)) (by omega))
  clear o_w0
  have o_w0 := o_w0'
  clear o_w0'
  clear o_g0
  have o_g0 := om20
  clear om20
  go_wp2_with fail
  refine (heldIntS_any _ _ _ (1) _ (Rd.of_own o_g0) (by have := ui_len xs0 xs1 xs2 z3; omega) (by omega) (by omega)).mono ?_
  rintro e wx ⟨rfl, rfl⟩
  go_wp2_with fail
  refine (toInsuredS_any A0 n0 c0 xs0 _ hn0 (hA0.below B20) h20_0).mono ?_
  rintro e w21 ⟨v_z0, rfl, o_z0, b21⟩
  obtain ⟨A_z0, c_z0, rfl⟩ := own_form o_z0
  have B21 := B20.trans (b21.mono B20.size)
  have S21 := b21.size
  have o_w0' := own_below o_w0 b21
  clear o_w0
  have o_w0 := o_w0'
  clear o_w0'
  have o_g0' := own_below o_g0 b21
  clear o_g0
  have o_g0 := o_g0'
  clear o_g0'
  have ge_z0 := fun k hk => (o_z0.lt k hk).1
  have lt_z0 := fun k hk => (o_z0.lt k hk).2
  go_wp2_with fail
  refine (toIntS_any A1 n1 c1 xs1 _ hn1 (hA1.below B21) h20_1).mono ?_
  rintro e w22 ⟨v_z1, rfl, o_z1, b22⟩
  obtain ⟨A_z1, c_z1, rfl⟩ := own_form o_z1
  have B22 := B21.trans (b22.mono B21.size)
  have S22 := b22.size
  have o_w0' := own_below o_w0 b22
  clear o_w0
  have o_w0 := o_w0'
  clear o_w0'
  have o_g0' := own_below o_g0 b22
  clear o_g0
  have o_g0 := o_g0'
  clear o_g0'
  have o_z0' := own_below o_z0 b22
  clear o_z0
  have o_z0 := o_z0'
  clear o_z0'
  have ge_z1 := fun k hk => (o_z1.lt k hk).1
  have lt_z1 := fun k hk => (o_z1.lt k hk).2
  go_wp2_with fail
  refine (toIntS_any A2 n2 c2 xs2 _ hn2 (hA2.below B22) h20_2).mono ?_
  rintro e w23 ⟨v_z2, rfl, o_z2, b23⟩
  obtain ⟨A_z2, c_z2, rfl⟩ := own_form o_z2
  have B23 := B22.trans (b23.mono B22.size)
  have S23 := b23.size
  have o_w0' := own_below o_w0 b23
  clear o_w0
  have o_w0 := o_w0'
  clear o_w0'
  have o_g0' := own_below o_g0 b23
  clear o_g0
  have o_g0 := o_g0'
  clear o_g0'
  have o_z0' := own_below o_z0 b23
  clear o_z0
  have o_z0 := o_z0'
  clear o_z0'
  have o_z1' := own_below o_z1 b23
  clear o_z1
  have o_z1 := o_z1'
  clear o_z1'
  have ge_z2 := fun k hk => (o_z2.lt k hk).1
  have lt_z2 := fun k hk => (o_z2.lt k hk).2
  go_wp2_with fail
  refine (implUnderInsured_any _ _ _ xs0 _ _ _ xs1 _ _ _ xs2 z3 _ hn0 (Rd.of_own o_z0) h20_0 hn1 (Rd.of_own o_z1) h20_1 hn2 (Rd.of_own o_z2) h20_2).mono ?_
  rintro e w24 ⟨v_h0, rfl, o_h0, b24⟩
  obtain ⟨A_h0, c_h0, rfl⟩ := own_form o_h0
  have B24 := B23.trans (b24.mono B23.size)
  have S24 := b24.size
  have o_w0' := own_below o_w0 b24
  clear o_w0
  have o_w0 := o_w0'
  clear o_w0'
  have o_g0' := own_below o_g0 b24
  clear o_g0
  have o_g0 := o_g0'
  clear o_g0'
  have o_z0' := own_below o_z0 b24
  clear o_z0
  have o_z0 := o_z0'
  clear o_z0'
  have o_z1' := own_below o_z1 b24
  clear o_z1
  have o_z1 := o_z1'
  clear o_z1'
  have o_z2' := own_below o_z2 b24
  clear o_z2
  have o_z2 := o_z2'
  clear o_z2'
  have ge_h0 := fun k hk => (o_h0.lt k hk).1
  have lt_h0 := fun k hk => (o_h0.lt k hk).2
  go_wp2_with fail
  refine (eqIntS_same _ _ _ _ _ (uiV xs0 xs1 xs2 z3) _ rfl (Rd.of_own o_h0) (Rd.of_own o_w0) (by have := ui_len xs0 xs1 xs2 z3; omega)).mono ?_
  rintro e w25 ⟨rfl, b25⟩
  have B25 := B24.trans (b25.mono B24.size)
  have S25 := b25.size
  have o_w0' := own_below o_w0 b25
  clear o_w0
  have o_w0 := o_w0'
  clear o_w0'
  have o_g0' := own_below o_g0 b25
  clear o_g0
  have o_g0 := o_g0'
  clear o_g0'
  have o_h0' := own_below o_h0 b25
  clear o_h0
  have o_h0 := o_h0'
  clear o_h0'
  go_wp2_with fail
  refine (heldIntS_any _ _ _ (1) _ (Rd.of_own o_g0) (by have := ui_len xs0 xs1 xs2 z3; omega) (by omega) (by omega)).mono ?_
  rintro e wx ⟨rfl, rfl⟩
  go_wp2
  go_ret
  exact ⟨rfl, B25⟩

theorem own : ownKnob Try.prog.godebug = none := by kernel_rfl
theorem laidOut : laidOutB Try.prog = true := by kernel_rfl
set_option maxRecDepth 100000 in
theorem lifted (os : Os) (started : os.Started) (H : Type) (enc : TypeId × Value → H) :
    ReturnsInHanded {} Try.checked os 11 .any (Rows.fnExactUnderInsuredSpec.pre6 enc Try.prog Try.f11 Rows.fnExactUnderInsuredRow.domain false) (Rows.fnExactUnderInsuredSpec.post enc Try.prog Try.f11 false true false false) := by
  refine returnsInHanded_of_change (C := Try.checked) own started (by kernel_rfl) Try.func11
    (ChangeSpec.witness6 (enc := enc) (C := Try.checked) false ⟨#[], #[.slice none 0 0, .slice none 0 0, .slice none 0 0, .int .i64 0], []⟩ 8 (by kernel_rfl) (by kernel_rfl) (by kernel_rfl) (by kernel_rfl)) ?_
  intro W base args ds gs before hval0 hW hcnd _
  have hval : ∀ (j : Nat) t v, Try.f11.params[j]? = some t → args[j]? = some v → Value.okWide Try.prog W .any base t v := hval0
  have hW' := hW
  obtain ⟨p, q, hA0, hV, rfl, hfz, hnd⟩ := hW
  have hA : DataW.TrodAll enc Try.prog W 0 (fun _ => true) true Try.f11.params.toList args.toList ds p := hA0
  rw [Try.params11] at hA hval
  obtain ⟨v0, vs0, d0, ds0, p0, q0, hargs, rfl, rfl, h0, r0⟩ := trodAll_cons hA
  obtain ⟨v1, vs1, d1, ds1, p1, q1, rfl, rfl, rfl, h1, r1⟩ := trodAll_cons r0
  obtain ⟨v2, vs2, d2, ds2, p2, q2, rfl, rfl, rfl, h2, r2⟩ := trodAll_cons r1
  obtain ⟨v3, vs3, d3, ds3, p3, q3, rfl, rfl, rfl, h3, r3⟩ := trodAll_cons r2
  obtain ⟨rfl, rfl, rfl⟩ := trodAll_nil r3
  obtain rfl : args = #[v0, v1, v2, v3] := by cases args; simp_all
  obtain ⟨rfl, rfl⟩ := trodVars_none hV
  obtain ⟨a0, len0, cap0, rfl⟩ := okWide_slice Try.underlying22 (hval 0 22 v0 rfl rfl)
  have k0 := h0
  have lt0 : ∀ x ∈ p0, x.block < W.heap.size := by obtain ⟨m, hm⟩ := k0; exact DataW.trod_lt m _ _ _ hm
  obtain ⟨xs0, hl0, hr0, hm0, _⟩ := open5 (ti := 3) Try.underlying22 Try.underlying49 (by kernel_rfl) (by kernel_rfl) Try.underlying3 rfl rfl rfl rfl rfl h0
  obtain ⟨a1, len1, cap1, rfl⟩ := okWide_slice Try.underlying39 (hval 1 39 v1 rfl rfl)
  have k1 := h1
  have lt1 : ∀ x ∈ p1, x.block < W.heap.size := by obtain ⟨m, hm⟩ := k1; exact DataW.trod_lt m _ _ _ hm
  obtain ⟨xs1, hl1, hr1, hm1, _⟩ := open1 Try.underlying39 Try.underlying3 (by kernel_rfl) h1
  obtain ⟨a2, len2, cap2, rfl⟩ := okWide_slice Try.underlying39 (hval 2 39 v2 rfl rfl)
  have k2 := h2
  have lt2 : ∀ x ∈ p2, x.block < W.heap.size := by obtain ⟨m, hm⟩ := k2; exact DataW.trod_lt m _ _ _ hm
  obtain ⟨xs2, hl2, hr2, hm2, _⟩ := open1 Try.underlying39 Try.underlying3 (by kernel_rfl) h2
  obtain ⟨a3, rfl, rfl, rfl, wf3⟩ := open_int Try.underlying3 (hval 3 3 v3 rfl rfl) h3
  clear hA0 hval0
  refine (walk a0 len0 cap0 xs0 a1 len1 cap1 xs1 a2 len2 cap2 xs2 a3 W hl0 hr0 hm0 hl1 hr1 hm1 hl2 hr2 hm2 wf3).mono fun e W' ⟨he, bel⟩ => ?_
  subst he
  exact ⟨_, rfl, _, _, _, [], _, [], hW', trodAll_mk1 (shut_bool Try.underlying4 _), (trodAll_cons_mk (Below.trod laidOut (by kernel_rfl) (of_decide_eq_true (by kernel_rfl)) k0 bel lt0) (trodAll_cons_mk (Below.trod laidOut (by kernel_rfl) (of_decide_eq_true (by kernel_rfl)) k1 bel lt1) (trodAll_cons_mk (Below.trod laidOut (by kernel_rfl) (of_decide_eq_true (by kernel_rfl)) k2 bel lt2) (trodAll_cons_mk (shut_int Try.underlying3 wf3) trodAll_mk0)))), rfl, bel.frame _, fun h => by cases h⟩

theorem over : Rows.fnExactUnderInsuredRow.holds Try.pinned (OpenSpec.ofChange Rows.fnExactUnderInsuredSpec) :=
  OpenClaim.holds_of_wide 11 Try.f11 rfl rfl rfl rfl rfl rfl rfl ⟨rfl, rfl, rfl, rfl, rfl⟩ rfl rfl rfl rfl rfl (by kernel_rfl) Try.func11 (by kernel_rfl)
    (of_decide_eq_true (by kernel_rfl)) (by unfold Func.isWrapper; first | (rw [if_pos (by decide +kernel)]; kernel_rfl) | (rw [if_neg (by decide +kernel)]; exact ⟨rfl, rfl⟩))
    (fun os started H enc _ => lifted os started H enc)

theorem proved : Rows.FnExactUnderInsuredSaid := over
#print axioms proved
end Go.Proofs.Ytkaljkgkllefcaa.lwUnderInsured
