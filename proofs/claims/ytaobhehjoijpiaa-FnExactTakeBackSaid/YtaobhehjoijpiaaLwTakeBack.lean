/- The law FnExactTakeBack returns true for every input: the two calls, of the reference and of the program, return the same value for all arguments, their arguments stay as they are, and results lie in new memory. No conditions. -/
import Derived.Test.YtaobhehjoijpiaaAppF
import Derived.Test.YtaobhehjoijpiaaOpen
import Derived.Test.YtaobhehjoijpiaaAppO
namespace Go.Proofs.Ytaobhehjoijpiaa.lwTakeBack
set_option linter.unusedSimpArgs false
open Go.ChangeShapes Go.WideShapes Go.ChangeAt Go.RowKit
set_option linter.unusedVariables false

set_option maxHeartbeats 4000000 in
set_option maxRecDepth 20000 in
theorem walk (A0 : Option Addr) (n0 c0 : Nat) (xs0 : List AR) (z1 : Int) (z2 : Int) (A3 : Option Addr) (n3 c3 : Nat) (xs3 : List Int) (w : World) (hn0 : xs0.length = n0) (hA0 : RdA w A0 xs0) (hm0 : n0 ≤ maxLen) (wz1 : (Lit.int .i64 z1).wf = true) (wz2 : (Lit.int .i64 z2).wf = true) (hn3 : xs3.length = n3) (hA3 : Rd w A3 (cells1 xs3)) (hm3 : n3 ≤ maxLen) :
    Calls Try.prog 7 #[.slice A0 n0 c0, .int .i64 z1, .int .i64 z2, .slice A3 n3 c3] w (Ret (.bool true) w) := by
  subst hn0
  by_cases hbig3 : (1048576 : Int) < n3
  · go_enter Try.func7, Try.ntmps7
    go_wp2
    go_ret
    exact ⟨rfl, Below.refl _ _⟩
  have hsm3 : (n3 : Int) ≤ 1048576 := by omega
  have h20_3 : n3 ≤ 1048576 := by omega
  clear hbig3
  by_cases hbig0 : szAV 1048576 xs0 < 0
  · have e0 := Lib.hid (show szAV 1048576 xs0 = -1 from szAV_neg hbig0)
    go_enter Try.func7, Try.ntmps7
    go_wp2_with fail
    refine (szApprovalS_any A0 _ c0 1048576 xs0 _ rfl hA0 hm0 (by omega) (by omega)).mono ?_
    rintro e w1 ⟨rfl, b1⟩
    rw [e0.out]
    go_wp2
    go_ret
    exact ⟨rfl, b1⟩
  have hz0 : 0 ≤ szAV 1048576 xs0 := by omega
  obtain ⟨h20_0, hw0, hs0⟩ := szAV_pos hz0
  have hzb0 := szAV_le xs0 (1048576) (by omega)
  obtain ⟨left0, hleft0⟩ : ∃ l, l = szAV 1048576 xs0 := ⟨_, rfl⟩
  have HL0 := Lib.hid hleft0
  rw [← hleft0] at hz0 hzb0
  clear hbig0 hleft0
  go_enter Try.func7, Try.ntmps7
  go_wp2_with fail
  refine (szApprovalS_any A0 _ c0 1048576 xs0 _ rfl hA0 hm0 (by omega) (by omega)).mono ?_
  rintro e w1 ⟨rfl, b1⟩
  rw [← HL0.out]
  clear HL0
  have B1 : Below w.heap.size w w1 := b1
  have S1 := b1.size
  go_wp2_with fail
  refine (toApprovalS_any A0 _ c0 xs0 _ rfl (hA0.below B1) h20_0 hw0).mono ?_
  rintro e w2 ⟨v_s0, vs_s0, rfl, o_s0, b2⟩
  obtain ⟨A_s0, c_s0, rfl⟩ := own_form o_s0.2.1
  have B2 := B1.trans (b2.mono B1.size)
  have S2 := b2.size
  have ge_s0 := fun j a k ha hk => (o_s0.lt j a k ha hk).1
  have lt_s0 := fun j a k ha hk => (o_s0.lt j a k ha hk).2
  go_wp2_with fail
  refine (toIntS_any A3 n3 c3 xs3 _ hn3 (hA3.below B2) h20_3).mono ?_
  rintro e w3 ⟨v_s3, rfl, o_s3, b3⟩
  obtain ⟨A_s3, c_s3, rfl⟩ := own_form o_s3
  have B3 := B2.trans (b3.mono B2.size)
  have S3 := b3.size
  have oo := o_s0.below b3
  clear o_s0
  have o_s0 := oo
  clear oo
  have ge_s3 := fun k hk => (o_s3.lt k hk).1
  have lt_s3 := fun k hk => (o_s3.lt k hk).2
  go_wp2_with fail
  refine (specTakeBack_any _ _ _ xs0 z1 z2 _ _ _ xs3 _ rfl o_s0.rd h20_0 hw0 (own_cap o_s0.2.1) hn3 (Rd.of_own o_s3) h20_3).mono ?_
  rintro e w4 ⟨v_w0, vs_w0, rfl, o_w0, b4⟩
  obtain ⟨A_w0, c_w0, rfl⟩ := own_form o_w0.2.1
  have B4 := B3.trans (b4.mono B3.size)
  have S4 := b4.size
  have oo := o_s0.below b4
  clear o_s0
  have o_s0 := oo
  clear oo
  have oo := own_below o_s3 b4
  clear o_s3
  have o_s3 := oo
  clear oo
  have ge_w0 := fun j a k ha hk => (o_w0.lt j a k ha hk).1
  have lt_w0 := fun j a k ha hk => (o_w0.lt j a k ha hk).2
  go_wp2_with fail
  refine (toApprovalS_any A0 _ c0 xs0 _ rfl (hA0.below B4) h20_0 hw0).mono ?_
  rintro e w5 ⟨v_x0, vs_x0, rfl, o_x0, b5⟩
  obtain ⟨A_x0, c_x0, rfl⟩ := own_form o_x0.2.1
  have B5 := B4.trans (b5.mono B4.size)
  have S5 := b5.size
  have oo := o_w0.below b5
  clear o_w0
  have o_w0 := oo
  clear oo
  have ge_x0 := fun j a k ha hk => (o_x0.lt j a k ha hk).1
  have lt_x0 := fun j a k ha hk => (o_x0.lt j a k ha hk).2
  go_wp2_with fail
  refine (toIntS_any A3 n3 c3 xs3 _ hn3 (hA3.below B5) h20_3).mono ?_
  rintro e w6 ⟨v_x3, rfl, o_x3, b6⟩
  obtain ⟨A_x3, c_x3, rfl⟩ := own_form o_x3
  have B6 := B5.trans (b6.mono B5.size)
  have S6 := b6.size
  have oo := o_w0.below b6
  clear o_w0
  have o_w0 := oo
  clear oo
  have oo := o_x0.below b6
  clear o_x0
  have o_x0 := oo
  clear oo
  have ge_x3 := fun k hk => (o_x3.lt k hk).1
  have lt_x3 := fun k hk => (o_x3.lt k hk).2
  go_wp2_with fail
  refine (implTakeBack_any _ _ _ xs0 z1 z2 _ _ _ xs3 _ rfl o_x0.rd h20_0 hw0 (own_cap o_x0.2.1) hn3 (Rd.of_own o_x3) h20_3).mono ?_
  rintro e w7 ⟨v_g0, vs_g0, rfl, o_g0, b7⟩
  obtain ⟨A_g0, c_g0, rfl⟩ := own_form o_g0.2.1
  have B7 := B6.trans (b7.mono B6.size)
  have S7 := b7.size
  have oo := o_w0.below b7
  clear o_w0
  have o_w0 := oo
  clear oo
  have oo := o_x0.below b7
  clear o_x0
  have o_x0 := oo
  clear oo
  have oo := own_below o_x3 b7
  clear o_x3
  have o_x3 := oo
  clear oo
  have ge_g0 := fun j a k ha hk => (o_g0.lt j a k ha hk).1
  have lt_g0 := fun j a k ha hk => (o_g0.lt j a k ha hk).2
  go_wp2_with fail
  refine (eqApprovalS_same _ _ _ _ _ (tbV xs0 z1 z2 xs3) _ rfl o_g0.rd o_w0.rd (smallA_n (tb_small xs0 z1 z2 xs3)) (smallA_w (tb_small xs0 z1 z2 xs3))).mono ?_
  rintro e w8 ⟨rfl, b8⟩
  have B8 := B7.trans (b8.mono B7.size)
  have S8 := b8.size
  have oo := o_w0.below b8
  clear o_w0
  have o_w0 := oo
  clear oo
  have oo := o_x0.below b8
  clear o_x0
  have o_x0 := oo
  clear oo
  have oo := own_below o_x3 b8
  clear o_x3
  have o_x3 := oo
  clear oo
  have oo := o_g0.below b8
  clear o_g0
  have o_g0 := oo
  clear oo
  go_wp2_with fail
  refine (toApprovalS_any A0 _ c0 xs0 _ rfl (hA0.below B8) h20_0 hw0).mono ?_
  rintro e w9 ⟨v_y0, vs_y0, rfl, o_y0, b9⟩
  obtain ⟨A_y0, c_y0, rfl⟩ := own_form o_y0.2.1
  have B9 := B8.trans (b9.mono B8.size)
  have S9 := b9.size
  have oo := o_w0.below b9
  clear o_w0
  have o_w0 := oo
  clear oo
  have oo := o_x0.below b9
  clear o_x0
  have o_x0 := oo
  clear oo
  have oo := own_below o_x3 b9
  clear o_x3
  have o_x3 := oo
  clear oo
  have oo := o_g0.below b9
  clear o_g0
  have o_g0 := oo
  clear oo
  have ge_y0 := fun j a k ha hk => (o_y0.lt j a k ha hk).1
  have lt_y0 := fun j a k ha hk => (o_y0.lt j a k ha hk).2
  go_wp2_with fail
  refine (eqApprovalS_same _ _ _ _ _ (xs0) _ rfl o_x0.rd o_y0.rd h20_0 hw0).mono ?_
  rintro e w10 ⟨rfl, b10⟩
  have B10 := B9.trans (b10.mono B9.size)
  have S10 := b10.size
  have oo := o_w0.below b10
  clear o_w0
  have o_w0 := oo
  clear oo
  have oo := o_x0.below b10
  clear o_x0
  have o_x0 := oo
  clear oo
  have oo := own_below o_x3 b10
  clear o_x3
  have o_x3 := oo
  clear oo
  have oo := o_g0.below b10
  clear o_g0
  have o_g0 := oo
  clear oo
  have oo := o_y0.below b10
  clear o_y0
  have o_y0 := oo
  clear oo
  go_wp2_with fail
  refine (toIntS_any A3 n3 c3 xs3 _ hn3 (hA3.below B10) h20_3).mono ?_
  rintro e w11 ⟨v_y3, rfl, o_y3, b11⟩
  obtain ⟨A_y3, c_y3, rfl⟩ := own_form o_y3
  have B11 := B10.trans (b11.mono B10.size)
  have S11 := b11.size
  have oo := o_w0.below b11
  clear o_w0
  have o_w0 := oo
  clear oo
  have oo := o_x0.below b11
  clear o_x0
  have o_x0 := oo
  clear oo
  have oo := own_below o_x3 b11
  clear o_x3
  have o_x3 := oo
  clear oo
  have oo := o_g0.below b11
  clear o_g0
  have o_g0 := oo
  clear oo
  have ge_y3 := fun k hk => (o_y3.lt k hk).1
  have lt_y3 := fun k hk => (o_y3.lt k hk).2
  go_wp2_with fail
  refine (eqIntS_same _ _ _ _ _ (xs3) _ hn3 (Rd.of_own o_x3) (Rd.of_own o_y3) h20_3).mono ?_
  rintro e w12 ⟨rfl, b12⟩
  have B12 := B11.trans (b12.mono B11.size)
  have S12 := b12.size
  have oo := o_w0.below b12
  clear o_w0
  have o_w0 := oo
  clear oo
  have oo := o_x0.below b12
  clear o_x0
  have o_x0 := oo
  clear oo
  have oo := own_below o_x3 b12
  clear o_x3
  have o_x3 := oo
  clear oo
  have oo := o_g0.below b12
  clear o_g0
  have o_g0 := oo
  clear oo
  have oo := own_below o_y3 b12
  clear o_y3
  have o_y3 := oo
  clear oo
  go_wp2_with fail
  refine (markApprovalS_any _ _ _ (xs0) _ (1) _ o_x0 h20_0 hw0 hs0 (by omega) (by omega)).mono ?_
  rintro e w13 ⟨rfl, om13, b13⟩
  have hss13 := hs0
  have B13 := B12.trans (b13.below (fun k hS => by obtain ⟨jm, am, ham, hkm⟩ := hS; have m1 := ge_x0 jm am k ham hkm; have m2 := lt_x0 jm am k ham hkm; omega) B12.size)
  have S13 := b13.size
  have oo := o_w0.only b13 (fun j a k ha hk hS => by have r1 := ge_w0 j a k ha hk; have r2 := lt_w0 j a k ha hk; obtain ⟨jm, am, ham, hkm⟩ := hS; have m1 := ge_x0 jm am k ham hkm; have m2 := lt_x0 jm am k ham hkm; omega)
  clear o_w0
  have o_w0 := oo
  clear oo
  have oo := own_only o_x3 b13 (fun k hk hS => by have r1 := ge_x3 k hk; have r2 := lt_x3 k hk; obtain ⟨jm, am, ham, hkm⟩ := hS; have m1 := ge_x0 jm am k ham hkm; have m2 := lt_x0 jm am k ham hkm; omega)
  clear o_x3
  have o_x3 := oo
  clear oo
  have oo := o_g0.only b13 (fun j a k ha hk hS => by have r1 := ge_g0 j a k ha hk; have r2 := lt_g0 j a k ha hk; obtain ⟨jm, am, ham, hkm⟩ := hS; have m1 := ge_x0 jm am k ham hkm; have m2 := lt_x0 jm am k ham hkm; omega)
  clear o_g0
  have o_g0 := oo
  clear oo
  clear o_x0
  have o_x0 := om13
  clear om13
  go_wp2_with fail
  refine (markIntS_any _ _ _ _ (1 + (szA (xs0) : Nat)) _ o_x3 h20_3 (by omega) (by omega)).mono ?_
  rintro e w14 ⟨rfl, om14, bg14⟩
  have b14 := Only.of_grown bg14
  clear bg14
  have B14 := B13.trans (b14.below (fun k hS => by have m1 := ge_x3 k hS; have m2 := lt_x3 k hS; omega) B13.size)
  have S14 := b14.size
  have oo := o_w0.only b14 (fun j a k ha hk hS => by have r1 := ge_w0 j a k ha hk; have r2 := lt_w0 j a k ha hk; have m1 := ge_x3 k hS; have m2 := lt_x3 k hS; omega)
  clear o_w0
  have o_w0 := oo
  clear oo
  have oo := o_x0.only b14 (fun j a k ha hk hS => by have r1 := ge_x0 j a k ha hk; have r2 := lt_x0 j a k ha hk; have m1 := ge_x3 k hS; have m2 := lt_x3 k hS; omega)
  clear o_x0
  have o_x0 := oo
  clear oo
  have oo := o_g0.only b14 (fun j a k ha hk hS => by have r1 := ge_g0 j a k ha hk; have r2 := lt_g0 j a k ha hk; have m1 := ge_x3 k hS; have m2 := lt_x3 k hS; omega)
  clear o_g0
  have o_g0 := oo
  clear oo
  clear o_x3
  have o_x3 := om14
  clear om14
  go_wp2_with fail
  refine (eqApprovalS_same _ _ _ _ _ (tbV xs0 z1 z2 xs3) _ rfl o_g0.rd o_w0.rd (smallA_n (tb_small xs0 z1 z2 xs3)) (smallA_w (tb_small xs0 z1 z2 xs3))).mono ?_
  rintro e w15 ⟨rfl, b15⟩
  have B15 := B14.trans (b15.mono B14.size)
  have S15 := b15.size
  have oo := o_w0.below b15
  clear o_w0
  have o_w0 := oo
  clear oo
  have oo := o_x0.below b15
  clear o_x0
  have o_x0 := oo
  clear oo
  have oo := own_below o_x3 b15
  clear o_x3
  have o_x3 := oo
  clear oo
  have oo := o_g0.below b15
  clear o_g0
  have o_g0 := oo
  clear oo
  go_wp2_with fail
  refine (markApprovalS_any _ _ _ (tbV xs0 z1 z2 xs3) _ (1) _ o_g0 (smallA_n (tb_small xs0 z1 z2 xs3)) (smallA_w (tb_small xs0 z1 z2 xs3)) (smallA_s (tb_small xs0 z1 z2 xs3)) (by omega) (by omega)).mono ?_
  rintro e w16 ⟨rfl, om16, b16⟩
  have hss16 := (smallA_s (tb_small xs0 z1 z2 xs3))
  have B16 := B15.trans (b16.below (fun k hS => by obtain ⟨jm, am, ham, hkm⟩ := hS; have m1 := ge_g0 jm am k ham hkm; have m2 := lt_g0 jm am k ham hkm; omega) B15.size)
  have S16 := b16.size
  have oo := o_w0.only b16 (fun j a k ha hk hS => by have r1 := ge_w0 j a k ha hk; have r2 := lt_w0 j a k ha hk; obtain ⟨jm, am, ham, hkm⟩ := hS; have m1 := ge_g0 jm am k ham hkm; have m2 := lt_g0 jm am k ham hkm; omega)
  clear o_w0
  have o_w0 := oo
  clear oo
  clear o_g0
  have o_g0 := om16
  clear om16
  go_wp2_with fail
  refine (heldApprovalS_any _ _ _ (tbV xs0 z1 z2 xs3) (1) _ o_g0.rd2 rfl (smallA_n (tb_small xs0 z1 z2 xs3)) (smallA_w (tb_small xs0 z1 z2 xs3)) (smallA_s (tb_small xs0 z1 z2 xs3)) (by omega) (by omega)).mono ?_
  rintro e w17 ⟨rfl, b17⟩
  have B17 := B16.trans (b17.mono B16.size)
  have S17 := b17.size
  have oo := o_w0.below b17
  clear o_w0
  have o_w0 := oo
  clear oo
  have oo := o_g0.below b17
  clear o_g0
  have o_g0 := oo
  clear oo
  go_wp2_with fail
  refine (toApprovalS_any A0 _ c0 xs0 _ rfl (hA0.below B17) h20_0 hw0).mono ?_
  rintro e w18 ⟨v_z0, vs_z0, rfl, o_z0, b18⟩
  obtain ⟨A_z0, c_z0, rfl⟩ := own_form o_z0.2.1
  have B18 := B17.trans (b18.mono B17.size)
  have S18 := b18.size
  have oo := o_w0.below b18
  clear o_w0
  have o_w0 := oo
  clear oo
  have oo := o_g0.below b18
  clear o_g0
  have o_g0 := oo
  clear oo
  have ge_z0 := fun j a k ha hk => (o_z0.lt j a k ha hk).1
  have lt_z0 := fun j a k ha hk => (o_z0.lt j a k ha hk).2
  go_wp2_with fail
  refine (toIntS_any A3 n3 c3 xs3 _ hn3 (hA3.below B18) h20_3).mono ?_
  rintro e w19 ⟨v_z3, rfl, o_z3, b19⟩
  obtain ⟨A_z3, c_z3, rfl⟩ := own_form o_z3
  have B19 := B18.trans (b19.mono B18.size)
  have S19 := b19.size
  have oo := o_w0.below b19
  clear o_w0
  have o_w0 := oo
  clear oo
  have oo := o_g0.below b19
  clear o_g0
  have o_g0 := oo
  clear oo
  have oo := o_z0.below b19
  clear o_z0
  have o_z0 := oo
  clear oo
  have ge_z3 := fun k hk => (o_z3.lt k hk).1
  have lt_z3 := fun k hk => (o_z3.lt k hk).2
  go_wp2_with fail
  refine (implTakeBack_any _ _ _ xs0 z1 z2 _ _ _ xs3 _ rfl o_z0.rd h20_0 hw0 (own_cap o_z0.2.1) hn3 (Rd.of_own o_z3) h20_3).mono ?_
  rintro e w20 ⟨v_h0, vs_h0, rfl, o_h0, b20⟩
  obtain ⟨A_h0, c_h0, rfl⟩ := own_form o_h0.2.1
  have B20 := B19.trans (b20.mono B19.size)
  have S20 := b20.size
  have oo := o_w0.below b20
  clear o_w0
  have o_w0 := oo
  clear oo
  have oo := o_g0.below b20
  clear o_g0
  have o_g0 := oo
  clear oo
  have oo := o_z0.below b20
  clear o_z0
  have o_z0 := oo
  clear oo
  have oo := own_below o_z3 b20
  clear o_z3
  have o_z3 := oo
  clear oo
  have ge_h0 := fun j a k ha hk => (o_h0.lt j a k ha hk).1
  have lt_h0 := fun j a k ha hk => (o_h0.lt j a k ha hk).2
  go_wp2_with fail
  refine (eqApprovalS_same _ _ _ _ _ (tbV xs0 z1 z2 xs3) _ rfl o_h0.rd o_w0.rd (smallA_n (tb_small xs0 z1 z2 xs3)) (smallA_w (tb_small xs0 z1 z2 xs3))).mono ?_
  rintro e w21 ⟨rfl, b21⟩
  have B21 := B20.trans (b21.mono B20.size)
  have S21 := b21.size
  have oo := o_w0.below b21
  clear o_w0
  have o_w0 := oo
  clear oo
  have oo := o_g0.below b21
  clear o_g0
  have o_g0 := oo
  clear oo
  have oo := o_h0.below b21
  clear o_h0
  have o_h0 := oo
  clear oo
  go_wp2_with fail
  refine (heldApprovalS_any _ _ _ (tbV xs0 z1 z2 xs3) (1) _ o_g0.rd2 rfl (smallA_n (tb_small xs0 z1 z2 xs3)) (smallA_w (tb_small xs0 z1 z2 xs3)) (smallA_s (tb_small xs0 z1 z2 xs3)) (by omega) (by omega)).mono ?_
  rintro e w22 ⟨rfl, b22⟩
  have B22 := B21.trans (b22.mono B21.size)
  have S22 := b22.size
  have oo := o_w0.below b22
  clear o_w0
  have o_w0 := oo
  clear oo
  have oo := o_g0.below b22
  clear o_g0
  have o_g0 := oo
  clear oo
  have oo := o_h0.below b22
  clear o_h0
  have o_h0 := oo
  clear oo
  go_wp2
  go_ret
  exact ⟨rfl, B22⟩

theorem own : ownKnob Try.prog.godebug = none := by kernel_rfl
theorem laidOut : laidOutB Try.prog = true := by kernel_rfl
set_option maxRecDepth 100000 in
theorem lifted (os : Os) (started : os.Started) (H : Type) (enc : TypeId × Value → H) :
    ReturnsInHanded {} Try.checked os 7 .any (Rows.fnExactTakeBackSpec.pre6 enc Try.prog Try.f7 Rows.fnExactTakeBackRow.domain false) (Rows.fnExactTakeBackSpec.post enc Try.prog Try.f7 false true false false) := by
  refine returnsInHanded_of_change (C := Try.checked) own started (by kernel_rfl) Try.func7
    (ChangeSpec.witness6 (enc := enc) (C := Try.checked) false ⟨#[], #[.slice none 0 0, .int .i64 0, .int .i64 0, .slice none 0 0], []⟩ 8 (by kernel_rfl) (by kernel_rfl) (by kernel_rfl) (by kernel_rfl)) ?_
  intro W base args ds gs before hval0 hW hcnd _
  have hval : ∀ (j : Nat) t v, Try.f7.params[j]? = some t → args[j]? = some v → Value.okWide Try.prog W .any base t v := hval0
  have hW' := hW
  obtain ⟨p, q, hA0, hV, rfl, hfz, hnd⟩ := hW
  have hA : DataW.TrodAll enc Try.prog W 0 (fun _ => true) true Try.f7.params.toList args.toList ds p := hA0
  rw [Try.params7] at hA hval
  obtain ⟨v0, vs0, d0, ds0, p0, q0, hargs, rfl, rfl, h0, r0⟩ := trodAll_cons hA
  obtain ⟨v1, vs1, d1, ds1, p1, q1, rfl, rfl, rfl, h1, r1⟩ := trodAll_cons r0
  obtain ⟨v2, vs2, d2, ds2, p2, q2, rfl, rfl, rfl, h2, r2⟩ := trodAll_cons r1
  obtain ⟨v3, vs3, d3, ds3, p3, q3, rfl, rfl, rfl, h3, r3⟩ := trodAll_cons r2
  obtain ⟨rfl, rfl, rfl⟩ := trodAll_nil r3
  obtain rfl : args = #[v0, v1, v2, v3] := by cases args; simp_all
  obtain ⟨rfl, rfl⟩ := trodVars_none hV
  obtain ⟨a0, len0, cap0, rfl⟩ := okWide_slice Try.underlying22 (hval 0 22 v0 rfl rfl)
  have k0 := h0
  have lt0 : ∀ x ∈ p0, x.block < W.heap.size := by obtain ⟨m, hm⟩ := k0; exact DataW.trod_lt m _ _ _ hm
  obtain ⟨xs0, hl0, hr0, hm0⟩ := openA (ti := 3) (ts := 31) (tt := 9) Try.underlying22 Try.underlying68 (by kernel_rfl) (by kernel_rfl) Try.underlying3 Try.underlying31 Try.underlying9 (by kernel_rfl) rfl rfl rfl rfl rfl rfl h0
  obtain ⟨a1, rfl, rfl, rfl, wf1⟩ := open_int Try.underlying3 (hval 1 3 v1 rfl rfl) h1
  obtain ⟨a2, rfl, rfl, rfl, wf2⟩ := open_int Try.underlying3 (hval 2 3 v2 rfl rfl) h2
  obtain ⟨a3, len3, cap3, rfl⟩ := okWide_slice Try.underlying31 (hval 3 31 v3 rfl rfl)
  have k3 := h3
  have lt3 : ∀ x ∈ p3, x.block < W.heap.size := by obtain ⟨m, hm⟩ := k3; exact DataW.trod_lt m _ _ _ hm
  obtain ⟨xs3, hl3, hr3, hm3, _⟩ := open1 Try.underlying31 Try.underlying3 (by kernel_rfl) h3
  clear hA0 hval0
  refine (walk a0 len0 cap0 xs0 a1 a2 a3 len3 cap3 xs3 W hl0 hr0 hm0 wf1 wf2 hl3 hr3 hm3).mono fun e W' ⟨he, bel⟩ => ?_
  subst he
  exact ⟨_, rfl, _, _, _, [], _, [], hW', trodAll_mk1 (shut_bool Try.underlying4 _), (trodAll_cons_mk (Below.trod laidOut (by kernel_rfl) (of_decide_eq_true (by kernel_rfl)) k0 bel lt0) (trodAll_cons_mk (shut_int Try.underlying3 wf1) (trodAll_cons_mk (shut_int Try.underlying3 wf2) (trodAll_cons_mk (Below.trod laidOut (by kernel_rfl) (of_decide_eq_true (by kernel_rfl)) k3 bel lt3) trodAll_mk0)))), rfl, bel.frame _, fun h => by cases h⟩

theorem over : Rows.fnExactTakeBackRow.holds Try.pinned (OpenSpec.ofChange Rows.fnExactTakeBackSpec) :=
  OpenClaim.holds_of_wide 7 Try.f7 rfl rfl rfl rfl rfl rfl rfl ⟨rfl, rfl, rfl, rfl, rfl⟩ rfl rfl rfl rfl rfl (by kernel_rfl) Try.func7 (by kernel_rfl)
    (of_decide_eq_true (by kernel_rfl)) (by unfold Func.isWrapper; first | (rw [if_pos (by decide +kernel)]; kernel_rfl) | (rw [if_neg (by decide +kernel)]; exact ⟨rfl, rfl⟩))
    (fun os started H enc _ => lifted os started H enc)

theorem proved : Rows.FnExactTakeBackSaid := over
#print axioms proved
end Go.Proofs.Ytaobhehjoijpiaa.lwTakeBack
