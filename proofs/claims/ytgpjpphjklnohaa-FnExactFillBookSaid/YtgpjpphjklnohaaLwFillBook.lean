/- The law FnExactFillBook returns true for every input: the two calls, of the reference and of the program, return the same value for all arguments, their arguments stay as they are, and results lie in new memory. No conditions. -/
import Derived.Test.YtgpjpphjklnohaaStoP
import Derived.Test.YtgpjpphjklnohaaInts
import Derived.Test.YtgpjpphjklnohaaOpen
import Derived.Test.YtgpjpphjklnohaaBookM
namespace Go.Proofs.Ytgpjpphjklnohaa.lwFillBook
set_option linter.unusedSimpArgs false
open Go.ChangeShapes Go.WideShapes Go.ChangeAt Go.RowKit
set_option linter.unusedVariables false

set_option maxHeartbeats 4000000 in
set_option maxRecDepth 20000 in
theorem walk (A0 : Option Addr) (n0 c0 : Nat) (xs0 : List BR) (A1 : Option Addr) (n1 c1 : Nat) (xs1 : List Int) (w : World) (hn0 : xs0.length = n0) (hA0 : RdB w A0 xs0) (hm0 : n0 ≤ maxLen) (hn1 : xs1.length = n1) (hA1 : Rd w A1 (cells1 xs1)) (hm1 : n1 ≤ maxLen) :
    Calls Try.prog 10 #[.slice A0 n0 c0, .slice A1 n1 c1] w (Ret (.bool true) w) := by
  subst hn0
  by_cases hbig1 : (1048576 : Int) < n1
  · go_enter Try.func10, Try.ntmps10
    go_wp2
    go_ret
    exact ⟨rfl, Below.refl _ _⟩
  have hsm1 : (n1 : Int) ≤ 1048576 := by omega
  have h20_1 : n1 ≤ 1048576 := by omega
  clear hbig1
  by_cases hbig0 : szBV 1048576 xs0 < 0
  · have e0 := Lib.hid (show szBV 1048576 xs0 = -1 from szBV_neg hbig0)
    go_enter Try.func10, Try.ntmps10
    go_wp2_with fail
    refine (szBookRowS_any A0 _ c0 1048576 xs0 _ rfl hA0 hm0 (by omega) (by omega)).mono ?_
    rintro e w1 ⟨rfl, b1⟩
    rw [e0.out]
    go_wp2
    go_ret
    exact ⟨rfl, b1⟩
  have hz0 : 0 ≤ szBV 1048576 xs0 := by omega
  obtain ⟨h20_0, hw0, hs0⟩ := szBV_pos hz0
  have hzb0 := szBV_le xs0 (1048576) (by omega)
  obtain ⟨left0, hleft0⟩ : ∃ l, l = szBV 1048576 xs0 := ⟨_, rfl⟩
  have HL0 := Lib.hid hleft0
  rw [← hleft0] at hz0 hzb0
  clear hbig0 hleft0
  go_enter Try.func10, Try.ntmps10
  go_wp2_with fail
  refine (szBookRowS_any A0 _ c0 1048576 xs0 _ rfl hA0 hm0 (by omega) (by omega)).mono ?_
  rintro e w1 ⟨rfl, b1⟩
  rw [← HL0.out]
  clear HL0
  have B1 : Below w.heap.size w w1 := b1
  have S1 := b1.size
  go_wp2_with fail
  refine (toBookRowS_any A0 _ c0 xs0 _ rfl (hA0.below B1) h20_0 hw0).mono ?_
  rintro e w2 ⟨v_s0, vs_s0, rfl, o_s0, b2⟩
  obtain ⟨A_s0, c_s0, rfl⟩ := own_form o_s0.2.1
  have B2 := B1.trans (b2.mono B1.size)
  have S2 := b2.size
  have ge_s0 := fun j a k ha hk => (o_s0.lt j a k ha hk).1
  have lt_s0 := fun j a k ha hk => (o_s0.lt j a k ha hk).2
  go_wp2_with fail
  refine (toIntS_any A1 n1 c1 xs1 _ hn1 (hA1.below B2) h20_1).mono ?_
  rintro e w3 ⟨v_s1, rfl, o_s1, b3⟩
  obtain ⟨A_s1, c_s1, rfl⟩ := own_form o_s1
  have B3 := B2.trans (b3.mono B2.size)
  have S3 := b3.size
  have oo := o_s0.below b3
  clear o_s0
  have o_s0 := oo
  clear oo
  have ge_s1 := fun k hk => (o_s1.lt k hk).1
  have lt_s1 := fun k hk => (o_s1.lt k hk).2
  go_wp2_with fail
  refine (specFillBook_any _ _ _ xs0 _ _ _ xs1 _ rfl o_s0.rd h20_0 hw0 hn1 (Rd.of_own o_s1) h20_1).mono ?_
  rintro e w4 ⟨v_w0, vs_w0, v_w1, rfl, o_w0, o_w1, ap_w0, b4⟩
  obtain ⟨A_w0, c_w0, rfl⟩ := own_form o_w0.2.1
  obtain ⟨A_w1, c_w1, rfl⟩ := own_form o_w1
  have B4 := B3.trans (b4.mono B3.size)
  have S4 := b4.size
  have oo := o_s0.below b4
  clear o_s0
  have o_s0 := oo
  clear oo
  have oo := own_below o_s1 b4
  clear o_s1
  have o_s1 := oo
  clear oo
  have ge_w0 := fun j a k ha hk => (o_w0.lt j a k ha hk).1
  have lt_w0 := fun j a k ha hk => (o_w0.lt j a k ha hk).2
  have ge_w1 := fun k hk => (o_w1.lt k hk).1
  have lt_w1 := fun k hk => (o_w1.lt k hk).2
  go_wp2_with fail
  refine (toBookRowS_any A0 _ c0 xs0 _ rfl (hA0.below B4) h20_0 hw0).mono ?_
  rintro e w5 ⟨v_x0, vs_x0, rfl, o_x0, b5⟩
  obtain ⟨A_x0, c_x0, rfl⟩ := own_form o_x0.2.1
  have B5 := B4.trans (b5.mono B4.size)
  have S5 := b5.size
  have oo := o_w0.below b5
  clear o_w0
  have o_w0 := oo
  clear oo
  have oo := own_below o_w1 b5
  clear o_w1
  have o_w1 := oo
  clear oo
  have ge_x0 := fun j a k ha hk => (o_x0.lt j a k ha hk).1
  have lt_x0 := fun j a k ha hk => (o_x0.lt j a k ha hk).2
  go_wp2_with fail
  refine (toIntS_any A1 n1 c1 xs1 _ hn1 (hA1.below B5) h20_1).mono ?_
  rintro e w6 ⟨v_x1, rfl, o_x1, b6⟩
  obtain ⟨A_x1, c_x1, rfl⟩ := own_form o_x1
  have B6 := B5.trans (b6.mono B5.size)
  have S6 := b6.size
  have oo := o_w0.below b6
  clear o_w0
  have o_w0 := oo
  clear oo
  have oo := own_below o_w1 b6
  clear o_w1
  have o_w1 := oo
  clear oo
  have oo := o_x0.below b6
  clear o_x0
  have o_x0 := oo
  clear oo
  have ge_x1 := fun k hk => (o_x1.lt k hk).1
  have lt_x1 := fun k hk => (o_x1.lt k hk).2
  go_wp2_with fail
  refine (implFillBook_any _ _ _ xs0 _ _ _ xs1 _ rfl o_x0.rd h20_0 hw0 hn1 (Rd.of_own o_x1) h20_1).mono ?_
  rintro e w7 ⟨v_g0, vs_g0, v_g1, rfl, o_g0, o_g1, ap_g0, b7⟩
  obtain ⟨A_g0, c_g0, rfl⟩ := own_form o_g0.2.1
  obtain ⟨A_g1, c_g1, rfl⟩ := own_form o_g1
  have B7 := B6.trans (b7.mono B6.size)
  have S7 := b7.size
  have oo := o_w0.below b7
  clear o_w0
  have o_w0 := oo
  clear oo
  have oo := own_below o_w1 b7
  clear o_w1
  have o_w1 := oo
  clear oo
  have oo := o_x0.below b7
  clear o_x0
  have o_x0 := oo
  clear oo
  have oo := own_below o_x1 b7
  clear o_x1
  have o_x1 := oo
  clear oo
  have ge_g0 := fun j a k ha hk => (o_g0.lt j a k ha hk).1
  have lt_g0 := fun j a k ha hk => (o_g0.lt j a k ha hk).2
  have ge_g1 := fun k hk => (o_g1.lt k hk).1
  have lt_g1 := fun k hk => (o_g1.lt k hk).2
  go_wp2_with fail
  refine (eqBookRowS_same _ _ _ _ _ (fbV xs0 xs1) _ rfl o_g0.rd o_w0.rd (smallB_n (fb_small xs0 xs1)) (smallB_w (fb_small xs0 xs1))).mono ?_
  rintro e w8 ⟨rfl, b8⟩
  have B8 := B7.trans (b8.mono B7.size)
  have S8 := b8.size
  have oo := o_w0.below b8
  clear o_w0
  have o_w0 := oo
  clear oo
  have oo := own_below o_w1 b8
  clear o_w1
  have o_w1 := oo
  clear oo
  have oo := o_x0.below b8
  clear o_x0
  have o_x0 := oo
  clear oo
  have oo := own_below o_x1 b8
  clear o_x1
  have o_x1 := oo
  clear oo
  have oo := o_g0.below b8
  clear o_g0
  have o_g0 := oo
  clear oo
  have oo := own_below o_g1 b8
  clear o_g1
  have o_g1 := oo
  clear oo
  go_wp2_with fail
  refine (eqIntS_same _ _ _ _ _ (fbN xs0 xs1) _ rfl (Rd.of_own o_g1) (Rd.of_own o_w1) (by have := fbN_len xs0 xs1; omega)).mono ?_
  rintro e w9 ⟨rfl, b9⟩
  have B9 := B8.trans (b9.mono B8.size)
  have S9 := b9.size
  have oo := o_w0.below b9
  clear o_w0
  have o_w0 := oo
  clear oo
  have oo := own_below o_w1 b9
  clear o_w1
  have o_w1 := oo
  clear oo
  have oo := o_x0.below b9
  clear o_x0
  have o_x0 := oo
  clear oo
  have oo := own_below o_x1 b9
  clear o_x1
  have o_x1 := oo
  clear oo
  have oo := o_g0.below b9
  clear o_g0
  have o_g0 := oo
  clear oo
  have oo := own_below o_g1 b9
  clear o_g1
  have o_g1 := oo
  clear oo
  go_wp2_with fail
  refine (toBookRowS_any A0 _ c0 xs0 _ rfl (hA0.below B9) h20_0 hw0).mono ?_
  rintro e w10 ⟨v_y0, vs_y0, rfl, o_y0, b10⟩
  obtain ⟨A_y0, c_y0, rfl⟩ := own_form o_y0.2.1
  have B10 := B9.trans (b10.mono B9.size)
  have S10 := b10.size
  have oo := o_w0.below b10
  clear o_w0
  have o_w0 := oo
  clear oo
  have oo := own_below o_w1 b10
  clear o_w1
  have o_w1 := oo
  clear oo
  have oo := o_x0.below b10
  clear o_x0
  have o_x0 := oo
  clear oo
  have oo := own_below o_x1 b10
  clear o_x1
  have o_x1 := oo
  clear oo
  have oo := o_g0.below b10
  clear o_g0
  have o_g0 := oo
  clear oo
  have oo := own_below o_g1 b10
  clear o_g1
  have o_g1 := oo
  clear oo
  have ge_y0 := fun j a k ha hk => (o_y0.lt j a k ha hk).1
  have lt_y0 := fun j a k ha hk => (o_y0.lt j a k ha hk).2
  go_wp2_with fail
  refine (eqBookRowS_same _ _ _ _ _ (xs0) _ rfl o_x0.rd o_y0.rd h20_0 hw0).mono ?_
  rintro e w11 ⟨rfl, b11⟩
  have B11 := B10.trans (b11.mono B10.size)
  have S11 := b11.size
  have oo := o_w0.below b11
  clear o_w0
  have o_w0 := oo
  clear oo
  have oo := own_below o_w1 b11
  clear o_w1
  have o_w1 := oo
  clear oo
  have oo := o_x0.below b11
  clear o_x0
  have o_x0 := oo
  clear oo
  have oo := own_below o_x1 b11
  clear o_x1
  have o_x1 := oo
  clear oo
  have oo := o_g0.below b11
  clear o_g0
  have o_g0 := oo
  clear oo
  have oo := own_below o_g1 b11
  clear o_g1
  have o_g1 := oo
  clear oo
  have oo := o_y0.below b11
  clear o_y0
  have o_y0 := oo
  clear oo
  go_wp2_with fail
  refine (toIntS_any A1 n1 c1 xs1 _ hn1 (hA1.below B11) h20_1).mono ?_
  rintro e w12 ⟨v_y1, rfl, o_y1, b12⟩
  obtain ⟨A_y1, c_y1, rfl⟩ := own_form o_y1
  have B12 := B11.trans (b12.mono B11.size)
  have S12 := b12.size
  have oo := o_w0.below b12
  clear o_w0
  have o_w0 := oo
  clear oo
  have oo := own_below o_w1 b12
  clear o_w1
  have o_w1 := oo
  clear oo
  have oo := o_x0.below b12
  clear o_x0
  have o_x0 := oo
  clear oo
  have oo := own_below o_x1 b12
  clear o_x1
  have o_x1 := oo
  clear oo
  have oo := o_g0.below b12
  clear o_g0
  have o_g0 := oo
  clear oo
  have oo := own_below o_g1 b12
  clear o_g1
  have o_g1 := oo
  clear oo
  have ge_y1 := fun k hk => (o_y1.lt k hk).1
  have lt_y1 := fun k hk => (o_y1.lt k hk).2
  go_wp2_with fail
  refine (eqIntS_same _ _ _ _ _ (xs1) _ hn1 (Rd.of_own o_x1) (Rd.of_own o_y1) h20_1).mono ?_
  rintro e w13 ⟨rfl, b13⟩
  have B13 := B12.trans (b13.mono B12.size)
  have S13 := b13.size
  have oo := o_w0.below b13
  clear o_w0
  have o_w0 := oo
  clear oo
  have oo := own_below o_w1 b13
  clear o_w1
  have o_w1 := oo
  clear oo
  have oo := o_x0.below b13
  clear o_x0
  have o_x0 := oo
  clear oo
  have oo := own_below o_x1 b13
  clear o_x1
  have o_x1 := oo
  clear oo
  have oo := o_g0.below b13
  clear o_g0
  have o_g0 := oo
  clear oo
  have oo := own_below o_g1 b13
  clear o_g1
  have o_g1 := oo
  clear oo
  have oo := own_below o_y1 b13
  clear o_y1
  have o_y1 := oo
  clear oo
  go_wp2_with fail
  refine (markBookRowS_any _ _ _ (xs0) _ (1) _ o_x0 h20_0 hw0 hs0 (by omega) (by omega)).mono ?_
  rintro e w14 ⟨rfl, om14, b14⟩
  have hss14 := hs0
  have B14 := B13.trans (b14.below (fun k hS => by obtain ⟨jm, am, ham, hkm⟩ := hS; have m1 := ge_x0 jm am k ham hkm; have m2 := lt_x0 jm am k ham hkm; omega) B13.size)
  have S14 := b14.size
  have oo := o_w0.only b14 (fun j a k ha hk hS => by have r1 := ge_w0 j a k ha hk; have r2 := lt_w0 j a k ha hk; obtain ⟨jm, am, ham, hkm⟩ := hS; have m1 := ge_x0 jm am k ham hkm; have m2 := lt_x0 jm am k ham hkm; omega)
  clear o_w0
  have o_w0 := oo
  clear oo
  have oo := own_only o_w1 b14 (fun k hk hS => by have r1 := ge_w1 k hk; have r2 := lt_w1 k hk; obtain ⟨jm, am, ham, hkm⟩ := hS; have m1 := ge_x0 jm am k ham hkm; have m2 := lt_x0 jm am k ham hkm; omega)
  clear o_w1
  have o_w1 := oo
  clear oo
  have oo := own_only o_x1 b14 (fun k hk hS => by have r1 := ge_x1 k hk; have r2 := lt_x1 k hk; obtain ⟨jm, am, ham, hkm⟩ := hS; have m1 := ge_x0 jm am k ham hkm; have m2 := lt_x0 jm am k ham hkm; omega)
  clear o_x1
  have o_x1 := oo
  clear oo
  have oo := o_g0.only b14 (fun j a k ha hk hS => by have r1 := ge_g0 j a k ha hk; have r2 := lt_g0 j a k ha hk; obtain ⟨jm, am, ham, hkm⟩ := hS; have m1 := ge_x0 jm am k ham hkm; have m2 := lt_x0 jm am k ham hkm; omega)
  clear o_g0
  have o_g0 := oo
  clear oo
  have oo := own_only o_g1 b14 (fun k hk hS => by have r1 := ge_g1 k hk; have r2 := lt_g1 k hk; obtain ⟨jm, am, ham, hkm⟩ := hS; have m1 := ge_x0 jm am k ham hkm; have m2 := lt_x0 jm am k ham hkm; omega)
  clear o_g1
  have o_g1 := oo
  clear oo
  clear o_x0
  have o_x0 := om14
  clear om14
  go_wp2_with fail
  refine (markIntS_any _ _ _ _ (1 + (szB (xs0) : Nat)) _ o_x1 h20_1 (by omega) (by omega)).mono ?_
  rintro e w15 ⟨rfl, om15, bg15⟩
  have b15 := Only.of_grown bg15
  clear bg15
  have B15 := B14.trans (b15.below (fun k hS => by have m1 := ge_x1 k hS; have m2 := lt_x1 k hS; omega) B14.size)
  have S15 := b15.size
  have oo := o_w0.only b15 (fun j a k ha hk hS => by have r1 := ge_w0 j a k ha hk; have r2 := lt_w0 j a k ha hk; have m1 := ge_x1 k hS; have m2 := lt_x1 k hS; omega)
  clear o_w0
  have o_w0 := oo
  clear oo
  have oo := own_only o_w1 b15 (fun k hk hS => by have r1 := ge_w1 k hk; have r2 := lt_w1 k hk; have m1 := ge_x1 k hS; have m2 := lt_x1 k hS; omega)
  clear o_w1
  have o_w1 := oo
  clear oo
  have oo := o_x0.only b15 (fun j a k ha hk hS => by have r1 := ge_x0 j a k ha hk; have r2 := lt_x0 j a k ha hk; have m1 := ge_x1 k hS; have m2 := lt_x1 k hS; omega)
  clear o_x0
  have o_x0 := oo
  clear oo
  have oo := o_g0.only b15 (fun j a k ha hk hS => by have r1 := ge_g0 j a k ha hk; have r2 := lt_g0 j a k ha hk; have m1 := ge_x1 k hS; have m2 := lt_x1 k hS; omega)
  clear o_g0
  have o_g0 := oo
  clear oo
  have oo := own_only o_g1 b15 (fun k hk hS => by have r1 := ge_g1 k hk; have r2 := lt_g1 k hk; have m1 := ge_x1 k hS; have m2 := lt_x1 k hS; omega)
  clear o_g1
  have o_g1 := oo
  clear oo
  clear o_x1
  have o_x1 := om15
  clear om15
  go_wp2_with fail
  refine (eqBookRowS_same _ _ _ _ _ (fbV xs0 xs1) _ rfl o_g0.rd o_w0.rd (smallB_n (fb_small xs0 xs1)) (smallB_w (fb_small xs0 xs1))).mono ?_
  rintro e w16 ⟨rfl, b16⟩
  have B16 := B15.trans (b16.mono B15.size)
  have S16 := b16.size
  have oo := o_w0.below b16
  clear o_w0
  have o_w0 := oo
  clear oo
  have oo := own_below o_w1 b16
  clear o_w1
  have o_w1 := oo
  clear oo
  have oo := o_x0.below b16
  clear o_x0
  have o_x0 := oo
  clear oo
  have oo := own_below o_x1 b16
  clear o_x1
  have o_x1 := oo
  clear oo
  have oo := o_g0.below b16
  clear o_g0
  have o_g0 := oo
  clear oo
  have oo := own_below o_g1 b16
  clear o_g1
  have o_g1 := oo
  clear oo
  go_wp2_with fail
  refine (eqIntS_same _ _ _ _ _ (fbN xs0 xs1) _ rfl (Rd.of_own o_g1) (Rd.of_own o_w1) (by have := fbN_len xs0 xs1; omega)).mono ?_
  rintro e w17 ⟨rfl, b17⟩
  have B17 := B16.trans (b17.mono B16.size)
  have S17 := b17.size
  have oo := o_w0.below b17
  clear o_w0
  have o_w0 := oo
  clear oo
  have oo := own_below o_w1 b17
  clear o_w1
  have o_w1 := oo
  clear oo
  have oo := o_x0.below b17
  clear o_x0
  have o_x0 := oo
  clear oo
  have oo := own_below o_x1 b17
  clear o_x1
  have o_x1 := oo
  clear oo
  have oo := o_g0.below b17
  clear o_g0
  have o_g0 := oo
  clear oo
  have oo := own_below o_g1 b17
  clear o_g1
  have o_g1 := oo
  clear oo
  go_wp2_with fail
  refine (markBookRowS_any _ _ _ (fbV xs0 xs1) _ (1) _ o_g0 (smallB_n (fb_small xs0 xs1)) (smallB_w (fb_small xs0 xs1)) (smallB_s (fb_small xs0 xs1)) (by omega) (by omega)).mono ?_
  rintro e w18 ⟨rfl, om18, b18⟩
  have hss18 := (smallB_s (fb_small xs0 xs1))
  have B18 := B17.trans (b18.below (fun k hS => by obtain ⟨jm, am, ham, hkm⟩ := hS; have m1 := ge_g0 jm am k ham hkm; have m2 := lt_g0 jm am k ham hkm; omega) B17.size)
  have S18 := b18.size
  have oo := o_w0.only b18 (fun j a k ha hk hS => by have r1 := ge_w0 j a k ha hk; have r2 := lt_w0 j a k ha hk; obtain ⟨jm, am, ham, hkm⟩ := hS; have m1 := ge_g0 jm am k ham hkm; have m2 := lt_g0 jm am k ham hkm; omega)
  clear o_w0
  have o_w0 := oo
  clear oo
  have oo := own_only o_w1 b18 (fun k hk hS => by have r1 := ge_w1 k hk; have r2 := lt_w1 k hk; obtain ⟨jm, am, ham, hkm⟩ := hS; have m1 := ge_g0 jm am k ham hkm; have m2 := lt_g0 jm am k ham hkm; omega)
  clear o_w1
  have o_w1 := oo
  clear oo
  have oo := own_only o_g1 b18 (fun k hk hS => by obtain ⟨jm, am, ham, hkm⟩ := hS; exact ap_g0 jm am k ham hkm hk)
  clear o_g1
  have o_g1 := oo
  clear oo
  clear o_g0
  have o_g0 := om18
  clear om18
  go_wp2_with fail
  refine (markIntS_any _ _ _ _ (1 + (szB (fbV xs0 xs1) : Nat)) _ o_g1 (by have := fbN_len xs0 xs1; omega) (by omega) (by omega)).mono ?_
  rintro e w19 ⟨rfl, om19, bg19⟩
  have b19 := Only.of_grown bg19
  clear bg19
  have hss19 := fbN_len xs0 xs1
  have B19 := B18.trans (b19.below (fun k hS => by have m1 := ge_g1 k hS; have m2 := lt_g1 k hS; omega) B18.size)
  have S19 := b19.size
  have oo := o_w0.only b19 (fun j a k ha hk hS => by have r1 := ge_w0 j a k ha hk; have r2 := lt_w0 j a k ha hk; have m1 := ge_g1 k hS; have m2 := lt_g1 k hS; omega)
  clear o_w0
  have o_w0 := oo
  clear oo
  have oo := own_only o_w1 b19 (fun k hk hS => by have r1 := ge_w1 k hk; have r2 := lt_w1 k hk; have m1 := ge_g1 k hS; have m2 := lt_g1 k hS; omega)
  clear o_w1
  have o_w1 := oo
  clear oo
  have oo := o_g0.only b19 (fun j a k ha hk hS => ap_g0 j a k ha hk hS)
  clear o_g0
  have o_g0 := oo
  clear oo
  clear o_g1
  have o_g1 := om19
  clear om19
  go_wp2_with fail
  refine (heldBookRowS_any _ _ _ (fbV xs0 xs1) (1) _ o_g0.rd2 rfl (smallB_n (fb_small xs0 xs1)) (smallB_w (fb_small xs0 xs1)) (smallB_s (fb_small xs0 xs1)) (by omega) (by omega)).mono ?_
  rintro e wx ⟨rfl, rfl⟩
  go_wp2_with fail
  refine (heldIntS_any _ _ _ (1 + (szB (fbV xs0 xs1) : Nat)) _ (Rd.of_own o_g1) (by have := fbN_len xs0 xs1; omega) (by omega) (by omega)).mono ?_
  rintro e wx ⟨rfl, rfl⟩
  go_wp2_with fail
  refine (toBookRowS_any A0 _ c0 xs0 _ rfl (hA0.below B19) h20_0 hw0).mono ?_
  rintro e w20 ⟨v_z0, vs_z0, rfl, o_z0, b20⟩
  obtain ⟨A_z0, c_z0, rfl⟩ := own_form o_z0.2.1
  have B20 := B19.trans (b20.mono B19.size)
  have S20 := b20.size
  have oo := o_w0.below b20
  clear o_w0
  have o_w0 := oo
  clear oo
  have oo := own_below o_w1 b20
  clear o_w1
  have o_w1 := oo
  clear oo
  have oo := o_g0.below b20
  clear o_g0
  have o_g0 := oo
  clear oo
  have oo := own_below o_g1 b20
  clear o_g1
  have o_g1 := oo
  clear oo
  have ge_z0 := fun j a k ha hk => (o_z0.lt j a k ha hk).1
  have lt_z0 := fun j a k ha hk => (o_z0.lt j a k ha hk).2
  go_wp2_with fail
  refine (toIntS_any A1 n1 c1 xs1 _ hn1 (hA1.below B20) h20_1).mono ?_
  rintro e w21 ⟨v_z1, rfl, o_z1, b21⟩
  obtain ⟨A_z1, c_z1, rfl⟩ := own_form o_z1
  have B21 := B20.trans (b21.mono B20.size)
  have S21 := b21.size
  have oo := o_w0.below b21
  clear o_w0
  have o_w0 := oo
  clear oo
  have oo := own_below o_w1 b21
  clear o_w1
  have o_w1 := oo
  clear oo
  have oo := o_g0.below b21
  clear o_g0
  have o_g0 := oo
  clear oo
  have oo := own_below o_g1 b21
  clear o_g1
  have o_g1 := oo
  clear oo
  have oo := o_z0.below b21
  clear o_z0
  have o_z0 := oo
  clear oo
  have ge_z1 := fun k hk => (o_z1.lt k hk).1
  have lt_z1 := fun k hk => (o_z1.lt k hk).2
  go_wp2_with fail
  refine (implFillBook_any _ _ _ xs0 _ _ _ xs1 _ rfl o_z0.rd h20_0 hw0 hn1 (Rd.of_own o_z1) h20_1).mono ?_
  rintro e w22 ⟨v_h0, vs_h0, v_h1, rfl, o_h0, o_h1, ap_h0, b22⟩
  obtain ⟨A_h0, c_h0, rfl⟩ := own_form o_h0.2.1
  obtain ⟨A_h1, c_h1, rfl⟩ := own_form o_h1
  have B22 := B21.trans (b22.mono B21.size)
  have S22 := b22.size
  have oo := o_w0.below b22
  clear o_w0
  have o_w0 := oo
  clear oo
  have oo := own_below o_w1 b22
  clear o_w1
  have o_w1 := oo
  clear oo
  have oo := o_g0.below b22
  clear o_g0
  have o_g0 := oo
  clear oo
  have oo := own_below o_g1 b22
  clear o_g1
  have o_g1 := oo
  clear oo
  have oo := o_z0.below b22
  clear o_z0
  have o_z0 := oo
  clear oo
  have oo := own_below o_z1 b22
  clear o_z1
  have o_z1 := oo
  clear oo
  have ge_h0 := fun j a k ha hk => (o_h0.lt j a k ha hk).1
  have lt_h0 := fun j a k ha hk => (o_h0.lt j a k ha hk).2
  have ge_h1 := fun k hk => (o_h1.lt k hk).1
  have lt_h1 := fun k hk => (o_h1.lt k hk).2
  go_wp2_with fail
  refine (eqBookRowS_same _ _ _ _ _ (fbV xs0 xs1) _ rfl o_h0.rd o_w0.rd (smallB_n (fb_small xs0 xs1)) (smallB_w (fb_small xs0 xs1))).mono ?_
  rintro e w23 ⟨rfl, b23⟩
  have B23 := B22.trans (b23.mono B22.size)
  have S23 := b23.size
  have oo := o_w0.below b23
  clear o_w0
  have o_w0 := oo
  clear oo
  have oo := own_below o_w1 b23
  clear o_w1
  have o_w1 := oo
  clear oo
  have oo := o_g0.below b23
  clear o_g0
  have o_g0 := oo
  clear oo
  have oo := own_below o_g1 b23
  clear o_g1
  have o_g1 := oo
  clear oo
  have oo := o_h0.below b23
  clear o_h0
  have o_h0 := oo
  clear oo
  have oo := own_below o_h1 b23
  clear o_h1
  have o_h1 := oo
  clear oo
  go_wp2_with fail
  refine (eqIntS_same _ _ _ _ _ (fbN xs0 xs1) _ rfl (Rd.of_own o_h1) (Rd.of_own o_w1) (by have := fbN_len xs0 xs1; omega)).mono ?_
  rintro e w24 ⟨rfl, b24⟩
  have B24 := B23.trans (b24.mono B23.size)
  have S24 := b24.size
  have oo := o_w0.below b24
  clear o_w0
  have o_w0 := oo
  clear oo
  have oo := own_below o_w1 b24
  clear o_w1
  have o_w1 := oo
  clear oo
  have oo := o_g0.below b24
  clear o_g0
  have o_g0 := oo
  clear oo
  have oo := own_below o_g1 b24
  clear o_g1
  have o_g1 := oo
  clear oo
  have oo := o_h0.below b24
  clear o_h0
  have o_h0 := oo
  clear oo
  have oo := own_below o_h1 b24
  clear o_h1
  have o_h1 := oo
  clear oo
  go_wp2_with fail
  refine (heldBookRowS_any _ _ _ (fbV xs0 xs1) (1) _ o_g0.rd2 rfl (smallB_n (fb_small xs0 xs1)) (smallB_w (fb_small xs0 xs1)) (smallB_s (fb_small xs0 xs1)) (by omega) (by omega)).mono ?_
  rintro e wx ⟨rfl, rfl⟩
  go_wp2_with fail
  refine (heldIntS_any _ _ _ (1 + (szB (fbV xs0 xs1) : Nat)) _ (Rd.of_own o_g1) (by have := fbN_len xs0 xs1; omega) (by omega) (by omega)).mono ?_
  rintro e wx ⟨rfl, rfl⟩
  go_wp2
  go_ret
  exact ⟨rfl, B24⟩

theorem own : ownKnob Try.prog.godebug = none := by kernel_rfl
theorem laidOut : laidOutB Try.prog = true := by kernel_rfl
set_option maxRecDepth 100000 in
theorem lifted (os : Os) (started : os.Started) (H : Type) (enc : TypeId × Value → H) :
    ReturnsInHanded {} Try.checked os 10 .any (Rows.fnExactFillBookSpec.pre6 enc Try.prog Try.f10 Rows.fnExactFillBookRow.domain false) (Rows.fnExactFillBookSpec.post enc Try.prog Try.f10 false true false false) := by
  refine returnsInHanded_of_change (C := Try.checked) own started (by kernel_rfl) Try.func10
    (ChangeSpec.witness6 (enc := enc) (C := Try.checked) false ⟨#[], #[.slice none 0 0, .slice none 0 0], []⟩ 8 (by kernel_rfl) (by kernel_rfl) (by kernel_rfl) (by kernel_rfl)) ?_
  intro W base args ds gs before hval0 hW hcnd _
  have hval : ∀ (j : Nat) t v, Try.f10.params[j]? = some t → args[j]? = some v → Value.okWide Try.prog W .any base t v := hval0
  have hW' := hW
  obtain ⟨p, q, hA0, hV, rfl, hfz, hnd⟩ := hW
  have hA : DataW.TrodAll enc Try.prog W 0 (fun _ => true) true Try.f10.params.toList args.toList ds p := hA0
  rw [Try.params10] at hA hval
  obtain ⟨v0, vs0, d0, ds0, p0, q0, hargs, rfl, rfl, h0, r0⟩ := trodAll_cons hA
  obtain ⟨v1, vs1, d1, ds1, p1, q1, rfl, rfl, rfl, h1, r1⟩ := trodAll_cons r0
  obtain ⟨rfl, rfl, rfl⟩ := trodAll_nil r1
  obtain rfl : args = #[v0, v1] := by cases args; simp_all
  obtain ⟨rfl, rfl⟩ := trodVars_none hV
  obtain ⟨a0, len0, cap0, rfl⟩ := okWide_slice Try.underlying22 (hval 0 22 v0 rfl rfl)
  have k0 := h0
  have lt0 : ∀ x ∈ p0, x.block < W.heap.size := by obtain ⟨m, hm⟩ := k0; exact DataW.trod_lt m _ _ _ hm
  obtain ⟨xs0, hl0, hr0, hm0⟩ := openB (ti := 3) (ts := 47) Try.underlying22 Try.underlying69 (by kernel_rfl) (by kernel_rfl) Try.underlying3 Try.underlying47 (by kernel_rfl) rfl rfl h0
  obtain ⟨a1, len1, cap1, rfl⟩ := okWide_slice Try.underlying47 (hval 1 47 v1 rfl rfl)
  have k1 := h1
  have lt1 : ∀ x ∈ p1, x.block < W.heap.size := by obtain ⟨m, hm⟩ := k1; exact DataW.trod_lt m _ _ _ hm
  obtain ⟨xs1, hl1, hr1, hm1, _⟩ := open1 Try.underlying47 Try.underlying3 (by kernel_rfl) h1
  clear hA0 hval0
  refine (walk a0 len0 cap0 xs0 a1 len1 cap1 xs1 W hl0 hr0 hm0 hl1 hr1 hm1).mono fun e W' ⟨he, bel⟩ => ?_
  subst he
  exact ⟨_, rfl, _, _, _, [], _, [], hW', trodAll_mk1 (shut_bool Try.underlying4 _), (trodAll_cons_mk (Below.trod laidOut (by kernel_rfl) (of_decide_eq_true (by kernel_rfl)) k0 bel lt0) (trodAll_cons_mk (Below.trod laidOut (by kernel_rfl) (of_decide_eq_true (by kernel_rfl)) k1 bel lt1) trodAll_mk0)), rfl, bel.frame _, fun h => by cases h⟩

theorem over : Rows.fnExactFillBookRow.holds Try.pinned (OpenSpec.ofChange Rows.fnExactFillBookSpec) :=
  OpenClaim.holds_of_wide 10 Try.f10 rfl rfl rfl rfl rfl rfl rfl ⟨rfl, rfl, rfl, rfl, rfl⟩ rfl rfl rfl rfl rfl (by kernel_rfl) Try.func10 (by kernel_rfl)
    (of_decide_eq_true (by kernel_rfl)) (by unfold Func.isWrapper; first | (rw [if_pos (by decide +kernel)]; kernel_rfl) | (rw [if_neg (by decide +kernel)]; exact ⟨rfl, rfl⟩))
    (fun os started H enc _ => lifted os started H enc)

theorem proved : Rows.FnExactFillBookSaid := over
#print axioms proved
end Go.Proofs.Ytgpjpphjklnohaa.lwFillBook
