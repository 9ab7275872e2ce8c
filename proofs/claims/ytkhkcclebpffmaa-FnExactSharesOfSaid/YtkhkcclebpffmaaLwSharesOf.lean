/- The law FnExactSharesOf returns true for every input: the two calls, of the reference and of the program, return the same value for all arguments, their arguments stay as they are, and results lie in new memory. No conditions. -/
import Derived.Test.YtkhkcclebpffmaaTreN
import Derived.Test.YtkhkcclebpffmaaInts
import Derived.Test.YtkhkcclebpffmaaRise
import Derived.Test.YtkhkcclebpffmaaOpen
namespace Go.Proofs.Ytkhkcclebpffmaa.lwSharesOf
set_option linter.unusedSimpArgs false
open Go.ChangeShapes Go.WideShapes Go.ChangeAt Go.RowKit
set_option linter.unusedVariables false

set_option maxHeartbeats 2000000 in
theorem walk (A0 : Option Addr) (n0 c0 : Nat) (xs0 : List R5) (A1 : Option Addr) (n1 c1 : Nat) (xs1 : List Int) (z2 : Int) (z3 : Int) (w : World) (hn0 : xs0.length = n0) (hA0 : Rd w A0 (cells5 xs0)) (hm0 : n0 ≤ maxLen) (hn1 : xs1.length = n1) (hA1 : Rd w A1 (cells1 xs1)) (hm1 : n1 ≤ maxLen) (wz2 : (Lit.int .i64 z2).wf = true) (wz3 : (Lit.int .i64 z3).wf = true) :
    Calls Try.prog 9 #[.slice A0 n0 c0, .slice A1 n1 c1, .int .i64 z2, .int .i64 z3] w (Ret (.bool true) w) := by
  by_cases hbig1 : (1048576 : Int) < n1
  · go_enter Try.func9, Try.ntmps9
    go_wp2
    go_ret
    exact ⟨rfl, Below.refl _ _⟩
  have hsm1 : (n1 : Int) ≤ 1048576 := by omega
  clear hbig1
  by_cases hbig0 : (1048576 : Int) < n0
  · have e0 := Lib.hid (show szR (1048576) n0 = -1 by rw [szR, if_pos (by omega)])
    go_enter Try.func9, Try.ntmps9
    go_wp2_with fail
    refine (szTreatyS_any A0 n0 c0 (1048576) hm0 (by omega) (by omega) _).mono ?_
    rintro e w1 ⟨rfl, rfl⟩
    rw [e0.out]
    go_wp2
    go_ret
    exact ⟨rfl, Below.refl _ _⟩
  have e0 := Lib.hid (show szR (1048576) n0 = 1048576 - n0 by rw [szR, if_neg (by omega)])
  have h20_0 : n0 ≤ 1048576 := by omega
  have h20_1 : n1 ≤ 1048576 := by omega
  go_enter Try.func9, Try.ntmps9
  go_wp2_with fail
  refine (szTreatyS_any A0 n0 c0 (1048576) hm0 (by omega) (by omega) _).mono ?_
  rintro e w1 ⟨rfl, rfl⟩
  rw [e0.out]
  have B0 := Below.refl w.heap.size w
  go_wp2_with fail
  refine (toTreatyS_any A0 n0 c0 xs0 _ hn0 (hA0.below B0) h20_0).mono ?_
  rintro e w1 ⟨v_s0, rfl, o_s0, b1⟩
  obtain ⟨A_s0, c_s0, rfl⟩ := own_form o_s0
  have B1 := B0.trans (b1.mono B0.size)
  have S1 := b1.size
  have ge_s0 := fun k hk => (o_s0.lt k hk).1
  have lt_s0 := fun k hk => (o_s0.lt k hk).2
  go_wp2_with fail
  refine (toIntS_any A1 n1 c1 xs1 _ hn1 (hA1.below B1) h20_1).mono ?_
  rintro e w2 ⟨v_s1, rfl, o_s1, b2⟩
  obtain ⟨A_s1, c_s1, rfl⟩ := own_form o_s1
  have B2 := B1.trans (b2.mono B1.size)
  have S2 := b2.size
  have o_s0' := own_below o_s0 b2
  clear o_s0
  have o_s0 := o_s0'
  clear o_s0'
  have ge_s1 := fun k hk => (o_s1.lt k hk).1
  have lt_s1 := fun k hk => (o_s1.lt k hk).2
  go_wp2_with fail
  refine (specSharesOf_any _ _ _ xs0 _ _ _ xs1 z2 z3 _ hn0 (Rd.of_own o_s0) h20_0 hn1 (Rd.of_own o_s1) h20_1 (own_capS o_s1).1 (own_capS o_s1).2).mono ?_
  rintro e w3 ⟨v_w0, rfl, o_w0, b3⟩
  obtain ⟨A_w0, c_w0, rfl⟩ := own_form o_w0
  have B3 := B2.trans (b3.mono B2.size)
  have S3 := b3.size
  have o_s0' := own_below o_s0 b3
  clear o_s0
  have o_s0 := o_s0'
  clear o_s0'
  have o_s1' := own_below o_s1 b3
  clear o_s1
  have o_s1 := o_s1'
  clear o_s1'
  have ge_w0 := fun k hk => (o_w0.lt k hk).1
  have lt_w0 := fun k hk => (o_w0.lt k hk).2
  go_wp2_with fail
  refine (toTreatyS_any A0 n0 c0 xs0 _ hn0 (hA0.below B3) h20_0).mono ?_
  rintro e w4 ⟨v_x0, rfl, o_x0, b4⟩
  obtain ⟨A_x0, c_x0, rfl⟩ := own_form o_x0
  have B4 := B3.trans (b4.mono B3.size)
  have S4 := b4.size
  have o_w0' := own_below o_w0 b4
  clear o_w0
  have o_w0 := o_w0'
  clear o_w0'
  have ge_x0 := fun k hk => (o_x0.lt k hk).1
  have lt_x0 := fun k hk => (o_x0.lt k hk).2
  go_wp2_with fail
  refine (toIntS_any A1 n1 c1 xs1 _ hn1 (hA1.below B4) h20_1).mono ?_
  rintro e w5 ⟨v_x1, rfl, o_x1, b5⟩
  obtain ⟨A_x1, c_x1, rfl⟩ := own_form o_x1
  have B5 := B4.trans (b5.mono B4.size)
  have S5 := b5.size
  have o_w0' := own_below o_w0 b5
  clear o_w0
  have o_w0 := o_w0'
  clear o_w0'
  have o_x0' := own_below o_x0 b5
  clear o_x0
  have o_x0 := o_x0'
  clear o_x0'
  have ge_x1 := fun k hk => (o_x1.lt k hk).1
  have lt_x1 := fun k hk => (o_x1.lt k hk).2
  go_wp2_with fail
  refine (implSharesOf_any _ _ _ xs0 _ _ _ xs1 z2 z3 _ hn0 (Rd.of_own o_x0) h20_0 hn1 (Rd.of_own o_x1) h20_1 (own_capS o_x1).1 (own_capS o_x1).2).mono ?_
  rintro e w6 ⟨v_g0, rfl, o_g0, b6⟩
  obtain ⟨A_g0, c_g0, rfl⟩ := own_form o_g0
  have B6 := B5.trans (b6.mono B5.size)
  have S6 := b6.size
  have o_w0' := own_below o_w0 b6
  clear o_w0
  have o_w0 := o_w0'
  clear o_w0'
  have o_x0' := own_below o_x0 b6
  clear o_x0
  have o_x0 := o_x0'
  clear o_x0'
  have o_x1' := own_below o_x1 b6
  clear o_x1
  have o_x1 := o_x1'
  clear o_x1'
  have ge_g0 := fun k hk => (o_g0.lt k hk).1
  have lt_g0 := fun k hk => (o_g0.lt k hk).2
  go_wp2_with fail
  refine (eqIntS_same _ _ _ _ _ (shV xs0 xs1 z2 z3) _ rfl (Rd.of_own o_g0) (Rd.of_own o_w0) (by have := sh_len xs0 xs1 z2 z3; omega)).mono ?_
  rintro e w7 ⟨rfl, b7⟩
  have B7 := B6.trans (b7.mono B6.size)
  have S7 := b7.size
  have o_w0' := own_below o_w0 b7
  clear o_w0
  have o_w0 := o_w0'
  clear o_w0'
  have o_x0' := own_below o_x0 b7
  clear o_x0
  have o_x0 := o_x0'
  clear o_x0'
  have o_x1' := own_below o_x1 b7
  clear o_x1
  have o_x1 := o_x1'
  clear o_x1'
  have o_g0' := own_below o_g0 b7
  clear o_g0
  have o_g0 := o_g0'
  clear o_g0'
  go_wp2_with fail
  refine (toTreatyS_any A0 n0 c0 xs0 _ hn0 (hA0.below B7) h20_0).mono ?_
  rintro e w8 ⟨v_y0, rfl, o_y0, b8⟩
  obtain ⟨A_y0, c_y0, rfl⟩ := own_form o_y0
  have B8 := B7.trans (b8.mono B7.size)
  have S8 := b8.size
  have o_w0' := own_below o_w0 b8
  clear o_w0
  have o_w0 := o_w0'
  clear o_w0'
  have o_x0' := own_below o_x0 b8
  clear o_x0
  have o_x0 := o_x0'
  clear o_x0'
  have o_x1' := own_below o_x1 b8
  clear o_x1
  have o_x1 := o_x1'
  clear o_x1'
  have o_g0' := own_below o_g0 b8
  clear o_g0
  have o_g0 := o_g0'
  clear o_g0'
  have ge_y0 := fun k hk => (o_y0.lt k hk).1
  have lt_y0 := fun k hk => (o_y0.lt k hk).2
  go_wp2_with fail
  refine (eqTreatyS_same _ _ _ _ _ (xs0) _ hn0 (Rd.of_own o_x0) (Rd.of_own o_y0) h20_0).mono ?_
  rintro e w9 ⟨rfl, b9⟩
  have B9 := B8.trans (b9.mono B8.size)
  have S9 := b9.size
  have o_w0' := own_below o_w0 b9
  clear o_w0
  have o_w0 := o_w0'
  clear o_w0'
  have o_x0' := own_below o_x0 b9
  clear o_x0
  have o_x0 := o_x0'
  clear o_x0'
  have o_x1' := own_below o_x1 b9
  clear o_x1
  have o_x1 := o_x1'
  clear o_x1'
  have o_g0' := own_below o_g0 b9
  clear o_g0
  have o_g0 := o_g0'
  clear o_g0'
  have o_y0' := own_below o_y0 b9
  clear o_y0
  have o_y0 := o_y0'
  clear o_y0'
  go_wp2_with fail
  refine (toIntS_any A1 n1 c1 xs1 _ hn1 (hA1.below B9) h20_1).mono ?_
  rintro e w10 ⟨v_y1, rfl, o_y1, b10⟩
  obtain ⟨A_y1, c_y1, rfl⟩ := own_form o_y1
  have B10 := B9.trans (b10.mono B9.size)
  have S10 := b10.size
  have o_w0' := own_below o_w0 b10
  clear o_w0
  have o_w0 := o_w0'
  clear o_w0'
  have o_x0' := own_below o_x0 b10
  clear o_x0
  have o_x0 := o_x0'
  clear o_x0'
  have o_x1' := own_below o_x1 b10
  clear o_x1
  have o_x1 := o_x1'
  clear o_x1'
  have o_g0' := own_below o_g0 b10
  clear o_g0
  have o_g0 := o_g0'
  clear o_g0'
  have ge_y1 := fun k hk => (o_y1.lt k hk).1
  have lt_y1 := fun k hk => (o_y1.lt k hk).2
  go_wp2_with fail
  refine (eqIntS_same _ _ _ _ _ (xs1) _ hn1 (Rd.of_own o_x1) (Rd.of_own o_y1) h20_1).mono ?_
  rintro e w11 ⟨rfl, b11⟩
  have B11 := B10.trans (b11.mono B10.size)
  have S11 := b11.size
  have o_w0' := own_below o_w0 b11
  clear o_w0
  have o_w0 := o_w0'
  clear o_w0'
  have o_x0' := own_below o_x0 b11
  clear o_x0
  have o_x0 := o_x0'
  clear o_x0'
  have o_x1' := own_below o_x1 b11
  clear o_x1
  have o_x1 := o_x1'
  clear o_x1'
  have o_g0' := own_below o_g0 b11
  clear o_g0
  have o_g0 := o_g0'
  clear o_g0'
  have o_y1' := own_below o_y1 b11
  clear o_y1
  have o_y1 := o_y1'
  clear o_y1'
  go_wp2_with fail
  refine (markTreatyS_any _ _ _ _ (1) _ o_x0 h20_0 (by omega) (by omega)).mono ?_
  rintro e w12 ⟨rfl, om12, b12⟩
  have B12 := B11.trans (below_app o_x0 b12 B11.size (by omega))
  have S12 := b12.size
  have o_w0' := o_w0.kept b12 (rows_apart (fun k hk => (lt_w0 k hk)) (fun k hk => (ge_x0 k hk)) (by omega))
  clear o_w0
  have o_w0 := o_w0'
  clear o_w0'
  have o_x1' := o_x1.kept b12 (rows_apart' (fun k hk => (ge_x1 k hk)) (fun k hk => (lt_x0 k hk)) (by omega))
  clear o_x1
  have o_x1 := o_x1'
  clear o_x1'
  have o_g0' := o_g0.kept b12 (rows_apart' (fun k hk => (ge_g0 k hk)) (fun k hk => (lt_x0 k hk)) (by omega))
  clear o_g0
  have o_g0 := o_g0'
  clear o_g0'
  clear o_x0
  have o_x0 := om12
  clear om12
  go_wp2_with fail
  refine (markIntS_any _ _ _ _ (1 + 5 * (n0 : Nat)) _ o_x1 h20_1 (by omega) (by omega)).mono ?_
  rintro e w13 ⟨rfl, om13, b13⟩
  have B13 := B12.trans (below_app o_x1 b13 B12.size (by omega))
  have S13 := b13.size
  have o_w0' := o_w0.kept b13 (rows_apart (fun k hk => (lt_w0 k hk)) (fun k hk => (ge_x1 k hk)) (by omega))
  clear o_w0
  have o_w0 := o_w0'
  clear o_w0'
  have o_x0' := o_x0.kept b13 (rows_apart (fun k hk => (lt_x0 k hk)) (fun k hk => (ge_x1 k hk)) (by omega))
  clear o_x0
  have o_x0 := o_x0'
  clear o_x0'
  have o_g0' := o_g0.kept b13 (rows_apart' (fun k hk => (ge_g0 k hk)) (fun k hk => (lt_x1 k hk)) (by omega))
  clear o_g0
  have o_g0 := o_g0'
  clear o_g0'
  clear o_x1
  have o_x1 := om13
  clear om13
  go_wp2_with fail
  refine (eqIntS_same _ _ _ _ _ (shV xs0 xs1 z2 z3) _ rfl (Rd.of_own o_g0) (Rd.of_own o_w0) (by have := sh_len xs0 xs1 z2 z3; omega)).mono ?_
  rintro e w14 ⟨rfl, b14⟩
  have B14 := B13.trans (b14.mono B13.size)
  have S14 := b14.size
  have o_w0' := own_below o_w0 b14
  clear o_w0
  have o_w0 := o_w0'
  clear o_w0'
  have o_x0' := own_below o_x0 b14
  clear o_x0
  have o_x0 := o_x0'
  clear o_x0'
  have o_x1' := own_below o_x1 b14
  clear o_x1
  have o_x1 := o_x1'
  clear o_x1'
  have o_g0' := own_below o_g0 b14
  clear o_g0
  have o_g0 := o_g0'
  clear o_g0'
  go_wp2_with fail
  refine (markIntS_any _ _ _ _ (1) _ o_g0 (by have := sh_len xs0 xs1 z2 z3; omega) (by omega) (by omega)).mono ?_
  rintro e w15 ⟨rfl, om15, b15⟩
  have B15 := B14.trans (below_app o_g0 b15 B14.size (by omega))
  have S15 := b15.size
  have o_w0' := o_w0.kept b15 (rows_apart (fun k hk => (lt_w0 k hk)) (fun k hk => (ge_g0 k hk)) (by omega))
  clear o_w0
  have o_w0 := o_w0'
  clear o_w0'
  clear o_g0
  have o_g0 := om15
  clear om15
  go_wp2_with fail
  refine (heldIntS_any _ _ _ (1) _ (Rd.of_own o_g0) (by have := sh_len xs0 xs1 z2 z3; omega) (by omega) (by omega)).mono ?_
  rintro e wx ⟨rfl, rfl⟩
  go_wp2_with fail
  refine (toTreatyS_any A0 n0 c0 xs0 _ hn0 (hA0.below B15) h20_0).mono ?_
  rintro e w16 ⟨v_z0, rfl, o_z0, b16⟩
  obtain ⟨A_z0, c_z0, rfl⟩ := own_form o_z0
  have B16 := B15.trans (b16.mono B15.size)
  have S16 := b16.size
  have o_w0' := own_below o_w0 b16
  clear o_w0
  have o_w0 := o_w0'
  clear o_w0'
  have o_g0' := own_below o_g0 b16
  clear o_g0
  have o_g0 := o_g0'
  clear o_g0'
  have ge_z0 := fun k hk => (o_z0.lt k hk).1
  have lt_z0 := fun k hk => (o_z0.lt k hk).2
  go_wp2_with fail
  refine (toIntS_any A1 n1 c1 xs1 _ hn1 (hA1.below B16) h20_1).mono ?_
  rintro e w17 ⟨v_z1, rfl, o_z1, b17⟩
  obtain ⟨A_z1, c_z1, rfl⟩ := own_form o_z1
  have B17 := B16.trans (b17.mono B16.size)
  have S17 := b17.size
  have o_w0' := own_below o_w0 b17
  clear o_w0
  have o_w0 := o_w0'
  clear o_w0'
  have o_g0' := own_below o_g0 b17
  clear o_g0
  have o_g0 := o_g0'
  clear o_g0'
  have o_z0' := own_below o_z0 b17
  clear o_z0
  have o_z0 := o_z0'
  clear o_z0'
  have ge_z1 := fun k hk => (o_z1.lt k hk).1
  have lt_z1 := fun k hk => (o_z1.lt k hk).2
  go_wp2_with fail
  refine (implSharesOf_any _ _ _ xs0 _ _ _ xs1 z2 z3 _ hn0 (Rd.of_own o_z0) h20_0 hn1 (Rd.of_own o_z1) h20_1 (own_capS o_z1).1 (own_capS o_z1).2).mono ?_
  rintro e w18 ⟨v_h0, rfl, o_h0, b18⟩
  obtain ⟨A_h0, c_h0, rfl⟩ := own_form o_h0
  have B18 := B17.trans (b18.mono B17.size)
  have S18 := b18.size
  have o_w0' := own_below o_w0 b18
  clear o_w0
  have o_w0 := o_w0'
  clear o_w0'
  have o_g0' := own_below o_g0 b18
  clear o_g0
  have o_g0 := o_g0'
  clear o_g0'
  have o_z0' := own_below o_z0 b18
  clear o_z0
  have o_z0 := o_z0'
  clear o_z0'
  have o_z1' := own_below o_z1 b18
  clear o_z1
  have o_z1 := o_z1'
  clear o_z1'
  have ge_h0 := fun k hk => (o_h0.lt k hk).1
  have lt_h0 := fun k hk => (o_h0.lt k hk).2
  go_wp2_with fail
  refine (eqIntS_same _ _ _ _ _ (shV xs0 xs1 z2 z3) _ rfl (Rd.of_own o_h0) (Rd.of_own o_w0) (by have := sh_len xs0 xs1 z2 z3; omega)).mono ?_
  rintro e w19 ⟨rfl, b19⟩
  have B19 := B18.trans (b19.mono B18.size)
  have S19 := b19.size
  have o_w0' := own_below o_w0 b19
  clear o_w0
  have o_w0 := o_w0'
  clear o_w0'
  have o_g0' := own_below o_g0 b19
  clear o_g0
  have o_g0 := o_g0'
  clear o_g0'
  have o_h0' := own_below o_h0 b19
  clear o_h0
  have o_h0 := o_h0'
  clear o_h0'
  go_wp2_with fail
  refine (heldIntS_any _ _ _ (1) _ (Rd.of_own o_g0) (by have := sh_len xs0 xs1 z2 z3; omega) (by omega) (by omega)).mono ?_
  rintro e wx ⟨rfl, rfl⟩
  go_wp2
  go_ret
  exact ⟨rfl, B19⟩

theorem own : ownKnob Try.prog.godebug = none := by kernel_rfl
theorem laidOut : laidOutB Try.prog = true := by kernel_rfl
set_option maxRecDepth 100000 in
theorem lifted (os : Os) (started : os.Started) (H : Type) (enc : TypeId × Value → H) :
    ReturnsInHanded {} Try.checked os 9 .any (Rows.fnExactSharesOfSpec.pre6 enc Try.prog Try.f9 Rows.fnExactSharesOfRow.domain false) (Rows.fnExactSharesOfSpec.post enc Try.prog Try.f9 false true false false) := by
  refine returnsInHanded_of_change (C := Try.checked) own started (by kernel_rfl) Try.func9
    (ChangeSpec.witness6 (enc := enc) (C := Try.checked) false ⟨#[], #[.slice none 0 0, .slice none 0 0, .int .i64 0, .int .i64 0], []⟩ 8 (by kernel_rfl) (by kernel_rfl) (by kernel_rfl) (by kernel_rfl)) ?_
  intro W base args ds gs before hval0 hW hcnd _
  have hval : ∀ (j : Nat) t v, Try.f9.params[j]? = some t → args[j]? = some v → Value.okWide Try.prog W .any base t v := hval0
  have hW' := hW
  obtain ⟨p, q, hA0, hV, rfl, hfz, hnd⟩ := hW
  have hA : DataW.TrodAll enc Try.prog W 0 (fun _ => true) true Try.f9.params.toList args.toList ds p := hA0
  rw [Try.params9] at hA hval
  obtain ⟨v0, vs0, d0, ds0, p0, q0, hargs, rfl, rfl, h0, r0⟩ := trodAll_cons hA
  obtain ⟨v1, vs1, d1, ds1, p1, q1, rfl, rfl, rfl, h1, r1⟩ := trodAll_cons r0
  obtain ⟨v2, vs2, d2, ds2, p2, q2, rfl, rfl, rfl, h2, r2⟩ := trodAll_cons r1
  obtain ⟨v3, vs3, d3, ds3, p3, q3, rfl, rfl, rfl, h3, r3⟩ := trodAll_cons r2
  obtain ⟨rfl, rfl, rfl⟩ := trodAll_nil r3
  obtain rfl : args = #[v0, v1, v2, v3] := by cases args; simp_all
  obtain ⟨rfl, rfl⟩ := trodVars_none hV
  obtain ⟨a0, len0, cap0, rfl⟩ := okWide_slice Try.underlying22 (hval 0 22 v0 rfl rfl)
  have k0 := h0
  have lt0 : ∀ x ∈ p0, x.block < W.heap.size := by obtain ⟨m, hm⟩ := k0; exact DataW.trod_lt m _ _ _ hm
  obtain ⟨xs0, hl0, hr0, hm0, _⟩ := open5 (ti := 3) Try.underlying22 Try.underlying62 (by kernel_rfl) (by kernel_rfl) Try.underlying3 rfl rfl rfl rfl rfl h0
  obtain ⟨a1, len1, cap1, rfl⟩ := okWide_slice Try.underlying38 (hval 1 38 v1 rfl rfl)
  have k1 := h1
  have lt1 : ∀ x ∈ p1, x.block < W.heap.size := by obtain ⟨m, hm⟩ := k1; exact DataW.trod_lt m _ _ _ hm
  obtain ⟨xs1, hl1, hr1, hm1, _⟩ := open1 Try.underlying38 Try.underlying3 (by kernel_rfl) h1
  obtain ⟨a2, rfl, rfl, rfl, wf2⟩ := open_int Try.underlying3 (hval 2 3 v2 rfl rfl) h2
  obtain ⟨a3, rfl, rfl, rfl, wf3⟩ := open_int Try.underlying3 (hval 3 3 v3 rfl rfl) h3
  clear hA0 hval0
  refine (walk a0 len0 cap0 xs0 a1 len1 cap1 xs1 a2 a3 W hl0 hr0 hm0 hl1 hr1 hm1 wf2 wf3).mono fun e W' ⟨he, bel⟩ => ?_
  subst he
  exact ⟨_, rfl, _, _, _, [], _, [], hW', trodAll_mk1 (shut_bool Try.underlying4 _), (trodAll_cons_mk (Below.trod laidOut (by kernel_rfl) (of_decide_eq_true (by kernel_rfl)) k0 bel lt0) (trodAll_cons_mk (Below.trod laidOut (by kernel_rfl) (of_decide_eq_true (by kernel_rfl)) k1 bel lt1) (trodAll_cons_mk (shut_int Try.underlying3 wf2) (trodAll_cons_mk (shut_int Try.underlying3 wf3) trodAll_mk0)))), rfl, bel.frame _, fun h => by cases h⟩

theorem over : Rows.fnExactSharesOfRow.holds Try.pinned (OpenSpec.ofChange Rows.fnExactSharesOfSpec) :=
  OpenClaim.holds_of_wide 9 Try.f9 rfl rfl rfl rfl rfl rfl rfl ⟨rfl, rfl, rfl, rfl, rfl⟩ rfl rfl rfl rfl rfl (by kernel_rfl) Try.func9 (by kernel_rfl)
    (of_decide_eq_true (by kernel_rfl)) (by unfold Func.isWrapper; first | (rw [if_pos (by decide +kernel)]; kernel_rfl) | (rw [if_neg (by decide +kernel)]; exact ⟨rfl, rfl⟩))
    (fun os started H enc _ => lifted os started H enc)

theorem proved : Rows.FnExactSharesOfSaid := over
#print axioms proved
end Go.Proofs.Ytkhkcclebpffmaa.lwSharesOf
