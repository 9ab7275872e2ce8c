/- The law FnExactShortestChain returns true for every input: the two calls, of the reference and of the program, return the same value for all arguments, their arguments stay as they are, and results lie in new memory. No conditions. -/
import Derived.Test.YtkhkcclebpffmaaTreL
import Derived.Test.YtkhkcclebpffmaaInts
import Derived.Test.YtkhkcclebpffmaaOpen
namespace Go.Proofs.Ytkhkcclebpffmaa.lwShortestChain
open Go.ChangeShapes Go.WideShapes Go.ChangeAt Go.RowKit
set_option linter.unusedVariables false

set_option maxHeartbeats 2000000 in
theorem walk (A0 : Option Addr) (n0 c0 : Nat) (xs0 : List R5) (z1 : Int) (z2 : Int) (z3 : Int) (w : World) (hn0 : xs0.length = n0) (hA0 : Rd w A0 (cells5 xs0)) (hm0 : n0 ≤ maxLen) (wz1 : (Lit.int .i64 z1).wf = true) (wz2 : (Lit.int .i64 z2).wf = true) (wz3 : (Lit.int .i64 z3).wf = true) :
    Calls Try.prog 11 #[.slice A0 n0 c0, .int .i64 z1, .int .i64 z2, .int .i64 z3] w (Ret (.bool true) w) := by
  by_cases hbig0 : (1048576 : Int) < n0
  · have e0 := Lib.hid (show szR (1048576) n0 = -1 by rw [szR, if_pos (by omega)])
    go_enter Try.func11, Try.ntmps11
    go_wp2_with fail
    refine (szTreatyS_any A0 n0 c0 (1048576) hm0 (by omega) (by omega) _).mono ?_
    rintro e w1 ⟨rfl, rfl⟩
    rw [e0.out]
    go_wp2
    go_ret
    exact ⟨rfl, Below.refl _ _⟩
  have e0 := Lib.hid (show szR (1048576) n0 = 1048576 - n0 by rw [szR, if_neg (by omega)])
  have h20_0 : n0 ≤ 1048576 := by omega
  go_enter Try.func11, Try.ntmps11
  go_wp2_with fail
  refine (szTreatyS_any A0 n0 c0 (1048576) hm0 (by omega) (by omega) _).mono ?_
  rintro e w1 ⟨rfl, rfl⟩
  rw [e0.out]
  have B0 := Below.refl w.heap.size w
  go_wp2_with fail
  refine (toTreatyS_any A0 n0 c0 xs0 _ hn0 (hA0.below B0) h20_0).mono ?_
  rintro e w1 ⟨v_s0, rfl, o_s0, b1⟩
  obtain ⟨A_s0, c_s0, rfl⟩ := own_form o_s0
  have B1 := B0.trans (b1.mono B0.size)
  have S1 := b1.size
  have ge_s0 := fun k hk => (o_s0.lt k hk).1
  have lt_s0 := fun k hk => (o_s0.lt k hk).2
  go_wp2_with fail
  refine (specShortestChain_any _ _ _ xs0 z1 z2 z3 _ hn0 (Rd.of_own o_s0) h20_0).mono ?_
  rintro e w2 ⟨v_w0, rfl, o_w0, b2⟩
  obtain ⟨A_w0, c_w0, rfl⟩ := own_form o_w0
  have B2 := B1.trans (b2.mono B1.size)
  have S2 := b2.size
  have o_s0' := own_below o_s0 b2
  clear o_s0
  have o_s0 := o_s0'
  clear o_s0'
  have ge_w0 := fun k hk => (o_w0.lt k hk).1
  have lt_w0 := fun k hk => (o_w0.lt k hk).2
  go_wp2_with fail
  refine (toTreatyS_any A0 n0 c0 xs0 _ hn0 (hA0.below B2) h20_0).mono ?_
  rintro e w3 ⟨v_x0, rfl, o_x0, b3⟩
  obtain ⟨A_x0, c_x0, rfl⟩ := own_form o_x0
  have B3 := B2.trans (b3.mono B2.size)
  have S3 := b3.size
  have o_w0' := own_below o_w0 b3
  clear o_w0
  have o_w0 := o_w0'
  clear o_w0'
  have ge_x0 := fun k hk => (o_x0.lt k hk).1
  have lt_x0 := fun k hk => (o_x0.lt k hk).2
  go_wp2_with fail
  refine (implShortestChain_any _ _ _ xs0 z1 z2 z3 _ hn0 (Rd.of_own o_x0) h20_0).mono ?_
  rintro e w4 ⟨v_g0, rfl, o_g0, b4⟩
  obtain ⟨A_g0, c_g0, rfl⟩ := own_form o_g0
  have B4 := B3.trans (b4.mono B3.size)
  have S4 := b4.size
  have o_w0' := own_below o_w0 b4
  clear o_w0
  have o_w0 := o_w0'
  clear o_w0'
  have o_x0' := own_below o_x0 b4
  clear o_x0
  have o_x0 := o_x0'
  clear o_x0'
  have ge_g0 := fun k hk => (o_g0.lt k hk).1
  have lt_g0 := fun k hk => (o_g0.lt k hk).2
  go_wp2_with fail
  refine (eqIntS_same _ _ _ _ _ (scV xs0 z1 z2 z3) _ rfl (Rd.of_own o_g0) (Rd.of_own o_w0) (by have := sc_len xs0 z1 z2 z3; omega)).mono ?_
  rintro e w5 ⟨rfl, b5⟩
  have B5 := B4.trans (b5.mono B4.size)
  have S5 := b5.size
  have o_w0' := own_below o_w0 b5
  clear o_w0
  have o_w0 := o_w0'
  clear o_w0'
  have o_x0' := own_below o_x0 b5
  clear o_x0
  have o_x0 := o_x0'
  clear o_x0'
  have o_g0' := own_below o_g0 b5
  clear o_g0
  have o_g0 := o_g0'
  clear o_g0'
  go_wp2_with fail
  refine (toTreatyS_any A0 n0 c0 xs0 _ hn0 (hA0.below B5) h20_0).mono ?_
  rintro e w6 ⟨v_y0, rfl, o_y0, b6⟩
  obtain ⟨A_y0, c_y0, rfl⟩ := own_form o_y0
  have B6 := B5.trans (b6.mono B5.size)
  have S6 := b6.size
  have o_w0' := own_below o_w0 b6
  clear o_w0
  have o_w0 := o_w0'
  clear o_w0'
  have o_x0' := own_below o_x0 b6
  clear o_x0
  have o_x0 := o_x0'
  clear o_x0'
  have o_g0' := own_below o_g0 b6
  clear o_g0
  have o_g0 := o_g0'
  clear o_g0'
  have ge_y0 := fun k hk => (o_y0.lt k hk).1
  have lt_y0 := fun k hk => (o_y0.lt k hk).2
  go_wp2_with fail
  refine (eqTreatyS_same _ _ _ _ _ (xs0) _ hn0 (Rd.of_own o_x0) (Rd.of_own o_y0) h20_0).mono ?_
  rintro e w7 ⟨rfl, b7⟩
  have B7 := B6.trans (b7.mono B6.size)
  have S7 := b7.size
  have o_w0' := own_below o_w0 b7
  clear o_w0
  have o_w0 := o_w0'
  clear o_w0'
  have o_x0' := own_below o_x0 b7
  clear o_x0
  have o_x0 := o_x0'
  clear o_x0'
  have o_g0' := own_below o_g0 b7
  clear o_g0
  have o_g0 := o_g0'
  clear o_g0'
  have o_y0' := own_below o_y0 b7
  clear o_y0
  have o_y0 := o_y0'
  clear o_y0'
  go_wp2_with fail
  refine (markTreatyS_any _ _ _ _ (1) _ o_x0 h20_0 (by omega) (by omega)).mono ?_
  rintro e w8 ⟨rfl, om8, b8⟩
  have B8 := B7.trans (below_app o_x0 b8 B7.size (by omega))
  have S8 := b8.size
  have o_w0' := o_w0.kept b8 (rows_apart (fun k hk => (lt_w0 k hk)) (fun k hk => (ge_x0 k hk)) (by omega))
  clear o_w0
  have o_w0 := o_w0'
  clear o_w0'
  have o_g0' := o_g0.kept b8 (rows_apart' (fun k hk => (ge_g0 k hk)) (fun k hk => (lt_x0 k hk)) (by omega))
  clear o_g0
  have o_g0 := o_g0'
  clear o_g0'
  clear o_x0
  have o_x0 := om8
  clear om8
  go_wp2_with fail
  refine (eqIntS_same _ _ _ _ _ (scV xs0 z1 z2 z3) _ rfl (Rd.of_own o_g0) (Rd.of_own o_w0) (by have := sc_len xs0 z1 z2 z3; omega)).mono ?_
  rintro e w9 ⟨rfl, b9⟩
  have B9 := B8.trans (b9.mono B8.size)
  have S9 := b9.size
  have o_w0' := own_below o_w0 b9
  clear o_w0
  have o_w0 := o_w0'
  clear o_w0'
  have o_x0' := own_below o_x0 b9
  clear o_x0
  have o_x0 := o_x0'
  clear o_x0'
  have o_g0' := own_below o_g0 b9
  clear o_g0
  have o_g0 := o_g0'
  clear o_g0'
  go_wp2_with fail
  refine (markIntS_any _ _ _ _ (1) _ o_g0 (by have := sc_len xs0 z1 z2 z3; omega) (by omega) (by omega)).mono ?_
  rintro e w10 ⟨rfl, om10, b10⟩
  have B10 := B9.trans (below_app o_g0 b10 B9.size (by omega))
  have S10 := b10.size
  have o_w0' := o_w0.kept b10 (rows_apart (fun k hk => (lt_w0 k hk)) (fun k hk => (ge_g0 k hk)) (by omega))
  clear o_w0
  have o_w0 := o_w0'
  clear o_w0'
  clear o_g0
  have o_g0 := om10
  clear om10
  go_wp2_with fail
  refine (heldIntS_any _ _ _ (1) _ (Rd.of_own o_g0) (by have := sc_len xs0 z1 z2 z3; omega) (by omega) (by omega)).mono ?_
  rintro e wx ⟨rfl, rfl⟩
  go_wp2_with fail
  refine (toTreatyS_any A0 n0 c0 xs0 _ hn0 (hA0.below B10) h20_0).mono ?_
  rintro e w11 ⟨v_z0, rfl, o_z0, b11⟩
  obtain ⟨A_z0, c_z0, rfl⟩ := own_form o_z0
  have B11 := B10.trans (b11.mono B10.size)
  have S11 := b11.size
  have o_w0' := own_below o_w0 b11
  clear o_w0
  have o_w0 := o_w0'
  clear o_w0'
  have o_g0' := own_below o_g0 b11
  clear o_g0
  have o_g0 := o_g0'
  clear o_g0'
  have ge_z0 := fun k hk => (o_z0.lt k hk).1
  have lt_z0 := fun k hk => (o_z0.lt k hk).2
  go_wp2_with fail
  refine (implShortestChain_any _ _ _ xs0 z1 z2 z3 _ hn0 (Rd.of_own o_z0) h20_0).mono ?_
  rintro e w12 ⟨v_h0, rfl, o_h0, b12⟩
  obtain ⟨A_h0, c_h0, rfl⟩ := own_form o_h0
  have B12 := B11.trans (b12.mono B11.size)
  have S12 := b12.size
  have o_w0' := own_below o_w0 b12
  clear o_w0
  have o_w0 := o_w0'
  clear o_w0'
  have o_g0' := own_below o_g0 b12
  clear o_g0
  have o_g0 := o_g0'
  clear o_g0'
  have o_z0' := own_below o_z0 b12
  clear o_z0
  have o_z0 := o_z0'
  clear o_z0'
  have ge_h0 := fun k hk => (o_h0.lt k hk).1
  have lt_h0 := fun k hk => (o_h0.lt k hk).2
  go_wp2_with fail
  refine (eqIntS_same _ _ _ _ _ (scV xs0 z1 z2 z3) _ rfl (Rd.of_own o_h0) (Rd.of_own o_w0) (by have := sc_len xs0 z1 z2 z3; omega)).mono ?_
  rintro e w13 ⟨rfl, b13⟩
  have B13 := B12.trans (b13.mono B12.size)
  have S13 := b13.size
  have o_w0' := own_below o_w0 b13
  clear o_w0
  have o_w0 := o_w0'
  clear o_w0'
  have o_g0' := own_below o_g0 b13
  clear o_g0
  have o_g0 := o_g0'
  clear o_g0'
  have o_h0' := own_below o_h0 b13
  clear o_h0
  have o_h0 := o_h0'
  clear o_h0'
  go_wp2_with fail
  refine (heldIntS_any _ _ _ (1) _ (Rd.of_own o_g0) (by have := sc_len xs0 z1 z2 z3; omega) (by omega) (by omega)).mono ?_
  rintro e wx ⟨rfl, rfl⟩
  go_wp2
  go_ret
  exact ⟨rfl, B13⟩

theorem own : ownKnob Try.prog.godebug = none := by kernel_rfl
theorem laidOut : laidOutB Try.prog = true := by kernel_rfl
set_option maxRecDepth 100000 in
theorem lifted (os : Os) (started : os.Started) (H : Type) (enc : TypeId × Value → H) :
    ReturnsInHanded {} Try.checked os 11 .any (Rows.fnExactShortestChainSpec.pre6 enc Try.prog Try.f11 Rows.fnExactShortestChainRow.domain false) (Rows.fnExactShortestChainSpec.post enc Try.prog Try.f11 false true false false) := by
  refine returnsInHanded_of_change (C := Try.checked) own started (by kernel_rfl) Try.func11
    (ChangeSpec.witness6 (enc := enc) (C := Try.checked) false ⟨#[], #[.slice none 0 0, .int .i64 0, .int .i64 0, .int .i64 0], []⟩ 8 (by kernel_rfl) (by kernel_rfl) (by kernel_rfl) (by kernel_rfl)) ?_
  intro W base args ds gs before hval0 hW hcnd _
  have hval : ∀ (j : Nat) t v, Try.f11.params[j]? = some t → args[j]? = some v → Value.okWide Try.prog W .any base t v := hval0
  have hW' := hW
  obtain ⟨p, q, hA0, hV, rfl, hfz, hnd⟩ := hW
  have hA : DataW.TrodAll enc Try.prog W 0 (fun _ => true) true Try.f11.params.toList args.toList ds p := hA0
  rw [Try.params11] at hA hval
  obtain ⟨v0, vs0, d0, ds0, p0, q0, hargs, rfl, rfl, h0, r0⟩ := trodAll_cons hA
  obtain ⟨v1, vs1, d1, ds1, p1, q1, rfl, rfl, rfl, h1, r1⟩ := trodAll_cons r0
  obtain ⟨v2, vs2, d2, ds2, p2, q2, rfl, rfl, rfl, h2, r2⟩ := trodAll_cons r1
  obtain ⟨v3, vs3, d3, ds3, p3, q3, rfl, rfl, rfl, h3, r3⟩ := trodAll_cons r2
  obtain ⟨rfl, rfl, rfl⟩ := trodAll_nil r3
  obtain rfl : args = #[v0, v1, v2, v3] := by cases args; simp_all
  obtain ⟨rfl, rfl⟩ := trodVars_none hV
  obtain ⟨a0, len0, cap0, rfl⟩ := okWide_slice Try.underlying22 (hval 0 22 v0 rfl rfl)
  have k0 := h0
  have lt0 : ∀ x ∈ p0, x.block < W.heap.size := by obtain ⟨m, hm⟩ := k0; exact DataW.trod_lt m _ _ _ hm
  obtain ⟨xs0, hl0, hr0, hm0, _⟩ := open5 (ti := 3) Try.underlying22 Try.underlying62 (by kernel_rfl) (by kernel_rfl) Try.underlying3 rfl rfl rfl rfl rfl h0
  obtain ⟨a1, rfl, rfl, rfl, wf1⟩ := open_int Try.underlying3 (hval 1 3 v1 rfl rfl) h1
  obtain ⟨a2, rfl, rfl, rfl, wf2⟩ := open_int Try.underlying3 (hval 2 3 v2 rfl rfl) h2
  obtain ⟨a3, rfl, rfl, rfl, wf3⟩ := open_int Try.underlying3 (hval 3 3 v3 rfl rfl) h3
  clear hA0 hval0
  refine (walk a0 len0 cap0 xs0 a1 a2 a3 W hl0 hr0 hm0 wf1 wf2 wf3).mono fun e W' ⟨he, bel⟩ => ?_
  subst he
  exact ⟨_, rfl, _, _, _, [], _, [], hW', trodAll_mk1 (shut_bool Try.underlying4 _), (trodAll_cons_mk (Below.trod laidOut (by kernel_rfl) (of_decide_eq_true (by kernel_rfl)) k0 bel lt0) (trodAll_cons_mk (shut_int Try.underlying3 wf1) (trodAll_cons_mk (shut_int Try.underlying3 wf2) (trodAll_cons_mk (shut_int Try.underlying3 wf3) trodAll_mk0)))), rfl, bel.frame _, fun h => by cases h⟩

theorem over : Rows.fnExactShortestChainRow.holds Try.pinned (OpenSpec.ofChange Rows.fnExactShortestChainSpec) :=
  OpenClaim.holds_of_wide 11 Try.f11 rfl rfl rfl rfl rfl rfl rfl ⟨rfl, rfl, rfl, rfl, rfl⟩ rfl rfl rfl rfl rfl (by kernel_rfl) Try.func11 (by kernel_rfl)
    (of_decide_eq_true (by kernel_rfl)) (by unfold Func.isWrapper; first | (rw [if_pos (by decide +kernel)]; kernel_rfl) | (rw [if_neg (by decide +kernel)]; exact ⟨rfl, rfl⟩))
    (fun os started H enc _ => lifted os started H enc)

theorem proved : Rows.FnExactShortestChainSaid := over
#print axioms proved
end Go.Proofs.Ytkhkcclebpffmaa.lwShortestChain
