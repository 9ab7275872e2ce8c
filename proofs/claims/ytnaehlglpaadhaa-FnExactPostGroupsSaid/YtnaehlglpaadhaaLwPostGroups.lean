/- The law FnExactPostGroups returns true for every input: the two calls, of the reference and of the program, return the same value for all arguments, their arguments stay as they are, and results lie in new memory. No conditions. -/
import Derived.Test.YtnaehlglpaadhaaGrpI
import Derived.Test.YtnaehlglpaadhaaInts
import Derived.Test.YtnaehlglpaadhaaOpen
namespace Go.Proofs.Ytnaehlglpaadhaa.lwPostGroups
set_option linter.unusedSimpArgs false
open Go.ChangeShapes Go.WideShapes Go.ChangeAt Go.RowKit
set_option linter.unusedVariables false

set_option maxHeartbeats 4000000 in
set_option maxRecDepth 20000 in
theorem walk (A0 : Option Addr) (n0 c0 : Nat) (xs0 : List R5) (z1 : Int) (w : World) (hn0 : xs0.length = n0) (hA0 : Rd w A0 (cells5 xs0)) (hm0 : n0 ≤ maxLen) (wz1 : (Lit.int .i64 z1).wf = true) :
    Calls Try.prog 3 #[.slice A0 n0 c0, .int .i64 z1] w (Ret (.bool true) w) := by
  by_cases hbig0 : (1048576 : Int) < n0
  · have e0 := Lib.hid (show szR (1048576) n0 = -1 by rw [szR, if_pos (by omega)])
    go_enter Try.func3, Try.ntmps3
    go_wp2_with fail
    refine (szTreatyS_any A0 n0 c0 (1048576) hm0 (by omega) (by omega) _).mono ?_
    rintro e w1 ⟨rfl, rfl⟩
    rw [e0.out]
    go_wp2
    go_ret
    exact ⟨rfl, Below.refl _ _⟩
  have e0 := Lib.hid (show szR (1048576) n0 = 1048576 - n0 by rw [szR, if_neg (by omega)])
  have h20_0 : n0 ≤ 1048576 := by omega
  go_enter Try.func3, Try.ntmps3
  go_wp2_with fail
  refine (szTreatyS_any A0 n0 c0 (1048576) hm0 (by omega) (by omega) _).mono ?_
  rintro e w1 ⟨rfl, rfl⟩
  rw [e0.out]
  have B0 := Below.refl w.heap.size w
  go_wp2_with fail
  refine (toTreatyS_any A0 n0 c0 xs0 _ hn0 (hA0.below B0) h20_0).mono ?_
  rintro e w1 ⟨v_s0, rfl, o_s0, b1⟩
  obtain ⟨A_s0, c_s0, rfl⟩ := own_form o_s0
  have B1 := B0.trans (b1.mono B0.size)
  have S1 := b1.size
  have ge_s0 := fun k hk => (o_s0.lt k hk).1
  have lt_s0 := fun k hk => (o_s0.lt k hk).2
  go_wp2_with fail
  refine (specPostGroups_any _ _ _ xs0 z1 _ hn0 (Rd.of_own o_s0) h20_0).mono ?_
  rintro e w2 ⟨v_w0, vs_w0, rfl, o_w0, b2⟩
  obtain ⟨A_w0, c_w0, rfl⟩ := own_form o_w0.2.1
  have B2 := B1.trans (b2.mono B1.size)
  have S2 := b2.size
  have oo := own_below o_s0 b2
  clear o_s0
  have o_s0 := oo
  clear oo
  have ge_w0 := fun j a k ha hk => (o_w0.lt j a k ha hk).1
  have lt_w0 := fun j a k ha hk => (o_w0.lt j a k ha hk).2
  go_wp2_with fail
  refine (toTreatyS_any A0 n0 c0 xs0 _ hn0 (hA0.below B2) h20_0).mono ?_
  rintro e w3 ⟨v_x0, rfl, o_x0, b3⟩
  obtain ⟨A_x0, c_x0, rfl⟩ := own_form o_x0
  have B3 := B2.trans (b3.mono B2.size)
  have S3 := b3.size
  have oo := o_w0.below b3
  clear o_w0
  have o_w0 := oo
  clear oo
  have ge_x0 := fun k hk => (o_x0.lt k hk).1
  have lt_x0 := fun k hk => (o_x0.lt k hk).2
  go_wp2_with fail
  refine (implPostGroups_any _ _ _ xs0 z1 _ hn0 (Rd.of_own o_x0) h20_0).mono ?_
  rintro e w4 ⟨v_g0, vs_g0, rfl, o_g0, b4⟩
  obtain ⟨A_g0, c_g0, rfl⟩ := own_form o_g0.2.1
  have B4 := B3.trans (b4.mono B3.size)
  have S4 := b4.size
  have oo := o_w0.below b4
  clear o_w0
  have o_w0 := oo
  clear oo
  have oo := own_below o_x0 b4
  clear o_x0
  have o_x0 := oo
  clear oo
  have ge_g0 := fun j a k ha hk => (o_g0.lt j a k ha hk).1
  have lt_g0 := fun j a k ha hk => (o_g0.lt j a k ha hk).2
  go_wp2_with fail
  refine (eqIntSS_same _ _ _ _ _ (gpV xs0 z1) _ rfl o_g0.rd o_w0.rd (by have := gp_len xs0 z1; omega) (fun x hx => by have := gp_in x hx; omega)).mono ?_
  rintro e w5 ⟨rfl, b5⟩
  have B5 := B4.trans (b5.mono B4.size)
  have S5 := b5.size
  have oo := o_w0.below b5
  clear o_w0
  have o_w0 := oo
  clear oo
  have oo := own_below o_x0 b5
  clear o_x0
  have o_x0 := oo
  clear oo
  have oo := o_g0.below b5
  clear o_g0
  have o_g0 := oo
  clear oo
  go_wp2_with fail
  refine (toTreatyS_any A0 n0 c0 xs0 _ hn0 (hA0.below B5) h20_0).mono ?_
  rintro e w6 ⟨v_y0, rfl, o_y0, b6⟩
  obtain ⟨A_y0, c_y0, rfl⟩ := own_form o_y0
  have B6 := B5.trans (b6.mono B5.size)
  have S6 := b6.size
  have oo := o_w0.below b6
  clear o_w0
  have o_w0 := oo
  clear oo
  have oo := own_below o_x0 b6
  clear o_x0
  have o_x0 := oo
  clear oo
  have oo := o_g0.below b6
  clear o_g0
  have o_g0 := oo
  clear oo
  have ge_y0 := fun k hk => (o_y0.lt k hk).1
  have lt_y0 := fun k hk => (o_y0.lt k hk).2
  go_wp2_with fail
  refine (eqTreatyS_same _ _ _ _ _ (xs0) _ hn0 (Rd.of_own o_x0) (Rd.of_own o_y0) h20_0).mono ?_
  rintro e w7 ⟨rfl, b7⟩
  have B7 := B6.trans (b7.mono B6.size)
  have S7 := b7.size
  have oo := o_w0.below b7
  clear o_w0
  have o_w0 := oo
  clear oo
  have oo := own_below o_x0 b7
  clear o_x0
  have o_x0 := oo
  clear oo
  have oo := o_g0.below b7
  clear o_g0
  have o_g0 := oo
  clear oo
  have oo := own_below o_y0 b7
  clear o_y0
  have o_y0 := oo
  clear oo
  go_wp2_with fail
  refine (markTreatyS_any _ _ _ _ (1) _ o_x0 h20_0 (by omega) (by omega)).mono ?_
  rintro e w8 ⟨rfl, om8, bg8⟩
  have b8 := Only.of_grown bg8
  clear bg8
  have B8 := B7.trans (b8.below (fun k hS => by have m1 := ge_x0 k hS; have m2 := lt_x0 k hS; omega) B7.size)
  have S8 := b8.size
  have oo := o_w0.only b8 (fun j a k ha hk hS => by have r1 := ge_w0 j a k ha hk; have r2 := lt_w0 j a k ha hk; have m1 := ge_x0 k hS; have m2 := lt_x0 k hS; omega)
  clear o_w0
  have o_w0 := oo
  clear oo
  have oo := o_g0.only b8 (fun j a k ha hk hS => by have r1 := ge_g0 j a k ha hk; have r2 := lt_g0 j a k ha hk; have m1 := ge_x0 k hS; have m2 := lt_x0 k hS; omega)
  clear o_g0
  have o_g0 := oo
  clear oo
  clear o_x0
  have o_x0 := om8
  clear om8
  go_wp2_with fail
  refine (eqIntSS_same _ _ _ _ _ (gpV xs0 z1) _ rfl o_g0.rd o_w0.rd (by have := gp_len xs0 z1; omega) (fun x hx => by have := gp_in x hx; omega)).mono ?_
  rintro e w9 ⟨rfl, b9⟩
  have B9 := B8.trans (b9.mono B8.size)
  have S9 := b9.size
  have oo := o_w0.below b9
  clear o_w0
  have o_w0 := oo
  clear oo
  have oo := own_below o_x0 b9
  clear o_x0
  have o_x0 := oo
  clear oo
  have oo := o_g0.below b9
  clear o_g0
  have o_g0 := oo
  clear oo
  go_wp2_with fail
  refine (markIntSS_any _ _ _ _ (gpV xs0 z1) _ (1) _ rfl o_g0 (by have := gp_len xs0 z1; omega) (fun x hx => by have := gp_in x hx; omega) (gp_szG xs0 z1) (by omega) (by omega)).mono ?_
  rintro e w10 ⟨rfl, om10, b10⟩
  have hss10 := (gp_szG xs0 z1)
  have B10 := B9.trans (b10.below (fun k hS => by obtain ⟨jm, am, ham, hkm⟩ := hS; have m1 := ge_g0 jm am k ham hkm; have m2 := lt_g0 jm am k ham hkm; omega) B9.size)
  have S10 := b10.size
  have oo := o_w0.only b10 (fun j a k ha hk hS => by have r1 := ge_w0 j a k ha hk; have r2 := lt_w0 j a k ha hk; obtain ⟨jm, am, ham, hkm⟩ := hS; have m1 := ge_g0 jm am k ham hkm; have m2 := lt_g0 jm am k ham hkm; omega)
  clear o_w0
  have o_w0 := oo
  clear oo
  clear o_g0
  have o_g0 := om10
  clear om10
  go_wp2_with fail
  refine (heldIntSS_any _ _ _ (gpV xs0 z1) (1) _ o_g0.rd rfl (by have := gp_len xs0 z1; omega) (fun x hx => by have := gp_in x hx; omega) (gp_szG xs0 z1) (by omega) (by omega)).mono ?_
  rintro e wx ⟨rfl, rfl⟩
  go_wp2_with fail
  refine (toTreatyS_any A0 n0 c0 xs0 _ hn0 (hA0.below B10) h20_0).mono ?_
  rintro e w11 ⟨v_z0, rfl, o_z0, b11⟩
  obtain ⟨A_z0, c_z0, rfl⟩ := own_form o_z0
  have B11 := B10.trans (b11.mono B10.size)
  have S11 := b11.size
  have oo := o_w0.below b11
  clear o_w0
  have o_w0 := oo
  clear oo
  have oo := o_g0.below b11
  clear o_g0
  have o_g0 := oo
  clear oo
  have ge_z0 := fun k hk => (o_z0.lt k hk).1
  have lt_z0 := fun k hk => (o_z0.lt k hk).2
  go_wp2_with fail
  refine (implPostGroups_any _ _ _ xs0 z1 _ hn0 (Rd.of_own o_z0) h20_0).mono ?_
  rintro e w12 ⟨v_h0, vs_h0, rfl, o_h0, b12⟩
  obtain ⟨A_h0, c_h0, rfl⟩ := own_form o_h0.2.1
  have B12 := B11.trans (b12.mono B11.size)
  have S12 := b12.size
  have oo := o_w0.below b12
  clear o_w0
  have o_w0 := oo
  clear oo
  have oo := o_g0.below b12
  clear o_g0
  have o_g0 := oo
  clear oo
  have oo := own_below o_z0 b12
  clear o_z0
  have o_z0 := oo
  clear oo
  have ge_h0 := fun j a k ha hk => (o_h0.lt j a k ha hk).1
  have lt_h0 := fun j a k ha hk => (o_h0.lt j a k ha hk).2
  go_wp2_with fail
  refine (eqIntSS_same _ _ _ _ _ (gpV xs0 z1) _ rfl o_h0.rd o_w0.rd (by have := gp_len xs0 z1; omega) (fun x hx => by have := gp_in x hx; omega)).mono ?_
  rintro e w13 ⟨rfl, b13⟩
  have B13 := B12.trans (b13.mono B12.size)
  have S13 := b13.size
  have oo := o_w0.below b13
  clear o_w0
  have o_w0 := oo
  clear oo
  have oo := o_g0.below b13
  clear o_g0
  have o_g0 := oo
  clear oo
  have oo := o_h0.below b13
  clear o_h0
  have o_h0 := oo
  clear oo
  go_wp2_with fail
  refine (heldIntSS_any _ _ _ (gpV xs0 z1) (1) _ o_g0.rd rfl (by have := gp_len xs0 z1; omega) (fun x hx => by have := gp_in x hx; omega) (gp_szG xs0 z1) (by omega) (by omega)).mono ?_
  rintro e wx ⟨rfl, rfl⟩
  go_wp2
  go_ret
  exact ⟨rfl, B13⟩

theorem own : ownKnob Try.prog.godebug = none := by kernel_rfl
theorem laidOut : laidOutB Try.prog = true := by kernel_rfl
set_option maxRecDepth 100000 in
theorem lifted (os : Os) (started : os.Started) (H : Type) (enc : TypeId × Value → H) :
    ReturnsInHanded {} Try.checked os 3 .any (Rows.fnExactPostGroupsSpec.pre6 enc Try.prog Try.f3 Rows.fnExactPostGroupsRow.domain false) (Rows.fnExactPostGroupsSpec.post enc Try.prog Try.f3 false true false false) := by
  refine returnsInHanded_of_change (C := Try.checked) own started (by kernel_rfl) Try.func3
    (ChangeSpec.witness6 (enc := enc) (C := Try.checked) false ⟨#[], #[.slice none 0 0, .int .i64 0], []⟩ 8 (by kernel_rfl) (by kernel_rfl) (by kernel_rfl) (by kernel_rfl)) ?_
  intro W base args ds gs before hval0 hW hcnd _
  have hval : ∀ (j : Nat) t v, Try.f3.params[j]? = some t → args[j]? = some v → Value.okWide Try.prog W .any base t v := hval0
  have hW' := hW
  obtain ⟨p, q, hA0, hV, rfl, hfz, hnd⟩ := hW
  have hA : DataW.TrodAll enc Try.prog W 0 (fun _ => true) true Try.f3.params.toList args.toList ds p := hA0
  rw [Try.params3] at hA hval
  obtain ⟨v0, vs0, d0, ds0, p0, q0, hargs, rfl, rfl, h0, r0⟩ := trodAll_cons hA
  obtain ⟨v1, vs1, d1, ds1, p1, q1, rfl, rfl, rfl, h1, r1⟩ := trodAll_cons r0
  obtain ⟨rfl, rfl, rfl⟩ := trodAll_nil r1
  obtain rfl : args = #[v0, v1] := by cases args; simp_all
  obtain ⟨rfl, rfl⟩ := trodVars_none hV
  obtain ⟨a0, len0, cap0, rfl⟩ := okWide_slice Try.underlying22 (hval 0 22 v0 rfl rfl)
  have k0 := h0
  have lt0 : ∀ x ∈ p0, x.block < W.heap.size := by obtain ⟨m, hm⟩ := k0; exact DataW.trod_lt m _ _ _ hm
  obtain ⟨xs0, hl0, hr0, hm0, _⟩ := open5 (ti := 3) Try.underlying22 Try.underlying43 (by kernel_rfl) (by kernel_rfl) Try.underlying3 rfl rfl rfl rfl rfl h0
  obtain ⟨a1, rfl, rfl, rfl, wf1⟩ := open_int Try.underlying3 (hval 1 3 v1 rfl rfl) h1
  clear hA0 hval0
  refine (walk a0 len0 cap0 xs0 a1 W hl0 hr0 hm0 wf1).mono fun e W' ⟨he, bel⟩ => ?_
  subst he
  exact ⟨_, rfl, _, _, _, [], _, [], hW', trodAll_mk1 (shut_bool Try.underlying4 _), (trodAll_cons_mk (Below.trod laidOut (by kernel_rfl) (of_decide_eq_true (by kernel_rfl)) k0 bel lt0) (trodAll_cons_mk (shut_int Try.underlying3 wf1) trodAll_mk0)), rfl, bel.frame _, fun h => by cases h⟩

theorem over : Rows.fnExactPostGroupsRow.holds Try.pinned (OpenSpec.ofChange Rows.fnExactPostGroupsSpec) :=
  OpenClaim.holds_of_wide 3 Try.f3 rfl rfl rfl rfl rfl rfl rfl ⟨rfl, rfl, rfl, rfl, rfl⟩ rfl rfl rfl rfl rfl (by kernel_rfl) Try.func3 (by kernel_rfl)
    (of_decide_eq_true (by kernel_rfl)) (by unfold Func.isWrapper; first | (rw [if_pos (by decide +kernel)]; kernel_rfl) | (rw [if_neg (by decide +kernel)]; exact ⟨rfl, rfl⟩))
    (fun os started H enc _ => lifted os started H enc)

theorem proved : Rows.FnExactPostGroupsSaid := over
#print axioms proved
end Go.Proofs.Ytnaehlglpaadhaa.lwPostGroups
