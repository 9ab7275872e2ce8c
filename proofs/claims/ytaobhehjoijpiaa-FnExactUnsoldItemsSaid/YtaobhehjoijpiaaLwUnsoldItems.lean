/- The law FnExactUnsoldItems returns true for every input: the two calls, of the reference and of the program, return the same value for all arguments, their arguments stay as they are, and results lie in new memory. No conditions. -/
import Derived.Test.YtaobhehjoijpiaaAppZU
import Derived.Test.YtaobhehjoijpiaaAppU
import Derived.Test.YtaobhehjoijpiaaInts
import Derived.Test.YtaobhehjoijpiaaOpen
import Derived.Test.YtaobhehjoijpiaaAppO
namespace Go.Proofs.Ytaobhehjoijpiaa.lwUnsoldItems
set_option linter.unusedSimpArgs false
open Go.ChangeShapes Go.WideShapes Go.ChangeAt Go.RowKit
set_option linter.unusedVariables false

set_option maxHeartbeats 4000000 in
set_option maxRecDepth 20000 in
theorem walk (A0 : Option Addr) (n0 c0 : Nat) (xs0 : List AR) (w : World) (hn0 : xs0.length = n0) (hA0 : RdA w A0 xs0) (hm0 : n0 ≤ maxLen) :
    Calls Try.prog 10 #[.slice A0 n0 c0] w (Ret (.bool true) w) := by
  subst hn0
  by_cases hbig0 : szAV 1048576 xs0 < 0
  · have e0 := Lib.hid (show szAV 1048576 xs0 = -1 from szAV_neg hbig0)
    go_enter Try.func10, Try.ntmps10
    go_wp2_with fail
    refine (szApprovalS_any A0 _ c0 1048576 xs0 _ rfl hA0 hm0 (by omega) (by omega)).mono ?_
    rintro e w1 ⟨rfl, b1⟩
    rw [e0.out]
    go_wp2
    go_ret
    exact ⟨rfl, b1⟩
  have hz0 : 0 ≤ szAV 1048576 xs0 := by omega
  obtain ⟨h20_0, hw0, hs0⟩ := szAV_pos hz0
  have hzb0 := szAV_le xs0 (1048576) (by omega)
  obtain ⟨left0, hleft0⟩ : ∃ l, l = szAV 1048576 xs0 := ⟨_, rfl⟩
  have HL0 := Lib.hid hleft0
  rw [← hleft0] at hz0 hzb0
  clear hbig0 hleft0
  go_enter Try.func10, Try.ntmps10
  go_wp2_with fail
  refine (szApprovalS_any A0 _ c0 1048576 xs0 _ rfl hA0 hm0 (by omega) (by omega)).mono ?_
  rintro e w1 ⟨rfl, b1⟩
  rw [← HL0.out]
  clear HL0
  have B1 : Below w.heap.size w w1 := b1
  have S1 := b1.size
  go_wp2_with fail
  refine (toApprovalS_any A0 _ c0 xs0 _ rfl (hA0.below B1) h20_0 hw0).mono ?_
  rintro e w2 ⟨v_s0, vs_s0, rfl, o_s0, b2⟩
  obtain ⟨A_s0, c_s0, rfl⟩ := own_form o_s0.2.1
  have B2 := B1.trans (b2.mono B1.size)
  have S2 := b2.size
  have ge_s0 := fun j a k ha hk => (o_s0.lt j a k ha hk).1
  have lt_s0 := fun j a k ha hk => (o_s0.lt j a k ha hk).2
  go_wp2_with fail
  refine (specUnsoldItems_any _ _ _ xs0 _ rfl o_s0.rd h20_0 hw0 (own_cap o_s0.2.1)).mono ?_
  rintro e w3 ⟨v_w0, rfl, o_w0, b3⟩
  obtain ⟨A_w0, c_w0, rfl⟩ := own_form o_w0
  have B3 := B2.trans (b3.mono B2.size)
  have S3 := b3.size
  have oo := o_s0.below b3
  clear o_s0
  have o_s0 := oo
  clear oo
  have ge_w0 := fun k hk => (o_w0.lt k hk).1
  have lt_w0 := fun k hk => (o_w0.lt k hk).2
  go_wp2_with fail
  refine (toApprovalS_any A0 _ c0 xs0 _ rfl (hA0.below B3) h20_0 hw0).mono ?_
  rintro e w4 ⟨v_x0, vs_x0, rfl, o_x0, b4⟩
  obtain ⟨A_x0, c_x0, rfl⟩ := own_form o_x0.2.1
  have B4 := B3.trans (b4.mono B3.size)
  have S4 := b4.size
  have oo := own_below o_w0 b4
  clear o_w0
  have o_w0 := oo
  clear oo
  have ge_x0 := fun j a k ha hk => (o_x0.lt j a k ha hk).1
  have lt_x0 := fun j a k ha hk => (o_x0.lt j a k ha hk).2
  go_wp2_with fail
  refine (implUnsoldItems_any _ _ _ xs0 _ rfl o_x0.rd h20_0 hw0 (own_cap o_x0.2.1)).mono ?_
  rintro e w5 ⟨v_g0, rfl, o_g0, b5⟩
  obtain ⟨A_g0, c_g0, rfl⟩ := own_form o_g0
  have B5 := B4.trans (b5.mono B4.size)
  have S5 := b5.size
  have oo := own_below o_w0 b5
  clear o_w0
  have o_w0 := oo
  clear oo
  have oo := o_x0.below b5
  clear o_x0
  have o_x0 := oo
  clear oo
  have ge_g0 := fun k hk => (o_g0.lt k hk).1
  have lt_g0 := fun k hk => (o_g0.lt k hk).2
  go_wp2_with fail
  refine (eqIntS_same _ _ _ _ _ (unV xs0) _ rfl (Rd.of_own o_g0) (Rd.of_own o_w0) (by have := unV_len xs0; omega)).mono ?_
  rintro e w6 ⟨rfl, b6⟩
  have B6 := B5.trans (b6.mono B5.size)
  have S6 := b6.size
  have oo := own_below o_w0 b6
  clear o_w0
  have o_w0 := oo
  clear oo
  have oo := o_x0.below b6
  clear o_x0
  have o_x0 := oo
  clear oo
  have oo := own_below o_g0 b6
  clear o_g0
  have o_g0 := oo
  clear oo
  go_wp2_with fail
  refine (toApprovalS_any A0 _ c0 xs0 _ rfl (hA0.below B6) h20_0 hw0).mono ?_
  rintro e w7 ⟨v_y0, vs_y0, rfl, o_y0, b7⟩
  obtain ⟨A_y0, c_y0, rfl⟩ := own_form o_y0.2.1
  have B7 := B6.trans (b7.mono B6.size)
  have S7 := b7.size
  have oo := own_below o_w0 b7
  clear o_w0
  have o_w0 := oo
  clear oo
  have oo := o_x0.below b7
  clear o_x0
  have o_x0 := oo
  clear oo
  have oo := own_below o_g0 b7
  clear o_g0
  have o_g0 := oo
  clear oo
  have ge_y0 := fun j a k ha hk => (o_y0.lt j a k ha hk).1
  have lt_y0 := fun j a k ha hk => (o_y0.lt j a k ha hk).2
  go_wp2_with fail
  refine (eqApprovalS_same _ _ _ _ _ (xs0) _ rfl o_x0.rd o_y0.rd h20_0 hw0).mono ?_
  rintro e w8 ⟨rfl, b8⟩
  have B8 := B7.trans (b8.mono B7.size)
  have S8 := b8.size
  have oo := own_below o_w0 b8
  clear o_w0
  have o_w0 := oo
  clear oo
  have oo := o_x0.below b8
  clear o_x0
  have o_x0 := oo
  clear oo
  have oo := own_below o_g0 b8
  clear o_g0
  have o_g0 := oo
  clear oo
  have oo := o_y0.below b8
  clear o_y0
  have o_y0 := oo
  clear oo
  go_wp2_with fail
  refine (markApprovalS_any _ _ _ (xs0) _ (1) _ o_x0 h20_0 hw0 hs0 (by omega) (by omega)).mono ?_
  rintro e w9 ⟨rfl, om9, b9⟩
  have hss9 := hs0
  have B9 := B8.trans (b9.below (fun k hS => by obtain ⟨jm, am, ham, hkm⟩ := hS; have m1 := ge_x0 jm am k ham hkm; have m2 := lt_x0 jm am k ham hkm; omega) B8.size)
  have S9 := b9.size
  have oo := own_only o_w0 b9 (fun k hk hS => by have r1 := ge_w0 k hk; have r2 := lt_w0 k hk; obtain ⟨jm, am, ham, hkm⟩ := hS; have m1 := ge_x0 jm am k ham hkm; have m2 := lt_x0 jm am k ham hkm; omega)
  clear o_w0
  have o_w0 := oo
  clear oo
  have oo := own_only o_g0 b9 (fun k hk hS => by have r1 := ge_g0 k hk; have r2 := lt_g0 k hk; obtain ⟨jm, am, ham, hkm⟩ := hS; have m1 := ge_x0 jm am k ham hkm; have m2 := lt_x0 jm am k ham hkm; omega)
  clear o_g0
  have o_g0 := oo
  clear oo
  clear o_x0
  have o_x0 := om9
  clear om9
  go_wp2_with fail
  refine (eqIntS_same _ _ _ _ _ (unV xs0) _ rfl (Rd.of_own o_g0) (Rd.of_own o_w0) (by have := unV_len xs0; omega)).mono ?_
  rintro e w10 ⟨rfl, b10⟩
  have B10 := B9.trans (b10.mono B9.size)
  have S10 := b10.size
  have oo := own_below o_w0 b10
  clear o_w0
  have o_w0 := oo
  clear oo
  have oo := o_x0.below b10
  clear o_x0
  have o_x0 := oo
  clear oo
  have oo := own_below o_g0 b10
  clear o_g0
  have o_g0 := oo
  clear oo
  go_wp2_with fail
  refine (markIntS_any _ _ _ _ (1) _ o_g0 (by have := unV_len xs0; omega) (by omega) (by omega)).mono ?_
  rintro e w11 ⟨rfl, om11, bg11⟩
  have b11 := Only.of_grown bg11
  clear bg11
  have hss11 := unV_len xs0
  have B11 := B10.trans (b11.below (fun k hS => by have m1 := ge_g0 k hS; have m2 := lt_g0 k hS; omega) B10.size)
  have S11 := b11.size
  have oo := own_only o_w0 b11 (fun k hk hS => by have r1 := ge_w0 k hk; have r2 := lt_w0 k hk; have m1 := ge_g0 k hS; have m2 := lt_g0 k hS; omega)
  clear o_w0
  have o_w0 := oo
  clear oo
  clear o_g0
  have o_g0 := om11
  clear om11
  go_wp2_with fail
  refine (heldIntS_any _ _ _ (1) _ (Rd.of_own o_g0) (by have := unV_len xs0; omega) (by omega) (by omega)).mono ?_
  rintro e wx ⟨rfl, rfl⟩
  go_wp2_with fail
  refine (toApprovalS_any A0 _ c0 xs0 _ rfl (hA0.below B11) h20_0 hw0).mono ?_
  rintro e w12 ⟨v_z0, vs_z0, rfl, o_z0, b12⟩
  obtain ⟨A_z0, c_z0, rfl⟩ := own_form o_z0.2.1
  have B12 := B11.trans (b12.mono B11.size)
  have S12 := b12.size
  have oo := own_below o_w0 b12
  clear o_w0
  have o_w0 := oo
  clear oo
  have oo := own_below o_g0 b12
  clear o_g0
  have o_g0 := oo
  clear oo
  have ge_z0 := fun j a k ha hk => (o_z0.lt j a k ha hk).1
  have lt_z0 := fun j a k ha hk => (o_z0.lt j a k ha hk).2
  go_wp2_with fail
  refine (implUnsoldItems_any _ _ _ xs0 _ rfl o_z0.rd h20_0 hw0 (own_cap o_z0.2.1)).mono ?_
  rintro e w13 ⟨v_h0, rfl, o_h0, b13⟩
  obtain ⟨A_h0, c_h0, rfl⟩ := own_form o_h0
  have B13 := B12.trans (b13.mono B12.size)
  have S13 := b13.size
  have oo := own_below o_w0 b13
  clear o_w0
  have o_w0 := oo
  clear oo
  have oo := own_below o_g0 b13
  clear o_g0
  have o_g0 := oo
  clear oo
  have oo := o_z0.below b13
  clear o_z0
  have o_z0 := oo
  clear oo
  have ge_h0 := fun k hk => (o_h0.lt k hk).1
  have lt_h0 := fun k hk => (o_h0.lt k hk).2
  go_wp2_with fail
  refine (eqIntS_same _ _ _ _ _ (unV xs0) _ rfl (Rd.of_own o_h0) (Rd.of_own o_w0) (by have := unV_len xs0; omega)).mono ?_
  rintro e w14 ⟨rfl, b14⟩
  have B14 := B13.trans (b14.mono B13.size)
  have S14 := b14.size
  have oo := own_below o_w0 b14
  clear o_w0
  have o_w0 := oo
  clear oo
  have oo := own_below o_g0 b14
  clear o_g0
  have o_g0 := oo
  clear oo
  have oo := own_below o_h0 b14
  clear o_h0
  have o_h0 := oo
  clear oo
  go_wp2_with fail
  refine (heldIntS_any _ _ _ (1) _ (Rd.of_own o_g0) (by have := unV_len xs0; omega) (by omega) (by omega)).mono ?_
  rintro e wx ⟨rfl, rfl⟩
  go_wp2
  go_ret
  exact ⟨rfl, B14⟩

theorem own : ownKnob Try.prog.godebug = none := by kernel_rfl
theorem laidOut : laidOutB Try.prog = true := by kernel_rfl
set_option maxRecDepth 100000 in
theorem lifted (os : Os) (started : os.Started) (H : Type) (enc : TypeId × Value → H) :
    ReturnsInHanded {} Try.checked os 10 .any (Rows.fnExactUnsoldItemsSpec.pre6 enc Try.prog Try.f10 Rows.fnExactUnsoldItemsRow.domain false) (Rows.fnExactUnsoldItemsSpec.post enc Try.prog Try.f10 false true false false) := by
  refine returnsInHanded_of_change (C := Try.checked) own started (by kernel_rfl) Try.func10
    (ChangeSpec.witness6 (enc := enc) (C := Try.checked) false ⟨#[], #[.slice none 0 0], []⟩ 8 (by kernel_rfl) (by kernel_rfl) (by kernel_rfl) (by kernel_rfl)) ?_
  intro W base args ds gs before hval0 hW hcnd _
  have hval : ∀ (j : Nat) t v, Try.f10.params[j]? = some t → args[j]? = some v → Value.okWide Try.prog W .any base t v := hval0
  have hW' := hW
  obtain ⟨p, q, hA0, hV, rfl, hfz, hnd⟩ := hW
  have hA : DataW.TrodAll enc Try.prog W 0 (fun _ => true) true Try.f10.params.toList args.toList ds p := hA0
  rw [Try.params10] at hA hval
  obtain ⟨v0, vs0, d0, ds0, p0, q0, hargs, rfl, rfl, h0, r0⟩ := trodAll_cons hA
  obtain ⟨rfl, rfl, rfl⟩ := trodAll_nil r0
  obtain rfl : args = #[v0] := by cases args; simp_all
  obtain ⟨rfl, rfl⟩ := trodVars_none hV
  obtain ⟨a0, len0, cap0, rfl⟩ := okWide_slice Try.underlying22 (hval 0 22 v0 rfl rfl)
  have k0 := h0
  have lt0 : ∀ x ∈ p0, x.block < W.heap.size := by obtain ⟨m, hm⟩ := k0; exact DataW.trod_lt m _ _ _ hm
  obtain ⟨xs0, hl0, hr0, hm0⟩ := openA (ti := 3) (ts := 31) (tt := 9) Try.underlying22 Try.underlying68 (by kernel_rfl) (by kernel_rfl) Try.underlying3 Try.underlying31 Try.underlying9 (by kernel_rfl) rfl rfl rfl rfl rfl rfl h0
  clear hA0 hval0
  refine (walk a0 len0 cap0 xs0 W hl0 hr0 hm0).mono fun e W' ⟨he, bel⟩ => ?_
  subst he
  exact ⟨_, rfl, _, _, _, [], _, [], hW', trodAll_mk1 (shut_bool Try.underlying4 _), (trodAll_cons_mk (Below.trod laidOut (by kernel_rfl) (of_decide_eq_true (by kernel_rfl)) k0 bel lt0) trodAll_mk0), rfl, bel.frame _, fun h => by cases h⟩

theorem over : Rows.fnExactUnsoldItemsRow.holds Try.pinned (OpenSpec.ofChange Rows.fnExactUnsoldItemsSpec) :=
  OpenClaim.holds_of_wide 10 Try.f10 rfl rfl rfl rfl rfl rfl rfl ⟨rfl, rfl, rfl, rfl, rfl⟩ rfl rfl rfl rfl rfl (by kernel_rfl) Try.func10 (by kernel_rfl)
    (of_decide_eq_true (by kernel_rfl)) (by unfold Func.isWrapper; first | (rw [if_pos (by decide +kernel)]; kernel_rfl) | (rw [if_neg (by decide +kernel)]; exact ⟨rfl, rfl⟩))
    (fun os started H enc _ => lifted os started H enc)

theorem proved : Rows.FnExactUnsoldItemsSaid := over
#print axioms proved
end Go.Proofs.Ytaobhehjoijpiaa.lwUnsoldItems
