/- The law FnExactFirstChainDay returns true for every input: the two calls, of the reference and of the program, return the same value for all arguments, their arguments stay as they are, and results lie in new memory. No conditions. -/
import Derived.Test.YtkhkcclebpffmaaTreL
import Derived.Test.YtkhkcclebpffmaaOpen
namespace Go.Proofs.Ytkhkcclebpffmaa.lwFirstChainDay
open Go.ChangeShapes Go.WideShapes Go.ChangeAt Go.RowKit
set_option linter.unusedVariables false

set_option maxHeartbeats 2000000 in
theorem walk (A0 : Option Addr) (n0 c0 : Nat) (xs0 : List R5) (z1 : Int) (z2 : Int) (z3 : Int) (w : World) (hn0 : xs0.length = n0) (hA0 : Rd w A0 (cells5 xs0)) (hm0 : n0 ≤ maxLen) (wz1 : (Lit.int .i64 z1).wf = true) (wz2 : (Lit.int .i64 z2).wf = true) (wz3 : (Lit.int .i64 z3).wf = true) :
    Calls Try.prog 8 #[.slice A0 n0 c0, .int .i64 z1, .int .i64 z2, .int .i64 z3] w (Ret (.bool true) w) := by
  by_cases hbig0 : (1048576 : Int) < n0
  · have e0 := Lib.hid (show szR (1048576) n0 = -1 by rw [szR, if_pos (by omega)])
    go_enter Try.func8, Try.ntmps8
    go_wp2_with fail
    refine (szTreatyS_any A0 n0 c0 (1048576) hm0 (by omega) (by omega) _).mono ?_
    rintro e w1 ⟨rfl, rfl⟩
    rw [e0.out]
    go_wp2
    go_ret
    exact ⟨rfl, Below.refl _ _⟩
  have e0 := Lib.hid (show szR (1048576) n0 = 1048576 - n0 by rw [szR, if_neg (by omega)])
  have h20_0 : n0 ≤ 1048576 := by omega
  go_enter Try.func8, Try.ntmps8
  go_wp2_with fail
  refine (szTreatyS_any A0 n0 c0 (1048576) hm0 (by omega) (by omega) _).mono ?_
  rintro e w1 ⟨rfl, rfl⟩
  rw [e0.out]
  have B0 := Below.refl w.heap.size w
  go_wp2_with fail
  refine (toTreatyS_any A0 n0 c0 xs0 _ hn0 (hA0.below B0) h20_0).mono ?_
  rintro e w1 ⟨v_s0, rfl, o_s0, b1⟩
  obtain ⟨A_s0, c_s0, rfl⟩ := own_form o_s0
  have B1 := B0.trans (b1.mono B0.size)
  have S1 := b1.size
  have ge_s0 := fun k hk => (o_s0.lt k hk).1
  have lt_s0 := fun k hk => (o_s0.lt k hk).2
  go_wp2_with fail
  refine (specFirstChainDay_any _ _ _ xs0 z1 z2 z3 _ hn0 (Rd.of_own o_s0) h20_0).mono ?_
  rintro e w2 ⟨rfl, b2⟩
  have B2 := B1.trans (b2.mono B1.size)
  have S2 := b2.size
  have o_s0' := own_below o_s0 b2
  clear o_s0
  have o_s0 := o_s0'
  clear o_s0'
  go_wp2_with fail
  refine (toTreatyS_any A0 n0 c0 xs0 _ hn0 (hA0.below B2) h20_0).mono ?_
  rintro e w3 ⟨v_x0, rfl, o_x0, b3⟩
  obtain ⟨A_x0, c_x0, rfl⟩ := own_form o_x0
  have B3 := B2.trans (b3.mono B2.size)
  have S3 := b3.size
  have ge_x0 := fun k hk => (o_x0.lt k hk).1
  have lt_x0 := fun k hk => (o_x0.lt k hk).2
  go_wp2_with fail
  refine (implFirstChainDay_any _ _ _ xs0 z1 z2 z3 _ hn0 (Rd.of_own o_x0) h20_0).mono ?_
  rintro e w4 ⟨rfl, b4⟩
  have B4 := B3.trans (b4.mono B3.size)
  have S4 := b4.size
  have o_x0' := own_below o_x0 b4
  clear o_x0
  have o_x0 := o_x0'
  clear o_x0'
  go_wp2_with fail
  refine (toTreatyS_any A0 n0 c0 xs0 _ hn0 (hA0.below B4) h20_0).mono ?_
  rintro e w5 ⟨v_y0, rfl, o_y0, b5⟩
  obtain ⟨A_y0, c_y0, rfl⟩ := own_form o_y0
  have B5 := B4.trans (b5.mono B4.size)
  have S5 := b5.size
  have o_x0' := own_below o_x0 b5
  clear o_x0
  have o_x0 := o_x0'
  clear o_x0'
  have ge_y0 := fun k hk => (o_y0.lt k hk).1
  have lt_y0 := fun k hk => (o_y0.lt k hk).2
  go_wp2_with fail
  refine (eqTreatyS_same _ _ _ _ _ (xs0) _ hn0 (Rd.of_own o_x0) (Rd.of_own o_y0) h20_0).mono ?_
  rintro e w6 ⟨rfl, b6⟩
  have B6 := B5.trans (b6.mono B5.size)
  have S6 := b6.size
  have o_x0' := own_below o_x0 b6
  clear o_x0
  have o_x0 := o_x0'
  clear o_x0'
  have o_y0' := own_below o_y0 b6
  clear o_y0
  have o_y0 := o_y0'
  clear o_y0'
  go_wp2
  go_ret
  exact ⟨rfl, B6⟩

theorem own : ownKnob Try.prog.godebug = none := by kernel_rfl
theorem laidOut : laidOutB Try.prog = true := by kernel_rfl
set_option maxRecDepth 100000 in
theorem lifted (os : Os) (started : os.Started) (H : Type) (enc : TypeId × Value → H) :
    ReturnsInHanded {} Try.checked os 8 .any (Rows.fnExactFirstChainDaySpec.pre6 enc Try.prog Try.f8 Rows.fnExactFirstChainDayRow.domain false) (Rows.fnExactFirstChainDaySpec.post enc Try.prog Try.f8 false true false false) := by
  refine returnsInHanded_of_change (C := Try.checked) own started (by kernel_rfl) Try.func8
    (ChangeSpec.witness6 (enc := enc) (C := Try.checked) false ⟨#[], #[.slice none 0 0, .int .i64 0, .int .i64 0, .int .i64 0], []⟩ 8 (by kernel_rfl) (by kernel_rfl) (by kernel_rfl) (by kernel_rfl)) ?_
  intro W base args ds gs before hval0 hW hcnd _
  have hval : ∀ (j : Nat) t v, Try.f8.params[j]? = some t → args[j]? = some v → Value.okWide Try.prog W .any base t v := hval0
  have hW' := hW
  obtain ⟨p, q, hA0, hV, rfl, hfz, hnd⟩ := hW
  have hA : DataW.TrodAll enc Try.prog W 0 (fun _ => true) true Try.f8.params.toList args.toList ds p := hA0
  rw [Try.params8] at hA hval
  obtain ⟨v0, vs0, d0, ds0, p0, q0, hargs, rfl, rfl, h0, r0⟩ := trodAll_cons hA
  obtain ⟨v1, vs1, d1, ds1, p1, q1, rfl, rfl, rfl, h1, r1⟩ := trodAll_cons r0
  obtain ⟨v2, vs2, d2, ds2, p2, q2, rfl, rfl, rfl, h2, r2⟩ := trodAll_cons r1
  obtain ⟨v3, vs3, d3, ds3, p3, q3, rfl, rfl, rfl, h3, r3⟩ := trodAll_cons r2
  obtain ⟨rfl, rfl, rfl⟩ := trodAll_nil r3
  obtain rfl : args = #[v0, v1, v2, v3] := by cases args; simp_all
  obtain ⟨rfl, rfl⟩ := trodVars_none hV
  obtain ⟨a0, len0, cap0, rfl⟩ := okWide_slice Try.underlying22 (hval 0 22 v0 rfl rfl)
  have k0 := h0
  have lt0 : ∀ x ∈ p0, x.block < W.heap.size := by obtain ⟨m, hm⟩ := k0; exact DataW.trod_lt m _ _ _ hm
  obtain ⟨xs0, hl0, hr0, hm0, _⟩ := open5 (ti := 3) Try.underlying22 Try.underlying62 (by kernel_rfl) (by kernel_rfl) Try.underlying3 rfl rfl rfl rfl rfl h0
  obtain ⟨a1, rfl, rfl, rfl, wf1⟩ := open_int Try.underlying3 (hval 1 3 v1 rfl rfl) h1
  obtain ⟨a2, rfl, rfl, rfl, wf2⟩ := open_int Try.underlying3 (hval 2 3 v2 rfl rfl) h2
  obtain ⟨a3, rfl, rfl, rfl, wf3⟩ := open_int Try.underlying3 (hval 3 3 v3 rfl rfl) h3
  clear hA0 hval0
  refine (walk a0 len0 cap0 xs0 a1 a2 a3 W hl0 hr0 hm0 wf1 wf2 wf3).mono fun e W' ⟨he, bel⟩ => ?_
  subst he
  exact ⟨_, rfl, _, _, _, [], _, [], hW', trodAll_mk1 (shut_bool Try.underlying4 _), (trodAll_cons_mk (Below.trod laidOut (by kernel_rfl) (of_decide_eq_true (by kernel_rfl)) k0 bel lt0) (trodAll_cons_mk (shut_int Try.underlying3 wf1) (trodAll_cons_mk (shut_int Try.underlying3 wf2) (trodAll_cons_mk (shut_int Try.underlying3 wf3) trodAll_mk0)))), rfl, bel.frame _, fun h => by cases h⟩

theorem over : Rows.fnExactFirstChainDayRow.holds Try.pinned (OpenSpec.ofChange Rows.fnExactFirstChainDaySpec) :=
  OpenClaim.holds_of_wide 8 Try.f8 rfl rfl rfl rfl rfl rfl rfl ⟨rfl, rfl, rfl, rfl, rfl⟩ rfl rfl rfl rfl rfl (by kernel_rfl) Try.func8 (by kernel_rfl)
    (of_decide_eq_true (by kernel_rfl)) (by unfold Func.isWrapper; first | (rw [if_pos (by decide +kernel)]; kernel_rfl) | (rw [if_neg (by decide +kernel)]; exact ⟨rfl, rfl⟩))
    (fun os started H enc _ => lifted os started H enc)

theorem proved : Rows.FnExactFirstChainDaySaid := over
#print axioms proved
end Go.Proofs.Ytkhkcclebpffmaa.lwFirstChainDay
