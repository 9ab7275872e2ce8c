/- The law FnExactBookText returns true for every input: the two calls, of the reference and of the program, return the same value for all arguments, their arguments stay as they are, and results lie in new memory. No conditions. -/
import Derived.Test.YtfejjdplclngnaaDoorTBkS
import Derived.Test.YtfejjdplclngnaaDoorTBkI
import Derived.Test.YtfejjdplclngnaaDoorDLaid
import Derived.Test.YtfejjdplclngnaaDoorOpen
import Derived.Test.YtfejjdplclngnaaDoorBookM
namespace Go.Proofs.YtfejjdplclngnaaDoor.ltBook
set_option linter.unusedSimpArgs false
open Go.ChangeShapes Go.WideShapes Go.ChangeAt Go.RowKit
set_option linter.unusedVariables false

set_option maxHeartbeats 4000000 in
set_option maxRecDepth 20000 in
theorem walk (A0 : Option Addr) (n0 c0 : Nat) (xs0 : List BR) (w : World) (hn0 : xs0.length = n0) (hA0 : RdB w A0 xs0) (hm0 : n0 ≤ maxLen) (ht : ∀ w', Below w.heap.size w w' → Lib.TabIs Tryd.prog w' "internal/strconv.uint64pow10" .u64 Lib.pow10Tab) :
    Calls Tryd.prog 7 #[.slice A0 n0 c0] w (Ret (.bool true) w) := by
  subst hn0
  have HT := Lib.hid ht
  clear ht
  by_cases hbig0 : szBV 1048576 xs0 < 0
  · have e0 := Lib.hid (show szBV 1048576 xs0 = -1 from szBV_neg hbig0)
    go_enter Tryd.func7, Tryd.ntmps7
    go_wp2_with fail
    refine (szBookRowS_any A0 _ c0 1048576 xs0 _ rfl hA0 hm0 (by omega) (by omega)).mono ?_
    rintro e w1 ⟨rfl, b1⟩
    rw [e0.out]
    go_wp2
    go_ret
    exact ⟨rfl, b1⟩
  have hz0 : 0 ≤ szBV 1048576 xs0 := by omega
  obtain ⟨h20_0, hw0, hs0⟩ := szBV_pos hz0
  have hzb0 := szBV_le xs0 (1048576) (by omega)
  obtain ⟨left0, hleft0⟩ : ∃ l, l = szBV 1048576 xs0 := ⟨_, rfl⟩
  have HL0 := Lib.hid hleft0
  rw [← hleft0] at hz0 hzb0
  clear hbig0 hleft0
  go_enter Tryd.func7, Tryd.ntmps7
  go_wp2_with fail
  refine (szBookRowS_any A0 _ c0 1048576 xs0 _ rfl hA0 hm0 (by omega) (by omega)).mono ?_
  rintro e w1 ⟨rfl, b1⟩
  rw [← HL0.out]
  clear HL0
  have B1 : Below w.heap.size w w1 := b1
  have S1 := b1.size
  go_wp2_with fail
  refine (toBookRowS_any A0 _ c0 xs0 _ rfl (hA0.below B1) h20_0 hw0).mono ?_
  rintro e w2 ⟨v_s0, vs_s0, rfl, o_s0, b2⟩
  obtain ⟨A_s0, c_s0, rfl⟩ := own_form o_s0.2.1
  have B2 := B1.trans (b2.mono B1.size)
  have S2 := b2.size
  have ge_s0 := fun j a k ha hk => (o_s0.lt j a k ha hk).1
  have lt_s0 := fun j a k ha hk => (o_s0.lt j a k ha hk).2
  go_wp2_with fail
  refine (specBookText_any _ _ _ xs0 _ rfl o_s0.rd h20_0 hw0).mono ?_
  rintro e w3 ⟨rfl, b3⟩
  have B3 := B2.trans (b3.mono B2.size)
  have S3 := b3.size
  have oo := o_s0.below b3
  clear o_s0
  have o_s0 := oo
  clear oo
  go_wp2_with fail
  refine (toBookRowS_any A0 _ c0 xs0 _ rfl (hA0.below B3) h20_0 hw0).mono ?_
  rintro e w4 ⟨v_x0, vs_x0, rfl, o_x0, b4⟩
  obtain ⟨A_x0, c_x0, rfl⟩ := own_form o_x0.2.1
  have B4 := B3.trans (b4.mono B3.size)
  have S4 := b4.size
  have ge_x0 := fun j a k ha hk => (o_x0.lt j a k ha hk).1
  have lt_x0 := fun j a k ha hk => (o_x0.lt j a k ha hk).2
  go_wp2_with fail
  refine (implBookText_any _ _ _ xs0 _ rfl o_x0.rd h20_0 hw0 (fun w' h => HT.out w' (B4.trans (h.mono B4.size)))).mono ?_
  rintro e w5 ⟨rfl, b5⟩
  have B5 := B4.trans (b5.mono B4.size)
  have S5 := b5.size
  have oo := o_x0.below b5
  clear o_x0
  have o_x0 := oo
  clear oo
  go_wp2_with fail
  refine (toBookRowS_any A0 _ c0 xs0 _ rfl (hA0.below B5) h20_0 hw0).mono ?_
  rintro e w6 ⟨v_y0, vs_y0, rfl, o_y0, b6⟩
  obtain ⟨A_y0, c_y0, rfl⟩ := own_form o_y0.2.1
  have B6 := B5.trans (b6.mono B5.size)
  have S6 := b6.size
  have oo := o_x0.below b6
  clear o_x0
  have o_x0 := oo
  clear oo
  have ge_y0 := fun j a k ha hk => (o_y0.lt j a k ha hk).1
  have lt_y0 := fun j a k ha hk => (o_y0.lt j a k ha hk).2
  go_wp2_with fail
  refine (eqBookRowS_same _ _ _ _ _ (xs0) _ rfl o_x0.rd o_y0.rd h20_0 hw0).mono ?_
  rintro e w7 ⟨rfl, b7⟩
  have B7 := B6.trans (b7.mono B6.size)
  have S7 := b7.size
  have oo := o_x0.below b7
  clear o_x0
  have o_x0 := oo
  clear oo
  have oo := o_y0.below b7
  clear o_y0
  have o_y0 := oo
  clear oo
  go_wp2
  go_ret
  exact ⟨rfl, B7⟩

theorem own : ownKnob Tryd.prog.godebug = none := by kernel_rfl
theorem laidOut : laidOutB Tryd.prog = true := by kernel_rfl
set_option maxRecDepth 100000 in
theorem lifted (os : Os) (started : os.Started) (H : Type) (enc : TypeId × Value → H) :
    ReturnsInHanded {} Tryd.checked os 7 .any (fun w args => (Rows.fnExactBookTextSpec.pre enc Tryd.prog Tryd.f7 [] false w args ∧ laidMetH Tryd.prog Rows.fnExactBookTextRow.laid w) ∧ sizedMet enc Tryd.prog Tryd.f7 (OpenSpec.ofChange Rows.fnExactBookTextSpec) false w args)
      (Rows.fnExactBookTextSpec.post enc Tryd.prog Tryd.f7 false true false false) := by
  refine returnsInHanded_of_change_and (C := Tryd.checked) (X := fun w _ => laidMetH Tryd.prog Rows.fnExactBookTextRow.laid w) (fun _ _ _ hh h => h.of_heap hh) own started (by kernel_rfl) Tryd.func7
    (ChangeSpec.witness_shaped (enc := enc) (C := Tryd.checked) (os := os) (X := fun w _ => laidMetH Tryd.prog Rows.fnExactBookTextRow.laid w) false (World.doorLaid Tryd.prog 24 os) #[.slice none 0 0] 8 rfl (World.shaped_of_RefB (by kernel_rfl) (by kernel_rfl)) (by kernel_rfl) (by kernel_rfl) (by kernel_rfl) (door_met os _)) ?_
  intro W base args ds gs before hval0 hW _ _ hL _
  have hval : ∀ (j : Nat) t v, Tryd.f7.params[j]? = some t → args[j]? = some v → Value.okWide Tryd.prog W .any base t v := hval0
  have hW' := hW
  obtain ⟨p, q, hA0, hV, rfl, hfz, hnd⟩ := hW
  have hA : DataW.TrodAll enc Tryd.prog W 0 (fun _ => true) true Tryd.f7.params.toList args.toList ds p := hA0
  rw [Tryd.params7] at hA hval
  obtain ⟨v0, vs0, d0, ds0, p0, q0, hargs, rfl, rfl, h0, r0⟩ := trodAll_cons hA
  obtain ⟨rfl, rfl, rfl⟩ := trodAll_nil r0
  obtain rfl : args = #[v0] := by cases args; simp_all
  obtain ⟨rfl, rfl⟩ := trodVars_none hV
  obtain ⟨a0, len0, cap0, rfl⟩ := okWide_slice Tryd.underlying50 (hval 0 50 v0 rfl rfl)
  have k0 := h0
  have lt0 : ∀ x ∈ p0, x.block < W.heap.size := by obtain ⟨m, hm⟩ := k0; exact DataW.trod_lt m _ _ _ hm
  obtain ⟨xs0, hl0, hr0, hm0⟩ := openB (ti := 3) (ts := 41) Tryd.underlying50 Tryd.underlying74 (by kernel_rfl) (by kernel_rfl) Tryd.underlying3 Tryd.underlying41 (by kernel_rfl) rfl rfl h0
  clear hA0 hval0
  refine (walk a0 len0 cap0 xs0 W hl0 hr0 hm0 (tab_below hL)).mono fun e W' ⟨he, bel⟩ => ?_
  subst he
  exact ⟨_, rfl, _, _, _, [], _, [], hW', trodAll_mk1 (shut_bool Tryd.underlying4 _), (trodAll_cons_mk (Below.trod laidOut (by kernel_rfl) (of_decide_eq_true (by kernel_rfl)) k0 bel lt0) trodAll_mk0), rfl, bel.frame _, fun h => by cases h⟩

theorem over : Rows.fnExactBookTextRow.holds Tryd.pinned (OpenSpec.ofChange Rows.fnExactBookTextSpec) :=
  OpenClaim.holds_of_wide 7 Tryd.f7 rfl rfl rfl rfl rfl rfl rfl ⟨rfl, rfl, rfl, rfl, rfl⟩ rfl rfl rfl rfl rfl (by kernel_rfl) Tryd.func7 (by kernel_rfl)
    (of_decide_eq_true (by kernel_rfl)) (by unfold Func.isWrapper; first | (rw [if_pos (by decide +kernel)]; kernel_rfl) | (rw [if_neg (by decide +kernel)]; exact ⟨rfl, rfl⟩))
    (fun os started H enc _ => lifted os started H enc)

theorem proved : Rows.FnExactBookTextCardSaid :=
  Claim7.holds_tied_plain_at .later [] [.data, .data, .data] true Rows.fnExactBookTextCard.stood.harness false
    over (fun _ h => by cases h) (by kernel_rfl) (fun _ h => by cases h) fnExactBookText_row_tie rfl ⟨rfl, rfl⟩ (by kernel_rfl) rfl
    (fun f fn hf hfn => by
      obtain rfl : f = 7 := Option.some.inj ((show Tryd.prog.funcNamed "loop.example/g01062/laws.FnExactBookText" = some 7 by kernel_rfl).symm.trans hf) |>.symm
      obtain rfl : fn = Tryd.f7 := (Option.some.inj (Tryd.func7.symm.trans hfn)).symm
      exact ⟨by kernel_rfl, fun j t ht => by
        rw [Tryd.params7] at ht
        have hm : t ∈ [50] := by simpa using Array.mem_of_getElem? ht
        have hall : ([50].all fun u => !Tryd.prog.wantsStandIn u) = true := by kernel_rfl
        exact (show Tryd.prog.wantsStandIn t = false by simpa using List.all_eq_true.1 hall t hm)⟩)
    (by kernel_rfl)
#print axioms proved
end Go.Proofs.YtfejjdplclngnaaDoor.ltBook
