/- The law FnExactIsAuction returns true for every input: its two calls, of the reference and of the program, compute one function of the list. No conditions. -/
import Derived.Test.YtgjbnabfgngkjaaAucA
import Derived.Test.YtgjbnabfgngkjaaOpen
namespace Go.Proofs.Ytgjbnabfgngkjaa.lwIsAuction
open Go.ChangeShapes Go.WideShapes Go.ChangeAt Go.RowKit
set_option linter.unusedVariables false

set_option maxHeartbeats 1000000 in
theorem walk (A : Option Addr) (n c : Nat) (xs : List R5) (w : World) (hn : xs.length = n) (hA : Rd w A (cells5 xs)) (hm : n ≤ maxLen) :
    Calls Try.prog 3 #[.slice A n c] w (Ret (.bool true) w) := by
  by_cases hbig : (1048576 : Int) < n
  · have e0 := Lib.hid (show szR 1048576 n = -1 by simp [szR, hbig])
    go_enter Try.func3, Try.ntmps3
    go_wp2_with fail
    refine (szSaleLotS_any A n c 1048576 hm (by omega) (by omega) _).mono ?_
    rintro e w1 ⟨rfl, rfl⟩
    rw [e0.out]
    go_wp2
    go_ret
    exact ⟨rfl, Below.refl _ _⟩
  · have e0 := Lib.hid (show szR 1048576 n = 1048576 - n by simp [szR, hbig])
    go_enter Try.func3, Try.ntmps3
    go_wp2_with fail
    refine (szSaleLotS_any A n c 1048576 hm (by omega) (by omega) _).mono ?_
    rintro e w1 ⟨rfl, rfl⟩
    rw [e0.out]
    go_wp2_with fail
    refine (toSaleLotS_any A n c xs _ hn hA (by omega)).mono ?_
    rintro e w1 ⟨v1, rfl, o1, b1⟩
    obtain ⟨A1, c1, rfl⟩ := own_form o1
    go_wp2_with fail
    refine (specIsAuction_any _ _ _ xs _ hn (Rd.of_own o1) (by omega)).mono ?_
    rintro e w2 ⟨rfl, b2⟩
    have hA2 := (hA.below b1).below_of b2 (Nat.le_refl _)
    go_wp2_with fail
    refine (toSaleLotS_any A n c xs _ hn hA2 (by omega)).mono ?_
    rintro e w3 ⟨v3, rfl, o3, b3⟩
    obtain ⟨A3, c3, rfl⟩ := own_form o3
    go_wp2_with fail
    refine (implIsAuction_any _ _ _ xs _ hn (Rd.of_own o3) (by omega)).mono ?_
    rintro e w4 ⟨rfl, b4⟩
    have o4 := own_below o3 b4
    have hA4 := (hA2.below b3).below b4
    go_wp2_with fail
    refine (toSaleLotS_any A n c xs _ hn hA4 (by omega)).mono ?_
    rintro e w5 ⟨v5, rfl, o5, b5⟩
    obtain ⟨A5, c5, rfl⟩ := own_form o5
    have o6 := own_below o4 b5
    go_wp2_with fail
    refine (eqSaleLotS_same _ _ _ _ _ xs _ hn (Rd.of_own o6) (Rd.of_own o5) (by omega)).mono ?_
    rintro e w6 ⟨rfl, b6⟩
    go_wp2
    go_ret
    have z1 := b1.size; have z2 := b2.size; have z3 := b3.size; have z4 := b4.size; have z5 := b5.size
    exact ⟨rfl, b1.trans ((b2.mono z1).trans ((b3.mono (by omega)).trans ((b4.mono (by omega)).trans ((b5.mono (by omega)).trans (b6.mono (by omega))))))⟩

theorem own : ownKnob Try.prog.godebug = none := by kernel_rfl
theorem laidOut : laidOutB Try.prog = true := by kernel_rfl
set_option maxRecDepth 100000 in
theorem lifted (os : Os) (started : os.Started) (H : Type) (enc : TypeId × Value → H) :
    ReturnsInHanded {} Try.checked os 3 .any (Rows.fnExactIsAuctionSpec.pre6 enc Try.prog Try.f3 Rows.fnExactIsAuctionRow.domain false) (Rows.fnExactIsAuctionSpec.post enc Try.prog Try.f3 false true false false) := by
  refine returnsInHanded_of_change (C := Try.checked) own started (by kernel_rfl) Try.func3
    (ChangeSpec.witness6 (enc := enc) (C := Try.checked) false ⟨#[], #[.slice none 0 0], []⟩ 8 (by kernel_rfl) (by kernel_rfl) (by kernel_rfl) (by kernel_rfl)) ?_
  intro W base args ds gs before hval0 hW hcnd _
  have hval : ∀ (j : Nat) t v, Try.f3.params[j]? = some t → args[j]? = some v → Value.okWide Try.prog W .any base t v := hval0
  have hW' := hW
  obtain ⟨p, q, hA0, hV, rfl, hfz, hnd⟩ := hW
  have hA : DataW.TrodAll enc Try.prog W 0 (fun _ => true) true Try.f3.params.toList args.toList ds p := hA0
  rw [Try.params3] at hA hval
  obtain ⟨v0, vs0, d0, ds0, p0, q0, hargs, rfl, rfl, h0, r0⟩ := trodAll_cons hA
  obtain ⟨rfl, rfl, rfl⟩ := trodAll_nil r0
  obtain rfl : args = #[v0] := by cases args; simp_all
  obtain ⟨rfl, rfl⟩ := trodVars_none hV
  obtain ⟨a0, len0, cap0, rfl⟩ := okWide_slice Try.underlying22 (hval 0 22 v0 rfl rfl)
  have k0 := h0
  have lt0 : ∀ x ∈ p0, x.block < W.heap.size := by obtain ⟨m, hm⟩ := k0; exact DataW.trod_lt m _ _ _ hm
  obtain ⟨xs0, hl0, hr0, hm0, _⟩ := open5 (ti := 3) Try.underlying22 Try.underlying59 (by kernel_rfl) (by kernel_rfl) Try.underlying3 rfl rfl rfl rfl rfl h0
  clear hA0 hval0
  refine (walk a0 len0 cap0 xs0 W hl0 hr0 hm0).mono fun e W' ⟨he, bel⟩ => ?_
  subst he
  exact ⟨_, rfl, _, _, _, [], _, [], hW', trodAll_mk1 (shut_bool Try.underlying4 _), (trodAll_cons_mk (Below.trod laidOut (by kernel_rfl) (of_decide_eq_true (by kernel_rfl)) k0 bel lt0) trodAll_mk0), rfl, bel.frame _, fun h => by cases h⟩

theorem over : Rows.fnExactIsAuctionRow.holds Try.pinned (OpenSpec.ofChange Rows.fnExactIsAuctionSpec) :=
  OpenClaim.holds_of_wide 3 Try.f3 rfl rfl rfl rfl rfl rfl rfl ⟨rfl, rfl, rfl, rfl, rfl⟩ rfl rfl rfl rfl rfl (by kernel_rfl) Try.func3 (by kernel_rfl)
    (of_decide_eq_true (by kernel_rfl)) (by unfold Func.isWrapper; first | (rw [if_pos (by decide +kernel)]; kernel_rfl) | (rw [if_neg (by decide +kernel)]; exact ⟨rfl, rfl⟩))
    (fun os started H enc _ => lifted os started H enc)

theorem proved : Rows.FnExactIsAuctionSaid := over
#print axioms proved
end Go.Proofs.Ytgjbnabfgngkjaa.lwIsAuction
