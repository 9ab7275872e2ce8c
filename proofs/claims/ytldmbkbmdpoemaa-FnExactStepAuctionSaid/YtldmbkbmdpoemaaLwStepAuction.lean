/- The law FnExactStepAuction returns true for every input: the two calls, of the reference and of the program, return the same value for all arguments, their arguments stay as they are, and results lie in new memory. No conditions. -/
import Derived.Test.YtldmbkbmdpoemaaStp
import Derived.Test.YtldmbkbmdpoemaaOpenV4
namespace Go.Proofs.Ytldmbkbmdpoemaa.lwStepAuction
set_option linter.unusedSimpArgs false
open Go.ChangeShapes Go.WideShapes Go.ChangeAt Go.RowKit
set_option linter.unusedVariables false

set_option maxHeartbeats 2000000 in
theorem walk (A0 : Option Addr) (n0 c0 : Nat) (xs0 : List R5) (r1 : R4) (w : World) (hn0 : xs0.length = n0) (hA0 : Rd w A0 (cells5 xs0)) (hm0 : n0 ≤ maxLen) :
    Calls Try.prog 3 #[.slice A0 n0 c0, .agg #[.int .i64 r1.a, .int .i64 r1.b, .int .i64 r1.c, .int .i64 r1.d]] w (Ret (.bool true) w) := by
  by_cases hbig0 : (1048576 : Int) < n0
  · have e0 := Lib.hid (show szR (1048576) n0 = -1 by rw [szR, if_pos (by omega)])
    go_enter Try.func3, Try.ntmps3
    go_wp2_with fail
    refine (szSaleLotS_any A0 n0 c0 (1048576) hm0 (by omega) (by omega) _).mono ?_
    rintro e w1 ⟨rfl, rfl⟩
    rw [e0.out]
    go_wp2
    go_ret
    exact ⟨rfl, (Below.refl _ _).alloc (Nat.le_refl _) _⟩
  have e0 := Lib.hid (show szR (1048576) n0 = 1048576 - n0 by rw [szR, if_neg (by omega)])
  have h20_0 : n0 ≤ 1048576 := by omega
  go_enter Try.func3, Try.ntmps3
  go_wp2_with fail
  refine (szSaleLotS_any A0 n0 c0 (1048576) hm0 (by omega) (by omega) _).mono ?_
  rintro e w1 ⟨rfl, rfl⟩
  rw [e0.out]
  have hB0 := hA0.alloc (.cells #[.int .i64 r1.a, .int .i64 r1.b, .int .i64 r1.c, .int .i64 r1.d] 24)
  clear hA0
  have hA0 := hB0
  clear hB0
  have BW : Below w.heap.size w (w.alloc (.cells #[.int .i64 r1.a, .int .i64 r1.b, .int .i64 r1.c, .int .i64 r1.d] 24)) := (Below.refl _ _).alloc (Nat.le_refl _) _
  have hslt : w.heap.size < (w.alloc (.cells #[.int .i64 r1.a, .int .i64 r1.b, .int .i64 r1.c, .int .i64 r1.d] 24)).heap.size := by simp
  have q0 : (w.alloc (.cells #[.int .i64 r1.a, .int .i64 r1.b, .int .i64 r1.c, .int .i64 r1.d] 24)).cell? ⟨w.heap.size, 0, none⟩ = some (.int .i64 r1.a) := World.cell?_alloc_at _ _ _ _ rfl
  have q1 : (w.alloc (.cells #[.int .i64 r1.a, .int .i64 r1.b, .int .i64 r1.c, .int .i64 r1.d] 24)).cell? ⟨w.heap.size, 1, none⟩ = some (.int .i64 r1.b) := World.cell?_alloc_at _ _ _ _ rfl
  have q2 : (w.alloc (.cells #[.int .i64 r1.a, .int .i64 r1.b, .int .i64 r1.c, .int .i64 r1.d] 24)).cell? ⟨w.heap.size, 2, none⟩ = some (.int .i64 r1.c) := World.cell?_alloc_at _ _ _ _ rfl
  have q3 : (w.alloc (.cells #[.int .i64 r1.a, .int .i64 r1.b, .int .i64 r1.c, .int .i64 r1.d] 24)).cell? ⟨w.heap.size, 3, none⟩ = some (.int .i64 r1.d) := World.cell?_alloc_at _ _ _ _ rfl
  obtain ⟨W0, hW0⟩ : ∃ W0, W0 = w.alloc (.cells #[.int .i64 r1.a, .int .i64 r1.b, .int .i64 r1.c, .int .i64 r1.d] 24) := ⟨_, rfl⟩
  rw [← hW0] at BW hslt q0 q1 q2 q3 hA0
  rw [← hW0]
  clear hW0
  have B0 := Below.refl W0.heap.size W0
  have hsl : w.heap.size < W0.heap.size := by have := B0.size; omega
  have g0 : W0.cell? ⟨w.heap.size, 0, none⟩ = some (.int .i64 r1.a) := (B0.cell (p := ⟨w.heap.size, 0, none⟩) hslt).trans q0
  have g1 : W0.cell? ⟨w.heap.size, 1, none⟩ = some (.int .i64 r1.b) := (B0.cell (p := ⟨w.heap.size, 1, none⟩) hslt).trans q1
  have g2 : W0.cell? ⟨w.heap.size, 2, none⟩ = some (.int .i64 r1.c) := (B0.cell (p := ⟨w.heap.size, 2, none⟩) hslt).trans q2
  have g3 : W0.cell? ⟨w.heap.size, 3, none⟩ = some (.int .i64 r1.d) := (B0.cell (p := ⟨w.heap.size, 3, none⟩) hslt).trans q3
  have hk0 := Lib.hid (B0)
  have BR := Lib.hid (Below.refl W0.heap.size W0)
  go_wp2_with fail
  go_region_held3 (fun w' => w'.cell? ⟨w.heap.size, 0, none⟩ = some (.int .i64 r1.a) ∧ w'.cell? ⟨w.heap.size, 1, none⟩ = some (.int .i64 r1.b) ∧ w'.cell? ⟨w.heap.size, 2, none⟩ = some (.int .i64 r1.c) ∧ w'.cell? ⟨w.heap.size, 3, none⟩ = some (.int .i64 r1.d)) (first | go_keep | exact ⟨(b1.cell (p := ⟨w.heap.size, 0, none⟩) hsl).trans g0, (b1.cell (p := ⟨w.heap.size, 1, none⟩) hsl).trans g1, (b1.cell (p := ⟨w.heap.size, 2, none⟩) hsl).trans g2, (b1.cell (p := ⟨w.heap.size, 3, none⟩) hsl).trans g3⟩ | exact ⟨(BT.cell (p := ⟨w.heap.size, 0, none⟩) hsl).trans g0, (BT.cell (p := ⟨w.heap.size, 1, none⟩) hsl).trans g1, (BT.cell (p := ⟨w.heap.size, 2, none⟩) hsl).trans g2, (BT.cell (p := ⟨w.heap.size, 3, none⟩) hsl).trans g3⟩ | exact ⟨(BS.cell (p := ⟨w.heap.size, 0, none⟩) hsl).trans g0, (BS.cell (p := ⟨w.heap.size, 1, none⟩) hsl).trans g1, (BS.cell (p := ⟨w.heap.size, 2, none⟩) hsl).trans g2, (BS.cell (p := ⟨w.heap.size, 3, none⟩) hsl).trans g3⟩) (first
    | (go_at_call 7; refine (toSaleLotS_any A0 n0 c0 xs0 _ hn0 (by first | exact hA0.below (hk0.out.trans (BT.mono hk0.out.size)) | exact hA0.below hk0.out.drew | exact hA0.below hk0.out) h20_0).mono ?_; rintro e ws ⟨vs, rfl, os, bs⟩; have BS : Below W0.heap.size W0 ws := (by first | exact BT.trans (bs.mono BT.size) | exact BR.out.drew.trans (bs.mono BR.out.size) | exact bs); obtain ⟨As, cs, rfl⟩ := own_form os)
    | (go_at_call 8; refine (toAuctionStep_any r1.a r1.b r1.c r1.d _).mono ?_; rintro e wt ⟨rfl, bt⟩; have BT : Below W0.heap.size W0 wt := (by first | exact BS.trans (bt.mono BS.size) | exact BR.out.drew.trans (bt.mono BR.out.size) | exact bt))
    | (go_at_call 6; refine (specStepAuction_any _ _ _ xs0 r1.a r1.b r1.c r1.d _ hn0 (Rd.of_own (by first | exact os | exact own_below os bt)) h20_0 (own_capS os).1 (own_capS os).2).mono ?_; rintro e w1 ⟨v_w0, rfl, o_w0, bz⟩; have b1 : Below W0.heap.size W0 w1 := (by first | exact BT.trans (bz.mono BT.size) | exact BS.trans (bz.mono BS.size)); have om := own_mono (base' := W0.heap.size) o_w0 (by first | exact BT.size | exact BS.size)))
  all_goals go_goals
  all_goals (
    clear BS BT bs bt bz os o_w0 hsl g0 g1 g2 g3 hk0 BR
    have o_w0 := om
    clear om
    obtain ⟨A_w0, c_w0, rfl⟩ := own_form o_w0
    have B1 := B0.trans (b1.mono B0.size)
    have S1 := b1.size
    have ge_w0 := fun k hk => (o_w0.lt k hk).1
    have lt_w0 := fun k hk => (o_w0.lt k hk).2
    go_wp2_with fail
    refine (toSaleLotS_any A0 n0 c0 xs0 _ hn0 (hA0.below B1) h20_0).mono ?_
    rintro e w2 ⟨v_x0, rfl, o_x0, b2⟩
    obtain ⟨A_x0, c_x0, rfl⟩ := own_form o_x0
    have B2 := B1.trans (b2.mono B1.size)
    have S2 := b2.size
    have o_w0' := own_below o_w0 b2
    clear o_w0
    have o_w0 := o_w0'
    clear o_w0'
    have ge_x0 := fun k hk => (o_x0.lt k hk).1
    have lt_x0 := fun k hk => (o_x0.lt k hk).2
    have hsl : w.heap.size < w2.heap.size := by have := B2.size; omega
    have g0 : w2.cell? ⟨w.heap.size, 0, none⟩ = some (.int .i64 r1.a) := (B2.cell (p := ⟨w.heap.size, 0, none⟩) hslt).trans q0
    have g1 : w2.cell? ⟨w.heap.size, 1, none⟩ = some (.int .i64 r1.b) := (B2.cell (p := ⟨w.heap.size, 1, none⟩) hslt).trans q1
    have g2 : w2.cell? ⟨w.heap.size, 2, none⟩ = some (.int .i64 r1.c) := (B2.cell (p := ⟨w.heap.size, 2, none⟩) hslt).trans q2
    have g3 : w2.cell? ⟨w.heap.size, 3, none⟩ = some (.int .i64 r1.d) := (B2.cell (p := ⟨w.heap.size, 3, none⟩) hslt).trans q3
    go_wp2_with fail
    clear hsl g0 g1 g2 g3
    refine (toAuctionStep_any r1.a r1.b r1.c r1.d _).mono ?_
    rintro e w3 ⟨rfl, b3⟩
    have B3 := B2.trans (b3.mono B2.size)
    have S3 := b3.size
    have o_w0' := own_below o_w0 b3
    clear o_w0
    have o_w0 := o_w0'
    clear o_w0'
    have o_x0' := own_below o_x0 b3
    clear o_x0
    have o_x0 := o_x0'
    clear o_x0'
    go_wp2_with fail
    refine (implStepAuction_any _ _ _ xs0 r1.a r1.b r1.c r1.d _ hn0 (Rd.of_own o_x0) h20_0).mono ?_
    rintro e w4 ⟨v_g0, rfl, o_g0, b4⟩
    obtain ⟨A_g0, c_g0, rfl⟩ := own_form o_g0
    have B4 := B3.trans (b4.mono B3.size)
    have S4 := b4.size
    have o_w0' := own_below o_w0 b4
    clear o_w0
    have o_w0 := o_w0'
    clear o_w0'
    have o_x0' := own_below o_x0 b4
    clear o_x0
    have o_x0 := o_x0'
    clear o_x0'
    have ge_g0 := fun k hk => (o_g0.lt k hk).1
    have lt_g0 := fun k hk => (o_g0.lt k hk).2
    go_wp2_with fail
    refine (eqSaleLotS_same _ _ _ _ _ (stpV xs0 r1.a r1.b r1.c r1.d) _ rfl (Rd.of_own o_g0) (Rd.of_own o_w0) (by have := stpV_len xs0 r1.a r1.b r1.c r1.d; omega)).mono ?_
    rintro e w5 ⟨rfl, b5⟩
    have B5 := B4.trans (b5.mono B4.size)
    have S5 := b5.size
    have o_w0' := own_below o_w0 b5
    clear o_w0
    have o_w0 := o_w0'
    clear o_w0'
    have o_x0' := own_below o_x0 b5
    clear o_x0
    have o_x0 := o_x0'
    clear o_x0'
    have o_g0' := own_below o_g0 b5
    clear o_g0
    have o_g0 := o_g0'
    clear o_g0'
    go_wp2_with fail
    refine (toSaleLotS_any A0 n0 c0 xs0 _ hn0 (hA0.below B5) h20_0).mono ?_
    rintro e w6 ⟨v_y0, rfl, o_y0, b6⟩
    obtain ⟨A_y0, c_y0, rfl⟩ := own_form o_y0
    have B6 := B5.trans (b6.mono B5.size)
    have S6 := b6.size
    have o_w0' := own_below o_w0 b6
    clear o_w0
    have o_w0 := o_w0'
    clear o_w0'
    have o_x0' := own_below o_x0 b6
    clear o_x0
    have o_x0 := o_x0'
    clear o_x0'
    have o_g0' := own_below o_g0 b6
    clear o_g0
    have o_g0 := o_g0'
    clear o_g0'
    have ge_y0 := fun k hk => (o_y0.lt k hk).1
    have lt_y0 := fun k hk => (o_y0.lt k hk).2
    go_wp2_with fail
    refine (eqSaleLotS_same _ _ _ _ _ (xs0) _ hn0 (Rd.of_own o_x0) (Rd.of_own o_y0) h20_0).mono ?_
    rintro e w7 ⟨rfl, b7⟩
    have B7 := B6.trans (b7.mono B6.size)
    have S7 := b7.size
    have o_w0' := own_below o_w0 b7
    clear o_w0
    have o_w0 := o_w0'
    clear o_w0'
    have o_x0' := own_below o_x0 b7
    clear o_x0
    have o_x0 := o_x0'
    clear o_x0'
    have o_g0' := own_below o_g0 b7
    clear o_g0
    have o_g0 := o_g0'
    clear o_g0'
    have o_y0' := own_below o_y0 b7
    clear o_y0
    have o_y0 := o_y0'
    clear o_y0'
    go_wp2_with fail
    refine (markSaleLotS_any _ _ _ _ (1) _ o_x0 h20_0 (by omega) (by omega)).mono ?_
    rintro e w8 ⟨rfl, om8, b8⟩
    have B8 := B7.trans (below_app o_x0 b8 B7.size (by omega))
    have S8 := b8.size
    have o_w0' := o_w0.kept b8 (rows_apart (fun k hk => (lt_w0 k hk)) (fun k hk => (ge_x0 k hk)) (by omega))
    clear o_w0
    have o_w0 := o_w0'
    clear o_w0'
    have o_g0' := o_g0.kept b8 (rows_apart' (fun k hk => (ge_g0 k hk)) (fun k hk => (lt_x0 k hk)) (by omega))
    clear o_g0
    have o_g0 := o_g0'
    clear o_g0'
    clear o_x0
    have o_x0 := om8
    clear om8
    go_wp2_with fail
    refine (eqSaleLotS_same _ _ _ _ _ (stpV xs0 r1.a r1.b r1.c r1.d) _ rfl (Rd.of_own o_g0) (Rd.of_own o_w0) (by have := stpV_len xs0 r1.a r1.b r1.c r1.d; omega)).mono ?_
    rintro e w9 ⟨rfl, b9⟩
    have B9 := B8.trans (b9.mono B8.size)
    have S9 := b9.size
    have o_w0' := own_below o_w0 b9
    clear o_w0
    have o_w0 := o_w0'
    clear o_w0'
    have o_x0' := own_below o_x0 b9
    clear o_x0
    have o_x0 := o_x0'
    clear o_x0'
    have o_g0' := own_below o_g0 b9
    clear o_g0
    have o_g0 := o_g0'
    clear o_g0'
    go_wp2_with fail
    refine (markSaleLotS_any _ _ _ _ (1) _ o_g0 (by have := stpV_len xs0 r1.a r1.b r1.c r1.d; omega) (by omega) (by omega)).mono ?_
    rintro e w10 ⟨rfl, om10, b10⟩
    have B10 := B9.trans (below_app o_g0 b10 B9.size (by omega))
    have S10 := b10.size
    have o_w0' := o_w0.kept b10 (rows_apart (fun k hk => (lt_w0 k hk)) (fun k hk => (ge_g0 k hk)) (by omega))
    clear o_w0
    have o_w0 := o_w0'
    clear o_w0'
    clear o_g0
    have o_g0 := om10
    clear om10
    go_wp2_with fail
    refine (heldSaleLotS_any _ _ _ (1) _ (Rd.of_own o_g0) (by have := stpV_len xs0 r1.a r1.b r1.c r1.d; omega) (by omega) (by omega)).mono ?_
    rintro e wx ⟨rfl, rfl⟩
    have hsl : w.heap.size < w10.heap.size := by have := B10.size; omega
    have g0 : w10.cell? ⟨w.heap.size, 0, none⟩ = some (.int .i64 r1.a) := (B10.cell (p := ⟨w.heap.size, 0, none⟩) hslt).trans q0
    have g1 : w10.cell? ⟨w.heap.size, 1, none⟩ = some (.int .i64 r1.b) := (B10.cell (p := ⟨w.heap.size, 1, none⟩) hslt).trans q1
    have g2 : w10.cell? ⟨w.heap.size, 2, none⟩ = some (.int .i64 r1.c) := (B10.cell (p := ⟨w.heap.size, 2, none⟩) hslt).trans q2
    have g3 : w10.cell? ⟨w.heap.size, 3, none⟩ = some (.int .i64 r1.d) := (B10.cell (p := ⟨w.heap.size, 3, none⟩) hslt).trans q3
    have hk0 := Lib.hid (B10)
    have BR := Lib.hid (Below.refl w10.heap.size w10)
    go_wp2_with fail
    go_region_held3 (fun w' => w'.cell? ⟨w.heap.size, 0, none⟩ = some (.int .i64 r1.a) ∧ w'.cell? ⟨w.heap.size, 1, none⟩ = some (.int .i64 r1.b) ∧ w'.cell? ⟨w.heap.size, 2, none⟩ = some (.int .i64 r1.c) ∧ w'.cell? ⟨w.heap.size, 3, none⟩ = some (.int .i64 r1.d)) (first | go_keep | exact ⟨(b11.cell (p := ⟨w.heap.size, 0, none⟩) hsl).trans g0, (b11.cell (p := ⟨w.heap.size, 1, none⟩) hsl).trans g1, (b11.cell (p := ⟨w.heap.size, 2, none⟩) hsl).trans g2, (b11.cell (p := ⟨w.heap.size, 3, none⟩) hsl).trans g3⟩ | exact ⟨(BT.cell (p := ⟨w.heap.size, 0, none⟩) hsl).trans g0, (BT.cell (p := ⟨w.heap.size, 1, none⟩) hsl).trans g1, (BT.cell (p := ⟨w.heap.size, 2, none⟩) hsl).trans g2, (BT.cell (p := ⟨w.heap.size, 3, none⟩) hsl).trans g3⟩ | exact ⟨(BS.cell (p := ⟨w.heap.size, 0, none⟩) hsl).trans g0, (BS.cell (p := ⟨w.heap.size, 1, none⟩) hsl).trans g1, (BS.cell (p := ⟨w.heap.size, 2, none⟩) hsl).trans g2, (BS.cell (p := ⟨w.heap.size, 3, none⟩) hsl).trans g3⟩) (first
      | (go_at_call 7; refine (toSaleLotS_any A0 n0 c0 xs0 _ hn0 (by first | exact hA0.below (hk0.out.trans (BT.mono hk0.out.size)) | exact hA0.below hk0.out.drew | exact hA0.below hk0.out) h20_0).mono ?_; rintro e ws ⟨vs, rfl, os, bs⟩; have BS : Below w10.heap.size w10 ws := (by first | exact BT.trans (bs.mono BT.size) | exact BR.out.drew.trans (bs.mono BR.out.size) | exact bs); obtain ⟨As, cs, rfl⟩ := own_form os)
      | (go_at_call 8; refine (toAuctionStep_any r1.a r1.b r1.c r1.d _).mono ?_; rintro e wt ⟨rfl, bt⟩; have BT : Below w10.heap.size w10 wt := (by first | exact BS.trans (bt.mono BS.size) | exact BR.out.drew.trans (bt.mono BR.out.size) | exact bt))
      | (go_at_call 9; refine (implStepAuction_any _ _ _ xs0 r1.a r1.b r1.c r1.d _ hn0 (Rd.of_own (by first | exact os | exact own_below os bt)) h20_0).mono ?_; rintro e w11 ⟨v_h0, rfl, o_h0, bz⟩; have b11 : Below w10.heap.size w10 w11 := (by first | exact BT.trans (bz.mono BT.size) | exact BS.trans (bz.mono BS.size)); have om := own_mono (base' := w10.heap.size) o_h0 (by first | exact BT.size | exact BS.size)))
    all_goals go_goals
    all_goals (
      clear BS BT bs bt bz os o_h0 hsl g0 g1 g2 g3 hk0 BR
      have o_h0 := om
      clear om
      obtain ⟨A_h0, c_h0, rfl⟩ := own_form o_h0
      have B11 := B10.trans (b11.mono B10.size)
      have S11 := b11.size
      have o_w0' := own_below o_w0 b11
      clear o_w0
      have o_w0 := o_w0'
      clear o_w0'
      have o_g0' := own_below o_g0 b11
      clear o_g0
      have o_g0 := o_g0'
      clear o_g0'
      have ge_h0 := fun k hk => (o_h0.lt k hk).1
      have lt_h0 := fun k hk => (o_h0.lt k hk).2
      go_wp2_with fail
      refine (eqSaleLotS_same _ _ _ _ _ (stpV xs0 r1.a r1.b r1.c r1.d) _ rfl (Rd.of_own o_h0) (Rd.of_own o_w0) (by have := stpV_len xs0 r1.a r1.b r1.c r1.d; omega)).mono ?_
      rintro e w12 ⟨rfl, b12⟩
      have B12 := B11.trans (b12.mono B11.size)
      have S12 := b12.size
      have o_w0' := own_below o_w0 b12
      clear o_w0
      have o_w0 := o_w0'
      clear o_w0'
      have o_g0' := own_below o_g0 b12
      clear o_g0
      have o_g0 := o_g0'
      clear o_g0'
      have o_h0' := own_below o_h0 b12
      clear o_h0
      have o_h0 := o_h0'
      clear o_h0'
      go_wp2_with fail
      refine (heldSaleLotS_any _ _ _ (1) _ (Rd.of_own o_g0) (by have := stpV_len xs0 r1.a r1.b r1.c r1.d; omega) (by omega) (by omega)).mono ?_
      rintro e wx ⟨rfl, rfl⟩
      go_wp2
      go_ret
      exact ⟨rfl, BW.trans (B12.mono BW.size)⟩))

theorem own : ownKnob Try.prog.godebug = none := by kernel_rfl
theorem laidOut : laidOutB Try.prog = true := by kernel_rfl
set_option maxRecDepth 100000 in
theorem lifted (os : Os) (started : os.Started) (H : Type) (enc : TypeId × Value → H) :
    ReturnsInHanded {} Try.checked os 3 .any (Rows.fnExactStepAuctionSpec.pre6 enc Try.prog Try.f3 Rows.fnExactStepAuctionRow.domain false) (Rows.fnExactStepAuctionSpec.post enc Try.prog Try.f3 false true false false) := by
  refine returnsInHanded_of_change (C := Try.checked) own started (by kernel_rfl) Try.func3
    (ChangeSpec.witness6 (enc := enc) (C := Try.checked) false ⟨#[], #[.slice none 0 0, .agg #[.int .i64 0, .int .i64 0, .int .i64 0, .int .i64 0]], []⟩ 8 (by kernel_rfl) (by kernel_rfl) (by kernel_rfl) (by kernel_rfl)) ?_
  intro W base args ds gs before hval0 hW hcnd _
  have hval : ∀ (j : Nat) t v, Try.f3.params[j]? = some t → args[j]? = some v → Value.okWide Try.prog W .any base t v := hval0
  have hW' := hW
  obtain ⟨p, q, hA0, hV, rfl, hfz, hnd⟩ := hW
  have hA : DataW.TrodAll enc Try.prog W 0 (fun _ => true) true Try.f3.params.toList args.toList ds p := hA0
  rw [Try.params3] at hA hval
  obtain ⟨v0, vs0, d0, ds0, p0, q0, hargs, rfl, rfl, h0, r0⟩ := trodAll_cons hA
  obtain ⟨v1, vs1, d1, ds1, p1, q1, rfl, rfl, rfl, h1, r1⟩ := trodAll_cons r0
  obtain ⟨rfl, rfl, rfl⟩ := trodAll_nil r1
  obtain rfl : args = #[v0, v1] := by cases args; simp_all
  obtain ⟨rfl, rfl⟩ := trodVars_none hV
  obtain ⟨a0, len0, cap0, rfl⟩ := okWide_slice Try.underlying22 (hval 0 22 v0 rfl rfl)
  have k0 := h0
  have lt0 : ∀ x ∈ p0, x.block < W.heap.size := by obtain ⟨m, hm⟩ := k0; exact DataW.trod_lt m _ _ _ hm
  obtain ⟨xs0, hl0, hr0, hm0, _⟩ := open5 (ti := 3) Try.underlying22 Try.underlying51 (by kernel_rfl) (by kernel_rfl) Try.underlying3 rfl rfl rfl rfl rfl h0
  have k1 := h1
  have lt1 : ∀ x ∈ p1, x.block < W.heap.size := by obtain ⟨m, hm⟩ := k1; exact DataW.trod_lt m _ _ _ hm
  obtain ⟨r1v, rfl⟩ := openV4 (ti := 3) Try.underlying24 (by kernel_rfl) (by kernel_rfl) Try.underlying3 rfl rfl rfl rfl (hval 1 24 v1 rfl rfl) h1
  clear hA0 hval0
  refine (walk a0 len0 cap0 xs0 r1v W hl0 hr0 hm0).mono fun e W' ⟨he, bel⟩ => ?_
  subst he
  exact ⟨_, rfl, _, _, _, [], _, [], hW', trodAll_mk1 (shut_bool Try.underlying4 _), (trodAll_cons_mk (Below.trod laidOut (by kernel_rfl) (of_decide_eq_true (by kernel_rfl)) k0 bel lt0) (trodAll_cons_mk (Below.trod laidOut (by kernel_rfl) (of_decide_eq_true (by kernel_rfl)) k1 bel lt1) trodAll_mk0)), rfl, bel.frame _, fun h => by cases h⟩

theorem over : Rows.fnExactStepAuctionRow.holds Try.pinned (OpenSpec.ofChange Rows.fnExactStepAuctionSpec) :=
  OpenClaim.holds_of_wide 3 Try.f3 rfl rfl rfl rfl rfl rfl rfl ⟨rfl, rfl, rfl, rfl, rfl⟩ rfl rfl rfl rfl rfl (by kernel_rfl) Try.func3 (by kernel_rfl)
    (of_decide_eq_true (by kernel_rfl)) (by unfold Func.isWrapper; first | (rw [if_pos (by decide +kernel)]; kernel_rfl) | (rw [if_neg (by decide +kernel)]; exact ⟨rfl, rfl⟩))
    (fun os started H enc _ => lifted os started H enc)

theorem proved : Rows.FnExactStepAuctionSaid := over
#print axioms proved
end Go.Proofs.Ytldmbkbmdpoemaa.lwStepAuction
