/- StepAuction of the program. -/
import Derived.Test.YtjnbcippipookaaAuI
namespace Go.Proofs.Ytjnbcippipookaa
set_option linter.unusedVariables false
set_option linter.unusedSimpArgs false
open Go.RowKit

theorem step_kinds {k i b v : Int} (h : stepB k i b v = true) : k = 1 ∨ k = 2 ∨ k = 3 ∨ k = 4 ∨ k = 5 ∨ k = 6 := by
  unfold stepB at h
  split at h
  · omega
  split at h
  · omega
  split at h
  · omega
  split at h
  · omega
  · cases h
theorem stepAuction_any (A : Option Addr) (n c : Nat) (xs : List R5) (k i b v : Int) (w : World) (hn : xs.length = n) (hA : Rd w A (cells5 xs)) (hv : auc xs = true) (hs : stepB k i b v = true) :
    Calls Try.prog 20 #[.slice A n c, .agg #[.int .i64 k, .int .i64 i, .int .i64 b, .int .i64 v]] w (RetOwnB 36 5 (stL xs k i b v).length (cells5 (stL xs k i b v)) (stB xs k i b v) w) := by
  rcases step_kinds hs with rfl | rfl | rfl | rfl | rfl | rfl
  · exact stepAuction1 A n c xs i b v w hn hA hv hs
  · exact stepAuction2 A n c xs i b v w hn hA hv hs
  · exact stepAuction3 A n c xs i b v w hn hA hv hs
  · exact stepAuction4 A n c xs i b v w hn hA hv hs
  · exact stepAuction5 A n c xs i b v w hn hA hv hs
  · exact stepAuction6 A n c xs i b v w hn hA hv hs
def stpB (xs : List R5) (k i b v : Int) : Bool := auc xs && (stepB k i b v && stB xs k i b v)
def stpV (xs : List R5) (k i b v : Int) : List R5 := if (auc xs && stepB k i b v) = true then stL xs k i b v else []
theorem stpV_len (xs : List R5) (k i b v : Int) : (stpV xs k i b v).length ≤ 9 := by
  unfold stpV
  split
  · rename_i h
    simp only [Bool.and_eq_true] at h
    exact st_len h.1 k i b v
  · simp
theorem stp_no {xs : List R5} {k i b v : Int} (h : (auc xs && stepB k i b v) = false) : stpB xs k i b v = false ∧ stpV xs k i b v = [] := by
  constructor
  · rw [stpB, ← Bool.and_assoc, h]; rfl
  · rw [stpV, h]; rfl
theorem stp_yes {xs : List R5} {k i b v : Int} (h1 : auc xs = true) (h2 : stepB k i b v = true) : stpB xs k i b v = stB xs k i b v ∧ stpV xs k i b v = stL xs k i b v := by
  constructor
  · rw [stpB, h1, h2]; rfl
  · rw [stpV, h1, h2]; rfl

set_option maxRecDepth 20000 in
set_option maxHeartbeats 2000000 in
theorem implStepAuction_any (A : Option Addr) (n c : Nat) (xs : List R5) (k i b v : Int) (w : World) (hn : xs.length = n) (hA : Rd w A (cells5 xs)) (h20 : n ≤ 1048576) :
    Calls Try.prog 6 #[.slice A n c, .agg #[.int .i64 k, .int .i64 i, .int .i64 b, .int .i64 v]] w (RetOwnB 36 5 (stpV xs k i b v).length (cells5 (stpV xs k i b v)) (stpB xs k i b v) w) := by
  have C0 := Lib.hid (fun w h => isAuction_any A n c xs w hn h h20)
  have C1 := Lib.hid (fun w => isAuctionStep_any k i b v w)
  have HA := Lib.hid hA
  cases hv : auc xs with
  | false =>
    rw [hv] at C0
    obtain ⟨e1, e2⟩ := stp_no (k := k) (i := i) (b := b) (v := v) (show (auc xs && stepB k i b v) = false by rw [hv]; rfl)
    rw [e1, e2]
    clear e1 e2 hA hv
    go_enter Try.func6, Try.ntmps6
    go_wp2_with fail
    refine (C0.out _ (HA.out.alloc _)).mono ?_
    rintro e w1 ⟨rfl, b1⟩
    have HB1 : Hid (Below (w.heap.size + 1) (w.alloc (.cells #[.int .i64 k, .int .i64 i, .int .i64 b, .int .i64 v] 26)) w1) := Lib.hid ((Below.refl _ _).trans (b1.mono (by simp)))
    go_wp2
    go_ret2
    exact ⟨_, rfl, World.ownsRow_nil _ _ _ _, box_below HB1.out⟩
  | true =>
    rw [hv] at C0
    cases hs : stepB k i b v with
    | false =>
      rw [hs] at C1
      obtain ⟨e1, e2⟩ := stp_no (k := k) (i := i) (b := b) (v := v) (show (auc xs && stepB k i b v) = false by rw [hv, hs]; rfl)
      rw [e1, e2]
      clear e1 e2 hA hv hs
      go_enter Try.func6, Try.ntmps6
      go_wp2_with fail
      refine (C0.out _ (HA.out.alloc _)).mono ?_
      rintro e w1 ⟨rfl, b1⟩
      have HB1 : Hid (Below (w.heap.size + 1) (w.alloc (.cells #[.int .i64 k, .int .i64 i, .int .i64 b, .int .i64 v] 26)) w1) := Lib.hid ((Below.refl _ _).trans (b1.mono (by simp)))
      have y0 := box_at HB1.out 0 _ rfl
      have y1 := box_at HB1.out 1 _ rfl
      have y2 := box_at HB1.out 2 _ rfl
      have y3 := box_at HB1.out 3 _ rfl
      have hy := box_lt HB1.out
      go_wp2_with fail
      refine (C1.out _).mono ?_
      rintro e w2 ⟨rfl, b2⟩
      have HB2 := Lib.hid (HB1.out.trans (b2.mono (by omega)))
      go_wp2
      go_ret2
      exact ⟨_, rfl, World.ownsRow_nil _ _ _ _, box_below HB2.out⟩
    | true =>
      rw [hs] at C1
      have C2 := Lib.hid (fun w h => stepAuction_any A n c xs k i b v w hn h hv hs)
      obtain ⟨e1, e2⟩ := stp_yes hv hs
      rw [e1, e2]
      clear e1 e2 hA hv hs
      go_enter Try.func6, Try.ntmps6
      go_wp2_with fail
      refine (C0.out _ (HA.out.alloc _)).mono ?_
      rintro e w1 ⟨rfl, b1⟩
      have HB1 : Hid (Below (w.heap.size + 1) (w.alloc (.cells #[.int .i64 k, .int .i64 i, .int .i64 b, .int .i64 v] 26)) w1) := Lib.hid ((Below.refl _ _).trans (b1.mono (by simp)))
      have y0 := box_at HB1.out 0 _ rfl
      have y1 := box_at HB1.out 1 _ rfl
      have y2 := box_at HB1.out 2 _ rfl
      have y3 := box_at HB1.out 3 _ rfl
      have hy := box_lt HB1.out
      go_wp2_with fail
      refine (C1.out _).mono ?_
      rintro e w2 ⟨rfl, b2⟩
      have HB2 := Lib.hid (HB1.out.trans (b2.mono (by omega)))
      clear y0 y1 y2 y3 hy
      have y0 := box_at HB2.out 0 _ rfl
      have y1 := box_at HB2.out 1 _ rfl
      have y2 := box_at HB2.out 2 _ rfl
      have y3 := box_at HB2.out 3 _ rfl
      have hy := box_lt HB2.out
      go_wp2_with fail
      refine (C2.out _ (HA.out.below (box_below HB2.out))).mono ?_
      rintro e w3 ⟨v3, rfl, o3, b3⟩
      have HO3 := Lib.hid (own_mono (base' := w.heap.size) o3 (by omega))
      have HB3 := Lib.hid (HB2.out.trans (b3.mono (by omega)))
      clear o3 b3
      go_wp2
      go_ret2
      exact ⟨_, rfl, HO3.out, box_below HB3.out⟩
end Go.Proofs.Ytjnbcippipookaa
