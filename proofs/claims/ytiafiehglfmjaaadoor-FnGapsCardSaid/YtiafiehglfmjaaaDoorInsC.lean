/- On how many days of a span the cover is 0: the program's and the reference's loops count the same days. -/
import Derived.Test.YtiafiehglfmjaaaDoorInsB
namespace Go.Proofs.YtiafiehglfmjaaaDoor
set_option linter.unusedVariables false
set_option linter.unusedSimpArgs false
open Go.RowKit

/-- How many of the k days from a day on have no cover. -/
def uncN (xs : List R5) (item d0 : Int) : Nat → Int
  | 0 => 0
  | k + 1 => uncN xs item d0 k + if cov xs item (d0 + k) = 0 then 1 else 0
theorem uncN_bd (xs : List R5) (item d0 : Int) : ∀ k : Nat, 0 ≤ uncN xs item d0 k ∧ uncN xs item d0 k ≤ k
  | 0 => by simp [uncN]
  | k + 1 => by have := uncN_bd xs item d0 k; unfold uncN; split <;> omega
def uncB (xs : List R5) (item d0 d1 : Int) : Bool := insL xs && (inR item 1 999 && (inR d0 0 4000 && (inR d1 0 4000 && decide (d0 ≤ d1))))
def uncV (xs : List R5) (item d0 d1 : Int) : Int := if uncB xs item d0 d1 then uncN xs item d0 (d1 + 1 - d0).toNat else 0

set_option maxHeartbeats 2000000 in
theorem specUncoveredDays_any (A : Option Addr) (n c : Nat) (xs : List R5) (item d0 d1 : Int) (w : World) (hn : xs.length = n) (hA : Rd w A (cells5 xs)) (h20 : n ≤ 1048576) :
    Calls Tryd.prog 13 #[.slice A n c, .int .i64 item, .int .i64 d0, .int .i64 d1] w (Ret (.tuple #[.int .i64 (uncV xs item d0 d1), .bool (uncB xs item d0 d1)]) w) := by
  go_enter Tryd.func13, Tryd.ntmps13
  go_wp2_with fail
  refine (l26Good_any A n c xs _ hn hA h20).mono ?_
  rintro e w1 ⟨rfl, b1⟩
  have hA1 := Lib.hid (hA.below b1)
  go_wp2_with (first
    | (go_at_call 29; refine (l26Item_any _ _).mono ?_; rintro e w' ⟨rfl, rfl⟩)
    | (go_at_call 35; refine (l2Day_any _ _).mono ?_; rintro e w' ⟨rfl, rfl⟩)
    | fail)
  any_goals (go_ret2; exact ⟨ret_ib (by go_light; grind [uncV, uncB]) (by go_light; grind [uncB]), b1⟩)
  have hv : insL xs = true := by assumption
  have hi : inR item 1 999 = true := by assumption
  have hf : inR d0 0 4000 = true := by assumption
  have hu : inR d1 0 4000 = true := by assumption
  have hle : d0 ≤ d1 := by assumption
  have HV := Lib.hid hv
  have HB := Lib.hid (show uncB xs item d0 d1 = true by simp [uncB, hv, hi, hf, hu, hle])
  have hlt0 : decide (d1 < d0) = false := by simp; omega
  simp only [hu, hlt0]
  obtain ⟨f1, f2⟩ := inR_true.1 hf
  obtain ⟨u1, u2⟩ := inR_true.1 hu
  clear hv hi hf hu hA
  go_loopw [10, 11] (fun s i wr => ∃ (k : Nat), d0 + k ≤ d1 + 1 ∧ i = .int .i64 (d0 + k) ∧ s = .int .i64 (uncN xs item d0 k) ∧ Below w1.heap.size w1 wr) (fun _ i _ => (d1 + 1 - intOf i).toNat)
  case atStart => exact ⟨0, by omega, by simp, rfl, Below.refl _ _⟩
  case round =>
    obtain ⟨k, hk, rfl, rfl, hb⟩ := hrel
    obtain ⟨N, hN⟩ : ∃ N, N = uncN xs item d0 k := ⟨_, rfl⟩
    have hNb := uncN_bd xs item d0 k
    rw [← hN] at hNb ⊢
    have HN := Lib.hid hN
    clear hN
    by_cases hlt : d0 + k ≤ d1
    · go_wp2_with fail
      refine (l26Cover_any A n c xs item _ _ hn (hA1.out.below hb) HV.out).mono ?_
      rintro e w2 ⟨rfl, b2⟩
      obtain ⟨q, hq⟩ : ∃ q, q = cov xs item (d0 + k) := ⟨_, rfl⟩
      rw [← hq]
      have HQ := Lib.hid hq
      clear hq
      by_cases hz : q = 0
      · have h1 : (q == 0) = true := by simp [hz]
        have HZ := Lib.hid hz
        clear hz
        go_wp2
        go_roundw
        case rel => exact ⟨k + 1, by omega, by go_num, by rw [uncN, ← HN.out, ← HQ.out, if_pos HZ.out], hb.trans (b2.mono hb.size)⟩
        case measure => simp [intOf]; omega
      · have h1 : (q == 0) = false := by simp [hz]
        go_wp2
        go_roundw
        case rel => exact ⟨k + 1, by omega, by go_num, by rw [uncN, ← HN.out, ← HQ.out, if_neg hz]; simp, hb.trans (b2.mono hb.size)⟩
        case measure => simp [intOf]; omega
    · go_wp2
      go_ret2
      exact ⟨ret_ib (by rw [uncV, HB.out, if_pos rfl, show (d1 + 1 - d0).toNat = k by omega]; exact HN.out) HB.out.symm, b1.trans (hb.mono b1.size)⟩

set_option maxHeartbeats 2000000 in
theorem implUncoveredDays_any (A : Option Addr) (n c : Nat) (xs : List R5) (item d0 d1 : Int) (w : World) (hn : xs.length = n) (hA : Rd w A (cells5 xs)) (h20 : n ≤ 1048576) :
    Calls Tryd.prog 12 #[.slice A n c, .int .i64 item, .int .i64 d0, .int .i64 d1] w (Ret (.tuple #[.int .i64 (uncV xs item d0 d1), .bool (uncB xs item d0 d1)]) w) := by
  go_enter Tryd.func12, Tryd.ntmps12
  go_wp2_with fail
  refine (areInsured_any A n c xs _ hn hA h20).mono ?_
  rintro e w1 ⟨rfl, b1⟩
  have hA1 := Lib.hid (hA.below b1)
  go_wp2_with (first
    | (go_at_call 24; refine (isItem_any _ _).mono ?_; rintro e w' ⟨rfl, rfl⟩)
    | (go_at_call 31; refine (isDay_any _ _).mono ?_; rintro e w' ⟨rfl, rfl⟩)
    | fail)
  any_goals (go_ret2; exact ⟨ret_ib (by go_light; grind [uncV, uncB]) (by go_light; grind [uncB]), b1⟩)
  have hv : insL xs = true := by assumption
  have hi : inR item 1 999 = true := by assumption
  have hf : inR d0 0 4000 = true := by assumption
  have hu : inR d1 0 4000 = true := by assumption
  have hle : d0 ≤ d1 := by assumption
  have HV := Lib.hid hv
  have HB := Lib.hid (show uncB xs item d0 d1 = true by simp [uncB, hv, hi, hf, hu, hle])
  have hlt0 : decide (d1 < d0) = false := by simp; omega
  simp only [hu, hlt0]
  obtain ⟨f1, f2⟩ := inR_true.1 hf
  obtain ⟨u1, u2⟩ := inR_true.1 hu
  clear hv hi hf hu hA
  go_loopw [10, 11] (fun s i wr => ∃ (k : Nat), d0 + k ≤ d1 + 1 ∧ i = .int .i64 (d0 + k) ∧ s = .int .i64 (uncN xs item d0 k) ∧ Below w1.heap.size w1 wr) (fun _ i _ => (d1 + 1 - intOf i).toNat)
  case atStart => exact ⟨0, by omega, by simp, rfl, Below.refl _ _⟩
  case round =>
    obtain ⟨k, hk, rfl, rfl, hb⟩ := hrel
    obtain ⟨N, hN⟩ : ∃ N, N = uncN xs item d0 k := ⟨_, rfl⟩
    have hNb := uncN_bd xs item d0 k
    rw [← hN] at hNb ⊢
    have HN := Lib.hid hN
    clear hN
    by_cases hlt : d0 + k ≤ d1
    · go_wp2_with fail
      refine (coverOn_any A n c xs item _ _ hn (hA1.out.below hb) HV.out).mono ?_
      rintro e w2 ⟨rfl, b2⟩
      obtain ⟨q, hq⟩ : ∃ q, q = cov xs item (d0 + k) := ⟨_, rfl⟩
      rw [← hq]
      have HQ := Lib.hid hq
      clear hq
      by_cases hz : q = 0
      · have h1 : (q == 0) = true := by simp [hz]
        have HZ := Lib.hid hz
        clear hz
        go_wp2
        go_roundw
        case rel => exact ⟨k + 1, by omega, by go_num, by rw [uncN, ← HN.out, ← HQ.out, if_pos HZ.out], hb.trans (b2.mono hb.size)⟩
        case measure => simp [intOf]; omega
      · have h1 : (q == 0) = false := by simp [hz]
        go_wp2
        go_roundw
        case rel => exact ⟨k + 1, by omega, by go_num, by rw [uncN, ← HN.out, ← HQ.out, if_neg hz]; simp, hb.trans (b2.mono hb.size)⟩
        case measure => simp [intOf]; omega
    · go_wp2
      go_ret2
      exact ⟨ret_ib (by rw [uncV, HB.out, if_pos rfl, show (d1 + 1 - d0).toNat = k by omega]; exact HN.out) HB.out.symm, b1.trans (hb.mono b1.size)⟩
end Go.Proofs.YtiafiehglfmjaaaDoor
