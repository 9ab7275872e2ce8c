/- The rate of a letter: both. -/
import Derived.Test.YtobloedpmjkgpaaCvB
namespace Go.Proofs.Ytobloedpmjkgpaa
set_option linter.unusedVariables false
set_option linter.unusedSimpArgs false
open Go.RowKit

set_option maxHeartbeats 4000000 in
set_option maxRecDepth 20000 in
theorem l8For_any (A : Option Addr) (n c : Nat) (xs : List R5) (day zone grams : Int) (w : World) (hn : xs.length = n) (hA : Rd w A (cells5 xs)) (h20 : n ≤ 1048576) :
    Calls Try.prog 53 #[.slice A n c, .int .i64 day, .int .i64 zone, .int .i64 grams] w (Ret (.int .i64 (rtFor xs day zone grams)) w) := by
  go_enter Try.func53, Try.ntmps53
  go_wp2_with fail
  go_loopw [9, 8, 10] (fun i r _ wr => ∃ k : Nat, i = .int .i64 k ∧ k ≤ n ∧ r = .int .i64 0 ∧ (∀ (j : Nat) (y : R5), j < k → xs[j]? = some y → rtQ day zone grams y = false) ∧ Below w.heap.size w wr) (fun i _ _ _ => n - (intOf i).toNat)
  case atStart => exact ⟨0, rfl, by omega, rfl, fun j y hj => by omega, Below.refl _ _⟩
  case round =>
    obtain ⟨k, rfl, hk, rfl, hp, hb⟩ := hrel
    have HP := Lib.hid hp
    clear hp
    by_cases hlt : k < n
    · obtain ⟨x, hxk⟩ : ∃ x, xs[k]? = some x := ⟨xs[k], List.getElem?_eq_getElem (by omega)⟩
      obtain ⟨g, o, hAe, hg, c0, c1, c2, c3, c4⟩ := (hA.below hb).at5 hxk
      subst hAe
      have HX := Lib.hid hxk
      have CR := Lib.hid (fun w => l1In_any day x.c x.d w)
      clear hxk
      have hk0 : (0 : Int) ≤ (k : Int) := by omega
      have hlt' : (k : Int) < (n : Int) := by omega
      cases hq : rtQ day zone grams x with
      | true =>
        have HQ := Lib.hid hq
        have hq' := hq
        simp only [rtQ, decide_eq_true_eq] at hq'
        obtain ⟨q1, q2, q3, q4⟩ := hq'
        have d1 : (x.a == zone) = true := by simp [q1]
        have d2 : decide (grams ≤ x.b) = true := by simp [q2]
        rw [show inR day x.c x.d = true from inR_true.2 ⟨q3, q4⟩] at CR
        clear hq q1
        have HV : Hid (rtFor xs day zone grams = x.e) := Lib.hid (by unfold rtFor; rw [find_pre HP.out HX.out HQ.out])
        rw [HV.out]
        go_wp2_with (go_at_call 58; refine (CR.out _).mono ?_; rintro e w' ⟨rfl, rfl⟩)
        go_ret
        exact ⟨rfl, hb.alloc hb.size _⟩
      | false =>
        have HP2 : Hid (∀ (j : Nat) (y : R5), j < k + 1 → xs[j]? = some y → rtQ day zone grams y = false) := Lib.hid (fun j y hj hy => by
          rcases Nat.lt_or_ge j k with h | h
          · exact HP.out j y h hy
          · obtain rfl : j = k := by omega
            rw [HX.out] at hy; injection hy with hy; subst hy; exact hq)
        have hq' := hq
        simp only [rtQ, decide_eq_false_iff_not] at hq'
        clear hq
        by_cases q1 : x.a = zone
        · have d1 : (x.a == zone) = true := by simp [q1]
          by_cases q2 : grams ≤ x.b
          · have d2 : decide (grams ≤ x.b) = true := by simp [q2]
            rw [show inR day x.c x.d = false from inR_false.2 (fun h => hq' ⟨q1, q2, h.1, h.2⟩)] at CR
            clear hq' q1
            go_wp2_with (go_at_call 58; refine (CR.out _).mono ?_; rintro e w' ⟨rfl, rfl⟩)
            go_roundw
            case rel => exact ⟨k + 1, by go_num, by omega, rfl, HP2.out, hb.alloc hb.size _⟩
            case measure => simp [intOf]; omega
          · have d2 : decide (grams ≤ x.b) = false := by simp; omega
            clear hq' q1
            go_wp2_with (go_at_call 58; refine (CR.out _).mono ?_; rintro e w' ⟨rfl, rfl⟩)
            go_roundw
            case rel => exact ⟨k + 1, by go_num, by omega, rfl, HP2.out, hb.alloc hb.size _⟩
            case measure => simp [intOf]; omega
        · have d1 : (x.a == zone) = false := by simp [q1]
          clear hq'
          go_wp2_with (go_at_call 58; refine (CR.out _).mono ?_; rintro e w' ⟨rfl, rfl⟩)
          go_roundw
          case rel => exact ⟨k + 1, by go_num, by omega, rfl, HP2.out, hb.alloc hb.size _⟩
          case measure => simp [intOf]; omega
    · have HV : Hid (rtFor xs day zone grams = 0) := Lib.hid (by unfold rtFor; rw [find_none HP.out (by omega)])
      rw [HV.out]
      go_wp2
      go_ret
      exact ⟨by first | rfl | (simp only [HV.out]; rfl), by first | exact hb | assumption⟩

set_option maxHeartbeats 4000000 in
set_option maxRecDepth 20000 in
theorem rateFor_any (A : Option Addr) (n c : Nat) (xs : List R5) (day zone grams : Int) (w : World) (hn : xs.length = n) (hA : Rd w A (cells5 xs)) (h20 : n ≤ 1048576) :
    Calls Try.prog 48 #[.slice A n c, .int .i64 day, .int .i64 zone, .int .i64 grams] w (Ret (.tuple #[.int .i64 (rtFor xs day zone grams), .bool (rtHas xs day zone grams)]) w) := by
  go_enter Try.func48, Try.ntmps48
  go_wp2_with fail
  go_loopw [14, 8, 9, 11] (fun i r b _ wr => ∃ k : Nat, i = .int .i64 k ∧ k ≤ n ∧ r = .int .i64 0 ∧ b = .bool false ∧ (∀ (j : Nat) (y : R5), j < k → xs[j]? = some y → rtQ day zone grams y = false) ∧ Below w.heap.size w wr) (fun i _ _ _ _ => n - (intOf i).toNat)
  case atStart => exact ⟨0, rfl, by omega, rfl, rfl, fun j y hj => by omega, Below.refl _ _⟩
  case round =>
    obtain ⟨k, rfl, hk, rfl, rfl, hp, hb⟩ := hrel
    have HP := Lib.hid hp
    clear hp
    by_cases hlt : k < n
    · obtain ⟨x, hxk⟩ : ∃ x, xs[k]? = some x := ⟨xs[k], List.getElem?_eq_getElem (by omega)⟩
      obtain ⟨g, o, hAe, hg, c0, c1, c2, c3, c4⟩ := (hA.below hb).at5 hxk
      subst hAe
      have HX := Lib.hid hxk
      have CR := Lib.hid (fun w => inRange_any day x.c x.d w)
      clear hxk
      have hk0 : (0 : Int) ≤ (k : Int) := by omega
      have hlt' : (k : Int) < (n : Int) := by omega
      cases hq : rtQ day zone grams x with
      | true =>
        have HQ := Lib.hid hq
        have hq' := hq
        simp only [rtQ, decide_eq_true_eq] at hq'
        obtain ⟨q1, q2, q3, q4⟩ := hq'
        have d1 : (x.a == zone) = true := by simp [q1]
        have d2 : decide (grams ≤ x.b) = true := by simp [q2]
        rw [show inR day x.c x.d = true from inR_true.2 ⟨q3, q4⟩] at CR
        clear hq q1
        have HV : Hid (rtFor xs day zone grams = x.e) := Lib.hid (by unfold rtFor; rw [find_pre HP.out HX.out HQ.out])
        have HV2 : Hid (rtHas xs day zone grams = true) := Lib.hid (by unfold rtHas; rw [find_pre HP.out HX.out HQ.out]; rfl)
        rw [HV.out, HV2.out]
        go_wp2_with (go_at_call 55; refine (CR.out _).mono ?_; rintro e w' ⟨rfl, rfl⟩)
        go_ret2
        exact ⟨rfl, hb.alloc hb.size _⟩
      | false =>
        have HP2 : Hid (∀ (j : Nat) (y : R5), j < k + 1 → xs[j]? = some y → rtQ day zone grams y = false) := Lib.hid (fun j y hj hy => by
          rcases Nat.lt_or_ge j k with h | h
          · exact HP.out j y h hy
          · obtain rfl : j = k := by omega
            rw [HX.out] at hy; injection hy with hy; subst hy; exact hq)
        have hq' := hq
        simp only [rtQ, decide_eq_false_iff_not] at hq'
        clear hq
        by_cases q1 : x.a = zone
        · have d1 : (x.a == zone) = true := by simp [q1]
          by_cases q2 : grams ≤ x.b
          · have d2 : decide (grams ≤ x.b) = true := by simp [q2]
            rw [show inR day x.c x.d = false from inR_false.2 (fun h => hq' ⟨q1, q2, h.1, h.2⟩)] at CR
            clear hq' q1
            go_wp2_with (go_at_call 55; refine (CR.out _).mono ?_; rintro e w' ⟨rfl, rfl⟩)
            go_roundw
            case rel => exact ⟨k + 1, by go_num, by omega, rfl, rfl, HP2.out, hb.alloc hb.size _⟩
            case measure => simp [intOf]; omega
          · have d2 : decide (grams ≤ x.b) = false := by simp; omega
            clear hq' q1
            go_wp2_with (go_at_call 55; refine (CR.out _).mono ?_; rintro e w' ⟨rfl, rfl⟩)
            go_roundw
            case rel => exact ⟨k + 1, by go_num, by omega, rfl, rfl, HP2.out, hb.alloc hb.size _⟩
            case measure => simp [intOf]; omega
        · have d1 : (x.a == zone) = false := by simp [q1]
          clear hq'
          go_wp2_with (go_at_call 55; refine (CR.out _).mono ?_; rintro e w' ⟨rfl, rfl⟩)
          go_roundw
          case rel => exact ⟨k + 1, by go_num, by omega, rfl, rfl, HP2.out, hb.alloc hb.size _⟩
          case measure => simp [intOf]; omega
    · have HV : Hid (rtFor xs day zone grams = 0) := Lib.hid (by unfold rtFor; rw [find_none HP.out (by omega)])
      have HV2 : Hid (rtHas xs day zone grams = false) := Lib.hid (by unfold rtHas; rw [find_none HP.out (by omega)]; rfl)
      rw [HV.out, HV2.out]
      go_wp2
      go_ret2
      exact ⟨by first | rfl | (simp only [HV.out, HV2.out]; rfl), by first | exact hb | assumption⟩

end Go.Proofs.Ytobloedpmjkgpaa
