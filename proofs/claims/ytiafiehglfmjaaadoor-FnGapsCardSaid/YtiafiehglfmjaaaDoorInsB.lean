/- What insurances cost together, the cover of an item on a day, what is paid: the program's and the reference's loops compute the same sums. -/
import Derived.Test.YtiafiehglfmjaaaDoorInsA
namespace Go.Proofs.YtiafiehglfmjaaaDoor
set_option linter.unusedVariables false
set_option linter.unusedSimpArgs false
open Go.RowKit

theorem insL_len {xs : List R5} (h : insL xs = true) : xs.length ≤ 12 := by simp [insL] at h; exact h.2
theorem insL_at {xs : List R5} (h : insL xs = true) {k : Nat} {x : R5} (hx : xs[k]? = some x) : insB x = true := by
  simp only [insL, Bool.and_eq_true] at h; exact allG_at h.1 hx
theorem insL_mem {xs : List R5} (h : insL xs = true) {x : R5} (hx : x ∈ xs) : insB x = true := by
  obtain ⟨i, hi, rfl⟩ := List.getElem_of_mem hx
  exact insL_at h (List.getElem?_eq_getElem hi)
theorem insB_bd {x : R5} (h : insB x = true) : (1 ≤ x.a ∧ x.a ≤ 999) ∧ (0 ≤ x.b ∧ x.b ≤ 4000) ∧ (0 ≤ x.c ∧ x.c ≤ 4000) ∧ x.b ≤ x.c ∧ (1 ≤ x.d ∧ x.d ≤ 10000000) ∧ (1 ≤ x.e ∧ x.e ≤ 500) := by
  simpa only [insB, decide_eq_true_eq] using h

/-! ### The cost -/
def costF (x : R5) : Int := (x.d * x.e * (x.c - x.b + 1) + 36499999) / 36500000
theorem cost_bd {x : R5} (h : insB x = true) : (0 ≤ x.d * x.e ∧ x.d * x.e ≤ 5000000000) ∧ (0 ≤ x.d * x.e * (x.c - x.b + 1) ∧ x.d * x.e * (x.c - x.b + 1) ≤ 20005000000000) := by
  obtain ⟨_, _, _, h1, h2, h3⟩ := insB_bd h
  have a1 : 0 ≤ x.d * x.e := Int.mul_nonneg (by omega) (by omega)
  have a2 : x.d * x.e ≤ 10000000 * 500 := Int.mul_le_mul (by omega) (by omega) (by omega) (by omega)
  have a3 : 0 ≤ x.d * x.e * (x.c - x.b + 1) := Int.mul_nonneg a1 (by omega)
  have a4 : x.d * x.e * (x.c - x.b + 1) ≤ 5000000000 * 4001 := Int.mul_le_mul (by omega) (by omega) (by omega) (by omega)
  omega
theorem costF_bd {x : R5} (h : insB x = true) : 0 ≤ costF x ∧ costF x ≤ 600000 := by
  have := cost_bd h
  unfold costF; omega
def costV (xs : List R5) : Int := if insL xs then sumF costF xs else 0

set_option maxHeartbeats 1000000 in
theorem specCostOfAll_any (A : Option Addr) (n c : Nat) (xs : List R5) (w : World) (hn : xs.length = n) (hA : Rd w A (cells5 xs)) (h20 : n ≤ 1048576) :
    Calls Tryd.prog 20 #[.slice A n c] w (Ret (.tuple #[.int .i64 (costV xs), .bool (insL xs)]) w) := by
  have C1 := Lib.hid (fun w => l26Good_any A n c xs w hn)
  cases hv : insL xs with
  | false =>
    rw [hv] at C1
    have e : costV xs = 0 := by simp [costV, hv]
    rw [e]
    clear e hv
    go_enter Tryd.func20, Tryd.ntmps20
    go_wp2_with fail
    refine (C1.out _ hA h20).mono ?_
    rintro e w1 ⟨rfl, b1⟩
    go_wp2
    go_ret2
    exact ⟨rfl, b1⟩
  | true =>
    have h8 : n ≤ 12 := by have := insL_len hv; omega
    rw [hv] at C1
    have HV := Lib.hid (fun k x h => insL_at hv (k := k) (x := x) h)
    have e : costV xs = sumF costF xs := by simp [costV, hv]
    rw [e]
    clear e hv
    go_enter Tryd.func20, Tryd.ntmps20
    go_wp2_with fail
    refine (C1.out _ hA h20).mono ?_
    rintro e w1 ⟨rfl, b1⟩
    have hA1 := hA.below b1
    clear hA
    go_wp2_with fail
    go_loopw [4, 5, 6] (fun s i _ wr => ∃ (k : Nat) (m : Int), k ≤ n ∧ i = .int .i64 k ∧ s = .int .i64 m ∧ SumRelF w1 costF 600000 xs k m wr) (fun _ i _ _ => n - (intOf i).toNat)
    case atStart => exact ⟨0, 0, by omega, rfl, rfl, .zero⟩
    case round =>
      obtain ⟨k, m, hk, rfl, rfl, hrel⟩ := hrel
      have HR := Lib.hid hrel
      obtain ⟨-, hm, hb⟩ := hrel
      by_cases hlt : k < n
      · obtain ⟨x, hxk⟩ : ∃ x, xs[k]? = some x := ⟨xs[k], List.getElem?_eq_getElem (by omega)⟩
        obtain ⟨g, o, hAe, hg, c0, c1, c2, c3, c4⟩ := (hA1.below hb).at5 hxk
        subst hAe
        have HX := Lib.hid hxk
        have HB := Lib.hid (HV.out _ _ hxk)
        obtain ⟨⟨p1, p2⟩, ⟨p3, p4⟩⟩ := cost_bd HB.out
        obtain ⟨_, ⟨q1, q2⟩, ⟨q3, q4⟩, q5, ⟨q6, q7⟩, ⟨q8, q9⟩⟩ := insB_bd HB.out
        clear hxk hA1
        go_wp2
        go_roundw
        case rel => exact ⟨k + 1, _, by omega, by go_num, rfl, HR.out.next HX.out (costF_bd HB.out) (by rw [costF]) ((Below.refl _ _).alloc hb.size _)⟩
        case measure => simp [intOf]; omega
      · go_wp2
        go_ret2
        exact ⟨ret_ib (HR.out.all (by omega)) rfl, b1.trans (hb.mono b1.size)⟩

set_option maxHeartbeats 1000000 in
theorem implCostOfAll_any (A : Option Addr) (n c : Nat) (xs : List R5) (w : World) (hn : xs.length = n) (hA : Rd w A (cells5 xs)) (h20 : n ≤ 1048576) :
    Calls Tryd.prog 19 #[.slice A n c] w (Ret (.tuple #[.int .i64 (costV xs), .bool (insL xs)]) w) := by
  have C1 := Lib.hid (fun w => areInsured_any A n c xs w hn)
  cases hv : insL xs with
  | false =>
    rw [hv] at C1
    have e : costV xs = 0 := by simp [costV, hv]
    rw [e]
    clear e hv
    go_enter Tryd.func19, Tryd.ntmps19
    go_wp2_with fail
    refine (C1.out _ hA h20).mono ?_
    rintro e w1 ⟨rfl, b1⟩
    go_wp2
    go_ret2
    exact ⟨rfl, b1⟩
  | true =>
    have h8 : n ≤ 12 := by have := insL_len hv; omega
    rw [hv] at C1
    have HV := Lib.hid (fun k x h => insL_at hv (k := k) (x := x) h)
    have e : costV xs = sumF costF xs := by simp [costV, hv]
    rw [e]
    clear e hv
    go_enter Tryd.func19, Tryd.ntmps19
    go_wp2_with fail
    refine (C1.out _ hA h20).mono ?_
    rintro e w1 ⟨rfl, b1⟩
    have hA1 := hA.below b1
    clear hA
    go_wp2_with fail
    go_loopw [4, 12, 6] (fun s i _ wr => ∃ (k : Nat) (m : Int), k ≤ n ∧ i = .int .i64 k ∧ s = .int .i64 m ∧ SumRelF w1 costF 600000 xs k m wr) (fun _ i _ _ => n - (intOf i).toNat)
    case atStart => exact ⟨0, 0, by omega, rfl, rfl, .zero⟩
    case round =>
      obtain ⟨k, m, hk, rfl, rfl, hrel⟩ := hrel
      have HR := Lib.hid hrel
      obtain ⟨-, hm, hb⟩ := hrel
      by_cases hlt : k < n
      · obtain ⟨x, hxk⟩ : ∃ x, xs[k]? = some x := ⟨xs[k], List.getElem?_eq_getElem (by omega)⟩
        obtain ⟨g, o, hAe, hg, c0, c1, c2, c3, c4⟩ := (hA1.below hb).at5 hxk
        subst hAe
        have HX := Lib.hid hxk
        have HB := Lib.hid (HV.out _ _ hxk)
        obtain ⟨⟨p1, p2⟩, ⟨p3, p4⟩⟩ := cost_bd HB.out
        obtain ⟨_, ⟨q1, q2⟩, ⟨q3, q4⟩, q5, ⟨q6, q7⟩, ⟨q8, q9⟩⟩ := insB_bd HB.out
        clear hxk hA1
        go_wp2
        go_roundw
        case rel => exact ⟨k + 1, _, by omega, by go_num, rfl, HR.out.next HX.out (costF_bd HB.out) (by rw [costF]) ((Below.refl _ _).alloc hb.size _)⟩
        case measure => simp [intOf]; omega
      · go_wp2
        go_ret2
        exact ⟨ret_ib (HR.out.all (by omega)) rfl, b1.trans (hb.mono b1.size)⟩

/-! ### The cover -/
def holdB (item day : Int) (x : R5) : Bool := x.a == item && inR day x.b x.c
def covF (item day : Int) (x : R5) : Int := if holdB item day x then x.d else 0
/-- The cover of an item on a day. -/
def cov (xs : List R5) (item day : Int) : Int := sumF (covF item day) xs
theorem covF_bd {x : R5} (h : insB x = true) (item day : Int) : 0 ≤ covF item day x ∧ covF item day x ≤ 10000000 := by
  have := (insB_bd h).2.2.2.2.1
  unfold covF; split <;> omega
theorem cov_bd {xs : List R5} (h : insL xs = true) (item day : Int) : 0 ≤ cov xs item day ∧ cov xs item day ≤ 120000000 := by
  have := sumF_bd (f := covF item day) (M := 10000000) (xs := xs) (fun x hx => covF_bd (insL_mem h hx) item day)
  have hl := insL_len h
  unfold cov
  omega

set_option maxHeartbeats 1000000 in
theorem l26Holds_any (x : R5) (item day : Int) (w : World) :
    Calls Tryd.prog 48 #[.agg #[.int .i64 x.a, .int .i64 x.b, .int .i64 x.c, .int .i64 x.d, .int .i64 x.e], .int .i64 item, .int .i64 day] w (Ret (.bool (holdB item day x)) w) := by
  go_enter Tryd.func48, Tryd.ntmps48
  go_wp2_with (go_at_call 47; refine (l1In_any _ _ _ _).mono ?_; rintro e w' ⟨rfl, rfl⟩)
  all_goals
    go_ret
    refine ⟨ret_bool ?_, (Below.refl _ _).alloc (Nat.le_refl _) _⟩
    go_light
    grind [holdB]

set_option maxHeartbeats 1000000 in
theorem covers_any (x : R5) (item day : Int) (w : World) :
    Calls Tryd.prog 45 #[.agg #[.int .i64 x.a, .int .i64 x.b, .int .i64 x.c, .int .i64 x.d, .int .i64 x.e], .int .i64 item, .int .i64 day] w (Ret (.bool (holdB item day x)) w) := by
  go_enter Tryd.func45, Tryd.ntmps45
  go_wp2_with (go_at_call 44; refine (inRange_any _ _ _ _).mono ?_; rintro e w' ⟨rfl, rfl⟩)
  all_goals
    go_ret
    refine ⟨ret_bool ?_, (Below.refl _ _).alloc (Nat.le_refl _) _⟩
    go_light
    grind [holdB]

set_option maxHeartbeats 1000000 in
theorem l26Cover_any (A : Option Addr) (n c : Nat) (xs : List R5) (item day : Int) (w : World) (hn : xs.length = n) (hA : Rd w A (cells5 xs)) (hv : insL xs = true) :
    Calls Tryd.prog 30 #[.slice A n c, .int .i64 item, .int .i64 day] w (Ret (.int .i64 (cov xs item day)) w) := by
  have h8 : n ≤ 12 := by have := insL_len hv; omega
  have HV := Lib.hid (fun k x h => insL_at hv (k := k) (x := x) h)
  clear hv
  go_enter Tryd.func30, Tryd.ntmps30
  go_wp2_with fail
  go_loopw [7, 8] (fun s i wr => ∃ (k : Nat) (m : Int), k ≤ n ∧ i = .int .i64 k ∧ s = .int .i64 m ∧ SumRelF w (covF item day) 10000000 xs k m wr) (fun _ i _ => n - (intOf i).toNat)
  case atStart => exact ⟨0, 0, by omega, rfl, rfl, .zero⟩
  case round =>
    obtain ⟨k, m, hk, rfl, rfl, hrel⟩ := hrel
    have HR := Lib.hid hrel
    obtain ⟨-, hm, hb⟩ := hrel
    by_cases hlt : k < n
    · obtain ⟨x, hxk⟩ : ∃ x, xs[k]? = some x := ⟨xs[k], List.getElem?_eq_getElem (by omega)⟩
      obtain ⟨g, o, hAe, hg, c0, c1, c2, c3, c4⟩ := (hA.below hb).at5 hxk
      subst hAe
      have HX := Lib.hid hxk
      have HB := Lib.hid (HV.out _ _ hxk)
      obtain ⟨q1, q2⟩ := (insB_bd HB.out).2.2.2.2.1
      clear hxk hA
      go_wp2_with fail
      refine (l26Holds_any x item day _).mono ?_
      rintro e w2 ⟨rfl, b2⟩
      obtain ⟨bc, bf⟩ := bcell b2
      have hbw : Below w.heap.size wr w2 := b2.mono hb.size
      cases hq : holdB item day x with
      | true =>
        have HQ := Lib.hid hq
        clear hq
        go_wp2
        go_roundw
        case rel => exact ⟨k + 1, _, by omega, by go_num, rfl, HR.out.next HX.out (covF_bd HB.out item day) (by rw [covF, if_pos HQ.out]) hbw⟩
        case measure => simp [intOf]; omega
      | false =>
        have HQ := Lib.hid hq
        clear hq
        go_wp2
        go_roundw
        case rel => exact ⟨k + 1, _, by omega, by go_num, rfl, HR.out.next HX.out (covF_bd HB.out item day) (by rw [covF, if_neg (by rw [HQ.out]; simp)]; simp) hbw⟩
        case measure => simp [intOf]; omega
    · go_wp2
      go_ret
      exact ⟨ret_int (HR.out.all (by omega)), hb⟩

set_option maxHeartbeats 1000000 in
theorem coverOn_any (A : Option Addr) (n c : Nat) (xs : List R5) (item day : Int) (w : World) (hn : xs.length = n) (hA : Rd w A (cells5 xs)) (hv : insL xs = true) :
    Calls Tryd.prog 27 #[.slice A n c, .int .i64 item, .int .i64 day] w (Ret (.int .i64 (cov xs item day)) w) := by
  have h8 : n ≤ 12 := by have := insL_len hv; omega
  have HV := Lib.hid (fun k x h => insL_at hv (k := k) (x := x) h)
  clear hv
  go_enter Tryd.func27, Tryd.ntmps27
  go_wp2_with fail
  go_loopw [7, 12, 9] (fun s i _ wr => ∃ (k : Nat) (m : Int), k ≤ n ∧ i = .int .i64 k ∧ s = .int .i64 m ∧ SumRelF w (covF item day) 10000000 xs k m wr) (fun _ i _ _ => n - (intOf i).toNat)
  case atStart => exact ⟨0, 0, by omega, rfl, rfl, .zero⟩
  case round =>
    obtain ⟨k, m, hk, rfl, rfl, hrel⟩ := hrel
    have HR := Lib.hid hrel
    obtain ⟨-, hm, hb⟩ := hrel
    by_cases hlt : k < n
    · obtain ⟨x, hxk⟩ : ∃ x, xs[k]? = some x := ⟨xs[k], List.getElem?_eq_getElem (by omega)⟩
      obtain ⟨g, o, hAe, hg, c0, c1, c2, c3, c4⟩ := (hA.below hb).at5 hxk
      subst hAe
      have HX := Lib.hid hxk
      have HB := Lib.hid (HV.out _ _ hxk)
      obtain ⟨q1, q2⟩ := (insB_bd HB.out).2.2.2.2.1
      clear hxk hA
      go_wp2_with fail
      refine (covers_any x item day _).mono ?_
      rintro e w2 ⟨rfl, b2⟩
      obtain ⟨bc, bf⟩ := bcell b2
      have hbw : Below w.heap.size wr w2 := ((Below.refl _ _).alloc hb.size _).trans (b2.mono (by have := hb.size; simp; omega))
      cases hq : holdB item day x with
      | true =>
        have HQ := Lib.hid hq
        clear hq
        go_wp2
        go_roundw
        case rel => exact ⟨k + 1, _, by omega, by go_num, rfl, HR.out.next HX.out (covF_bd HB.out item day) (by rw [covF, if_pos HQ.out]) hbw⟩
        case measure => simp [intOf]; omega
      | false =>
        have HQ := Lib.hid hq
        clear hq
        go_wp2
        go_roundw
        case rel => exact ⟨k + 1, _, by omega, by go_num, rfl, HR.out.next HX.out (covF_bd HB.out item day) (by rw [covF, if_neg (by rw [HQ.out]; simp)]; simp) hbw⟩
        case measure => simp [intOf]; omega
    · go_wp2
      go_ret
      exact ⟨ret_int (HR.out.all (by omega)), hb⟩

def covB (xs : List R5) (item day : Int) : Bool := insL xs && (inR item 1 999 && inR day 0 4000)
def covV (xs : List R5) (item day : Int) : Int := if covB xs item day then cov xs item day else 0
def paidB (xs : List R5) (item day worth : Int) : Bool := covB xs item day && inR worth 1 10000000
def paidV (xs : List R5) (item day worth : Int) : Int := if paidB xs item day worth then (if worth < cov xs item day then worth else cov xs item day) else 0
def leastOf (a b : Int) : Int := if a < b then a else b
theorem l1Least_any (a b : Int) (w : World) : Calls Tryd.prog 42 #[.int .i64 a, .int .i64 b] w (RetS (.int .i64 (leastOf a b)) w) := by
  by_cases h : a < b
  · go_enter Tryd.func42, Tryd.ntmps42
    go_wp2
    go_ret
    exact ⟨ret_int (by rw [leastOf, if_pos h]), rfl⟩
  · go_enter Tryd.func42, Tryd.ntmps42
    go_wp2
    go_ret
    exact ⟨ret_int (by rw [leastOf, if_neg (by omega)]), rfl⟩

set_option maxHeartbeats 2000000 in
theorem specCoverOn_any (A : Option Addr) (n c : Nat) (xs : List R5) (item day : Int) (w : World) (hn : xs.length = n) (hA : Rd w A (cells5 xs)) (h20 : n ≤ 1048576) :
    Calls Tryd.prog 15 #[.slice A n c, .int .i64 item, .int .i64 day] w (Ret (.tuple #[.int .i64 (covV xs item day), .bool (covB xs item day)]) w) := by
  go_enter Tryd.func15, Tryd.ntmps15
  go_wp2_with fail
  refine (l26Good_any A n c xs _ hn hA h20).mono ?_
  rintro e w1 ⟨rfl, b1⟩
  have hA1 := Lib.hid (hA.below b1)
  go_wp2_with (first
    | (go_at_call 29; refine (l26Item_any _ _).mono ?_; rintro e w' ⟨rfl, rfl⟩)
    | (go_at_call 35; refine (l2Day_any _ _).mono ?_; rintro e w' ⟨rfl, rfl⟩)
    | (go_at_call 30; refine (l26Cover_any A n c xs item day _ hn hA1.out (by assumption)).mono ?_; rintro e w2 ⟨rfl, b2⟩))
  all_goals
    go_ret2
    first
      | exact ⟨ret_ib (by go_light; grind [covV, covB]) (by go_light; grind [covB]), b1⟩
      | exact ⟨ret_ib (by go_light; grind [covV, covB]) (by go_light; grind [covB]), b1.trans (by have := b1.size; exact Below.mono (by assumption) this)⟩

set_option maxHeartbeats 2000000 in
theorem implCoverOn_any (A : Option Addr) (n c : Nat) (xs : List R5) (item day : Int) (w : World) (hn : xs.length = n) (hA : Rd w A (cells5 xs)) (h20 : n ≤ 1048576) :
    Calls Tryd.prog 8 #[.slice A n c, .int .i64 item, .int .i64 day] w (Ret (.tuple #[.int .i64 (covV xs item day), .bool (covB xs item day)]) w) := by
  go_enter Tryd.func8, Tryd.ntmps8
  go_wp2_with fail
  refine (areInsured_any A n c xs _ hn hA h20).mono ?_
  rintro e w1 ⟨rfl, b1⟩
  have hA1 := Lib.hid (hA.below b1)
  go_wp2_with (first
    | (go_at_call 24; refine (isItem_any _ _).mono ?_; rintro e w' ⟨rfl, rfl⟩)
    | (go_at_call 31; refine (isDay_any _ _).mono ?_; rintro e w' ⟨rfl, rfl⟩)
    | (go_at_call 27; refine (coverOn_any A n c xs item day _ hn hA1.out (by assumption)).mono ?_; rintro e w2 ⟨rfl, b2⟩))
  all_goals
    go_ret2
    first
      | exact ⟨ret_ib (by go_light; grind [covV, covB]) (by go_light; grind [covB]), b1⟩
      | exact ⟨ret_ib (by go_light; grind [covV, covB]) (by go_light; grind [covB]), b1.trans (by have := b1.size; exact Below.mono (by assumption) this)⟩


end Go.Proofs.YtiafiehglfmjaaaDoor
