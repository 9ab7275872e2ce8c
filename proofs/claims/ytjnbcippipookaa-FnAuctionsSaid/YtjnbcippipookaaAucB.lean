/- Turnover, the lots that a bidder bought, the lots in a state: the program's and the reference's loops compute the same sums and lists. -/
import Derived.Test.YtjnbcippipookaaAucA
namespace Go.Proofs.Ytjnbcippipookaa
set_option linter.unusedVariables false
set_option linter.unusedSimpArgs false
open Go.RowKit

theorem info3 : (Try.prog.info? 3).map (fun i => (i.zero, i.size, i.bytes)) = some (some (.int .i64 0), 1, 8) := by kernel_rfl

theorem auc_len {xs : List R5} (h : auc xs = true) : xs.length ≤ 8 := by simp [auc] at h; exact h.2.1
theorem auc_at {xs : List R5} (h : auc xs = true) {k : Nat} {x : R5} (hx : xs[k]? = some x) : lotB x = true := by
  have h1 := h
  simp only [auc, Bool.and_eq_true, List.all_eq_true] at h1
  have := h1.1 k (by simpa using (List.getElem?_eq_some_iff.1 hx).1)
  simp only [okAt, hx, Bool.and_eq_true] at this
  exact this.1
theorem lot_bd {x : R5} (h : lotB x = true) : (1 ≤ x.a ∧ x.a ≤ 99) ∧ (0 ≤ x.b ∧ x.b ≤ 99999) ∧ (0 ≤ x.d ∧ x.d ≤ 99999) ∧ (0 ≤ x.e ∧ x.e ≤ 999) := by
  simp only [lotB, decide_eq_true_eq] at h; omega

/-! ### Sums -/
def sumD (p : R5 → Bool) (xs : List R5) : Int := ((xs.filter p).map (·.d)).sum
theorem sumD_take (p : R5 → Bool) {xs : List R5} {k : Nat} {x : R5} (h : xs[k]? = some x) : sumD p (xs.take (k + 1)) = sumD p (xs.take k) + if p x then x.d else 0 := by
  rw [List.take_add_one, h]; simp only [sumD, Option.toList, List.filter_append, List.map_append, List.sum_append]
  by_cases hc : p x = true <;> simp [hc]
def pSold (b : Int) (x : R5) : Bool := x.c == 2 && (b == 0 || x.e == b)
/-- The loops' relation: what has been summed up. -/
def SumRel (W : World) (p : R5 → Bool) (xs : List R5) (k : Nat) (m : Int) (wr : World) : Prop := m = sumD p (xs.take k) ∧ (0 ≤ m ∧ m ≤ 99999 * k) ∧ Below W.heap.size W wr
theorem SumRel.next {W wr w1 : World} {p : R5 → Bool} {xs : List R5} {k : Nat} {m m' : Int} {x : R5} (h : SumRel W p xs k m wr) (hx : xs[k]? = some x) (hv : lotB x = true) (hm : m' = m + if p x then x.d else 0) (hb : Below W.heap.size wr w1) :
    SumRel W p xs (k + 1) m' w1 := by
  obtain ⟨h1, h2, h3⟩ := h
  have hd := lot_bd hv
  refine ⟨by rw [sumD_take p hx, hm, h1], ?_, h3.trans hb⟩
  rw [hm]; split <;> omega
theorem SumRel.all {W wr : World} {p : R5 → Bool} {xs : List R5} {k : Nat} {m : Int} (h : SumRel W p xs k m wr) (hk : xs.length ≤ k) : m = sumD p xs := by
  rw [h.1, List.take_of_length_le hk]


/-- The turnover. -/
def turnV (xs : List R5) : Int := if auc xs then sumD (pSold 0) xs else 0
def turnR (xs : List R5) : Value := .tuple #[.int .i64 (turnV xs), .bool (auc xs)]


set_option maxHeartbeats 1000000 in
theorem implTurnoverOf_any (A : Option Addr) (n c : Nat) (xs : List R5) (w : World) (hn : xs.length = n) (hA : Rd w A (cells5 xs)) (h20 : n ≤ 1048576) :
    Calls Try.prog 12 #[.slice A n c] w (Ret (.tuple #[.int .i64 (turnV xs), .bool (auc xs)]) w) := by
  cases hv : auc xs with
  | false =>
    have C1 := Lib.hid (fun w => isAuction_any A n c xs w hn)
    rw [hv] at C1
    have e : turnV xs = 0 := by simp [turnV, hv]
    rw [e]
    clear e hv
    go_enter Try.func12, Try.ntmps12
    go_wp2_with fail
    refine (C1.out _ hA h20).mono ?_
    rintro e w1 ⟨rfl, b1⟩
    go_wp2
    go_ret2
    exact ⟨rfl, b1⟩
  | true =>
    have h8 : n ≤ 8 := by have := auc_len hv; omega
    have C1 := Lib.hid (fun w => isAuction_any A n c xs w hn)
    rw [hv] at C1
    have HV := Lib.hid (fun k x h => auc_at hv (k := k) (x := x) h)
    have e : turnV xs = sumD (pSold 0) xs := by simp [turnV, hv]
    rw [e]
    clear e hv
    go_enter Try.func12, Try.ntmps12
    go_wp2_with fail
    refine (C1.out _ hA h20).mono ?_
    rintro e w1 ⟨rfl, b1⟩
    have hA1 := hA.below b1
    clear hA
    go_wp2_with fail
    go_loopw [4, 12, 6] (fun s i _ wr => ∃ (k : Nat) (m : Int), k ≤ n ∧ i = .int .i64 k ∧ s = .int .i64 m ∧ SumRel w1 (pSold 0) xs k m wr) (fun _ i _ _ => n - (intOf i).toNat)
    case atStart => exact ⟨0, 0, by omega, rfl, rfl, rfl, by omega, Below.refl _ _⟩
    case round =>
      obtain ⟨k, m, hk, rfl, rfl, hrel⟩ := hrel
      have HR := Lib.hid hrel
      obtain ⟨-, hm, hb⟩ := hrel
      by_cases hlt : k < n
      · obtain ⟨x, hxk⟩ : ∃ x, xs[k]? = some x := ⟨xs[k], List.getElem?_eq_getElem (by omega)⟩
        obtain ⟨g, o, rfl, hg, c0, c1, c2, c3, c4⟩ := (hA1.below hb).at5 hxk
        have HX := Lib.hid hxk
        have HB := Lib.hid (HV.out _ _ hxk)
        have hd := (lot_bd HB.out).2.2.1
        clear hxk hA1
        go_wp2
        all_goals
          go_roundw
          case rel => exact ⟨k + 1, _, by omega, by go_num, rfl, HR.out.next HX.out HB.out (by clear HR HV; go_light; grind [pSold]) ((Below.refl _ _).alloc hb.size _)⟩
          case measure => simp [intOf]; omega
      · go_wp2
        go_ret2
        exact ⟨ret_ib (HR.out.all (by omega)) rfl, b1.trans (hb.mono b1.size)⟩
end Go.Proofs.Ytjnbcippipookaa
