/- The least bid of the open lot. -/
import Derived.Test.YtjnbcippipookaaAucB
import Derived.Test.YtjnbcippipookaaExt
namespace Go.Proofs.Ytjnbcippipookaa
set_option linter.unusedVariables false
set_option linter.unusedSimpArgs false
open Go.RowKit

def isOpen (x : R5) : Bool := x.c == 1
theorem okOpen_any (x : R5) (w : World) : Calls Try.prog 47 #[.agg #[.int .i64 x.a, .int .i64 x.b, .int .i64 x.c, .int .i64 x.d, .int .i64 x.e]] w (Ret (.bool (isOpen x)) w) := by
  go_enter Try.func47, Try.ntmps47
  go_wp2
  go_ret
  exact ⟨ret_bool rfl, (Below.refl _ _).alloc (Nat.le_refl _) _⟩

set_option maxHeartbeats 1000000 in
/-- slices.IndexFunc over lots, for a predicate that computes p. -/
theorem lotIndexFunc_any (A : Option Addr) (n c : Nat) (xs : List R5) (w : World) (hn : xs.length = n) (hA : Rd w A (cells5 xs)) (h20 : n ≤ 1048576) :
    Calls Try.prog 46 #[.slice A n c, .func (.func 47) #[] #[]] w (Ret (.int .i64 (idxV isOpen xs)) w) := by
  go_enter Try.func46, Try.ntmps46
  go_wp2_with fail
  go_loopw [8, 4, 5] (fun i r _ wr => ∃ (k : Nat), k ≤ n ∧ i = .int .i64 k ∧ r = .int .i64 0 ∧ (∀ (j : Nat) (y : R5), j < k → xs[j]? = some y → isOpen y = false) ∧ Below w.heap.size w wr) (fun i _ _ _ => n - (intOf i).toNat)
  case atStart => exact ⟨0, by omega, rfl, rfl, fun j y hj => by omega, Below.refl _ _⟩
  case round =>
    obtain ⟨k, hk, rfl, rfl, hrel, hb⟩ := hrel
    have HR := Lib.hid hrel
    clear hrel
    by_cases hlt : k < n
    · obtain ⟨x, hxk⟩ : ∃ x, xs[k]? = some x := ⟨xs[k], List.getElem?_eq_getElem (by omega)⟩
      obtain ⟨g, o, hAe, hg, c0, c1, c2, c3, c4⟩ := (hA.below hb).at5 hxk
      subst hAe
      have HX := Lib.hid hxk
      clear hxk hA
      go_wp2_with fail
      refine (okOpen_any x _).mono ?_
      rintro e w1 ⟨rfl, b1⟩
      obtain ⟨q, hq⟩ : ∃ q, q = isOpen x := ⟨_, rfl⟩
      rw [← hq]
      have HQ := Lib.hid hq
      clear hq
      cases q with
      | true =>
        go_wp2
        go_ret
        exact ⟨ret_int (idxV_hit HR.out HX.out HQ.out.symm).symm, hb.trans (b1.mono hb.size)⟩
      | false =>
        go_wp2
        go_roundw
        case rel =>
          refine ⟨k + 1, by omega, by go_num, rfl, fun j y hj hy => ?_, hb.trans (b1.mono hb.size)⟩
          rcases Nat.lt_or_ge j k with h | h
          · exact HR.out j y h hy
          · have : j = k := by omega
            subst this; rw [HX.out] at hy; injection hy with hy; subst hy; exact HQ.out.symm
        case measure => simp [intOf]; omega
    · go_wp2
      go_ret
      exact ⟨ret_int (idxV_miss (fun j y hy => HR.out j y (by have := (List.getElem?_eq_some_iff.1 hy).1; omega) hy)).symm, hb⟩

theorem openLot_any (A : Option Addr) (n c : Nat) (xs : List R5) (w : World) (hn : xs.length = n) (hA : Rd w A (cells5 xs)) (h20 : n ≤ 1048576) :
    Calls Try.prog 24 #[.slice A n c] w (Ret (.int .i64 (idxV isOpen xs)) w) := by
  go_enter Try.func24, Try.ntmps24
  go_wp2_with fail
  refine (lotIndexFunc_any A n c xs _ hn hA h20).mono ?_
  rintro e w1 ⟨rfl, b1⟩
  go_wp2
  go_ret
  exact ⟨rfl, b1⟩

set_option maxHeartbeats 1000000 in
theorem l29Open_any (A : Option Addr) (n c : Nat) (xs : List R5) (w : World) (hn : xs.length = n) (hA : Rd w A (cells5 xs)) (h20 : n ≤ 1048576) :
    Calls Try.prog 30 #[.slice A n c] w (RetS (.int .i64 (idxV isOpen xs)) w) := by
  go_enter Try.func30, Try.ntmps30
  go_wp2_with fail
  go_loopw [3, 2] (fun i r wr => ∃ (k : Nat), k ≤ n ∧ i = .int .i64 k ∧ r = .int .i64 0 ∧ (∀ (j : Nat) (y : R5), j < k → xs[j]? = some y → isOpen y = false) ∧ w = wr) (fun i _ _ => n - (intOf i).toNat)
  case atStart => exact ⟨0, by omega, rfl, rfl, fun j y hj => by omega, rfl⟩
  case round =>
    obtain ⟨k, hk, rfl, rfl, hrel, rfl⟩ := hrel
    have HR := Lib.hid hrel
    clear hrel
    by_cases hlt : k < n
    · obtain ⟨x, hxk⟩ : ∃ x, xs[k]? = some x := ⟨xs[k], List.getElem?_eq_getElem (by omega)⟩
      obtain ⟨g, o, hAe, hg, c0, c1, c2, c3, c4⟩ := hA.at5 hxk
      subst hAe
      have HX := Lib.hid hxk
      clear hxk hA
      go_wp2
      · have h1 : (x.c == 1) = true := by assumption
        go_ret
        exact ⟨ret_int (idxV_hit HR.out HX.out h1).symm, rfl⟩
      · have h1 : (x.c == 1) = false := by assumption
        go_roundw
        case rel =>
          refine ⟨k + 1, by omega, by go_num, rfl, fun j y hj hy => ?_, trivial⟩
          rcases Nat.lt_or_ge j k with h | h
          · exact HR.out j y h hy
          · have : j = k := by omega
            subst this; rw [HX.out] at hy; injection hy with hy; subst hy; exact h1
        case measure => simp [intOf]; omega
    · go_wp2
      go_ret
      exact ⟨ret_int (idxV_miss (fun j y hy => HR.out j y (by have := (List.getElem?_eq_some_iff.1 hy).1; omega) hy)).symm, rfl⟩

/-- The least bid for a lot. -/
def leastV (x : R5) : Int := if x.d = 0 then 1 else x.d + (if x.d / 20 < 1 then 1 else x.d / 20)
theorem leastV_bd {x : R5} (h : 0 ≤ x.d ∧ x.d ≤ 99999) : 1 ≤ leastV x ∧ leastV x ≤ 200000 := by unfold leastV; split <;> (try split) <;> omega

def mostV (a b : Int) : Int := if b < a then a else b
theorem l1Most_any (a b : Int) (w : World) : Calls Try.prog 49 #[.int .i64 a, .int .i64 b] w (RetS (.int .i64 (mostV a b)) w) := by
  by_cases h : b < a
  · go_enter Try.func49, Try.ntmps49
    go_wp2
    go_ret
    exact ⟨ret_int (by rw [mostV, if_pos (by omega)]), rfl⟩
  · go_enter Try.func49, Try.ntmps49
    go_wp2
    go_ret
    exact ⟨ret_int (by rw [mostV, if_neg (by omega)]), rfl⟩

set_option maxHeartbeats 1000000 in
theorem leastBid_any (x : R5) (w : World) (hd : 0 ≤ x.d ∧ x.d ≤ 99999) :
    Calls Try.prog 25 #[.agg #[.int .i64 x.a, .int .i64 x.b, .int .i64 x.c, .int .i64 x.d, .int .i64 x.e]] w (Ret (.int .i64 (leastV x)) w) := by
  by_cases h0 : x.d = 0
  · have e : leastV x = 1 := by simp [leastV, h0]
    rw [e]
    have h1 : (x.d == 0) = true := by simp [h0]
    clear h0 e
    go_enter Try.func25, Try.ntmps25
    go_wp2
    go_ret
    exact ⟨rfl, (Below.refl _ _).alloc (Nat.le_refl _) _⟩
  · have h1 : (x.d == 0) = false := by simp [h0]
    obtain ⟨L, hL⟩ : ∃ L, L = leastV x := ⟨_, rfl⟩
    rw [← hL]
    rw [leastV, if_neg h0] at hL
    have HL := Lib.hid hL
    clear h0 hL
    go_enter Try.func25, Try.ntmps25
    go_wp2
    all_goals
      go_ret
      refine ⟨ret_int ?_, (Below.refl _ _).alloc (Nat.le_refl _) _⟩
      rw [HL.out]
      split <;> omega

set_option maxHeartbeats 1000000 in
theorem l29Least_any (x : R5) (w : World) (hd : 0 ≤ x.d ∧ x.d ≤ 99999) :
    Calls Try.prog 32 #[.agg #[.int .i64 x.a, .int .i64 x.b, .int .i64 x.c, .int .i64 x.d, .int .i64 x.e]] w (Ret (.int .i64 (leastV x)) w) := by
  by_cases h0 : x.d = 0
  · have e : leastV x = 1 := by simp [leastV, h0]
    rw [e]
    have h1 : (x.d == 0) = true := by simp [h0]
    clear h0 e
    go_enter Try.func32, Try.ntmps32
    go_wp2
    go_ret
    exact ⟨rfl, (Below.refl _ _).alloc (Nat.le_refl _) _⟩
  · have h1 : (x.d == 0) = false := by simp [h0]
    obtain ⟨L, hL⟩ : ∃ L, L = leastV x := ⟨_, rfl⟩
    rw [← hL]
    rw [leastV, if_neg h0] at hL
    have HL := Lib.hid hL
    obtain ⟨m, hm⟩ : ∃ m, m = mostV 1 (x.d / 20) := ⟨_, rfl⟩
    have C1 := Lib.hid (fun w => l1Most_any 1 (x.d / 20) w)
    rw [← hm] at C1
    have hmb : 1 ≤ m ∧ m ≤ 100000 := by rw [hm, mostV]; split <;> omega
    have HM := Lib.hid hm
    clear h0 hL hm
    go_enter Try.func32, Try.ntmps32
    go_wp2_with fail
    refine wp_region_lat (w.heap.size + 1) (by kernel_rfl) (by kernel_rfl) ?_
    have LC := fun (u : Lat (w.heap.size + 1) (w.alloc (Obj.cells #[Value.int IntKind.i64 x.a, Value.int IntKind.i64 x.b, Value.int IntKind.i64 x.c, Value.int IntKind.i64 x.d, Value.int IntKind.i64 x.e] 36))) => u.cell
    repeat (go_big_quiet_step ((go_at_call 49; exact lat_same _ (C1.out _))))
    refine wpQuiet_nil ?_
    intro w1 hb1
    clear LC
    go_wp2
    go_ret
    refine ⟨ret_int ?_, ((Below.refl _ _).alloc (Nat.le_refl _) _).trans (hb1.mono (by omega))⟩
    rw [HL.out, HM.out, mostV]

/-- What LeastBid returns. -/
def lbOK (xs : List R5) : Bool := auc xs && match xs.find? isOpen with | some x => decide (leastV x ≤ 99999) | none => false
def lbV (xs : List R5) : Int := if lbOK xs then match xs.find? isOpen with | some x => leastV x | none => 0 else 0
theorem find_of_idx {p : R5 → Bool} {xs : List R5} {k : Nat} {x : R5} (h : ∀ (j : Nat) (y : R5), j < k → xs[j]? = some y → p y = false) (hx : xs[k]? = some x) (hp : p x = true) : xs.find? p = some x := by
  have hk := (List.getElem?_eq_some_iff.1 hx).1
  rw [List.find?_eq_some_iff_getElem]
  refine ⟨hp, k, hk, ?_, fun j hj => ?_⟩
  · rw [List.getElem?_eq_getElem hk] at hx; injection hx
  · have := h j xs[j] hj (List.getElem?_eq_getElem (by omega)); simp [this]

set_option maxHeartbeats 1000000 in
theorem implLeastBid_any (A : Option Addr) (n c : Nat) (xs : List R5) (w : World) (hn : xs.length = n) (hA : Rd w A (cells5 xs)) (h20 : n ≤ 1048576) :
    Calls Try.prog 11 #[.slice A n c] w (Ret (.tuple #[.int .i64 (lbV xs), .bool (lbOK xs)]) w) := by
  have C1 := Lib.hid (fun w => isAuction_any A n c xs w hn)
  cases hv : auc xs with
  | false =>
    rw [hv] at C1
    have e : lbOK xs = false := by simp [lbOK, hv]
    have e' : lbV xs = 0 := by simp [lbV, e]
    rw [e, e']
    clear e e' hv
    go_enter Try.func11, Try.ntmps11
    go_wp2_with fail
    refine (C1.out _ hA h20).mono ?_
    rintro e w1 ⟨rfl, b1⟩
    go_wp2
    go_ret2
    exact ⟨rfl, b1⟩
  | true =>
    rw [hv] at C1
    rcases idxV_cases isOpen xs with ⟨hi, hno⟩ | ⟨k, x, hi, hx, hp, hj⟩
    · have e : lbOK xs = false := by
        have : xs.find? isOpen = none := by rw [List.find?_eq_none]; intro x hx; simp [hno x hx]
        simp [lbOK, this]
      have e' : lbV xs = 0 := by simp [lbV, e]
      have C2 := Lib.hid (fun w => openLot_any A n c xs w hn)
      rw [hi] at C2
      rw [e, e']
      clear e e' hv hi hno
      go_enter Try.func11, Try.ntmps11
      go_wp2_with fail
      refine (C1.out _ hA h20).mono ?_
      rintro e w1 ⟨rfl, b1⟩
      go_wp2_with fail
      refine (C2.out _ (hA.below b1) h20).mono ?_
      rintro e w2 ⟨rfl, b2⟩
      go_wp2
      go_ret2
      exact ⟨rfl, b1.trans (b2.mono b1.size)⟩
    · have hf := find_of_idx hj hx hp
      have hb := (lot_bd (auc_at hv hx)).2.2.1
      have hk : k < n := by have := (List.getElem?_eq_some_iff.1 hx).1; omega
      have C2 := Lib.hid (fun w => openLot_any A n c xs w hn)
      rw [hi] at C2
      have e : lbOK xs = decide (leastV x ≤ 99999) := by simp [lbOK, hv, hf]
      have e' : lbV xs = if leastV x ≤ 99999 then leastV x else 0 := by simp [lbV, e, hf]
      have hlb := leastV_bd hb
      have C3 := Lib.hid (fun w => leastBid_any x w hb)
      obtain ⟨L, hL⟩ : ∃ L, L = leastV x := ⟨_, rfl⟩
      rw [← hL] at C3 e e' hlb
      rw [e, e']
      have HX := Lib.hid hx
      clear hL e e' hv hi hx hp hj hf
      by_cases hLe : L ≤ 99999
      · go_enter Try.func11, Try.ntmps11
        go_wp2_with fail
        refine (C1.out _ hA h20).mono ?_
        rintro e w1 ⟨rfl, b1⟩
        go_wp2_with fail
        refine (C2.out _ (hA.below b1) h20).mono ?_
        rintro e w2 ⟨rfl, b2⟩
        have hA2 := (hA.below b1).below b2
        obtain ⟨g, o, hAe, hg, c0, c1, c2, c3, c4⟩ := hA2.at5 HX.out
        subst hAe
        go_wp2_with fail
        refine (C3.out _).mono ?_
        rintro e w3 ⟨rfl, b3⟩
        obtain ⟨bc, bf⟩ := bcell b3
        go_wp2_with fail
        refine (C3.out _).mono ?_
        rintro e w4 ⟨rfl, b4⟩
        go_wp2
        go_ret2
        exact ⟨rfl, b1.trans ((b2.mono b1.size).trans ((b3.mono (by have := b1.size; have := b2.size; omega)).trans (b4.mono (by have := b1.size; have := b2.size; have := b3.size; omega))))⟩
      · go_enter Try.func11, Try.ntmps11
        go_wp2_with fail
        refine (C1.out _ hA h20).mono ?_
        rintro e w1 ⟨rfl, b1⟩
        go_wp2_with fail
        refine (C2.out _ (hA.below b1) h20).mono ?_
        rintro e w2 ⟨rfl, b2⟩
        have hA2 := (hA.below b1).below b2
        obtain ⟨g, o, hAe, hg, c0, c1, c2, c3, c4⟩ := hA2.at5 HX.out
        subst hAe
        go_wp2_with fail
        refine (C3.out _).mono ?_
        rintro e w3 ⟨rfl, b3⟩
        go_wp2
        go_ret2
        exact ⟨rfl, b1.trans ((b2.mono b1.size).trans ((b3.mono (by have := b1.size; have := b2.size; omega))))⟩

end Go.Proofs.Ytjnbcippipookaa
