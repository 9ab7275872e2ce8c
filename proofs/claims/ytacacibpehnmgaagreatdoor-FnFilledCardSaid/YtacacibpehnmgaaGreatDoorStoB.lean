/- Stock book: which rows are strips, which lists are books: the program's and the reference's tests compute one function. -/
import Derived.Test.YtacacibpehnmgaaGreatDoorStoA
import Derived.Deep.Light
import Derived.StillTailTactics
namespace Go.Proofs.YtacacibpehnmgaaGreatDoor
set_option linter.unusedVariables false
set_option linter.unusedSimpArgs false
open Go.RowKit

set_option maxHeartbeats 1000000 in
theorem l27End_any (A : Option Addr) (n c : Nat) (ws : List Int) (w : World) (hn : ws.length = n) (hA : Rd w A (cells1 ws)) (h13 : n ≤ 13) (hw : ∀ v ∈ ws, wdB v = true) :
    Calls Tryz.prog 62 #[.slice A n c] w (RetS (.int .i64 (endV ws)) w) := by
  have HN := Lib.hid hn
  have HW := Lib.hid hw
  clear hn hw
  go_enter Tryz.func62, Tryz.ntmps62
  go_wp2_with fail
  go_loopw [3, 4] (fun e i wr => ∃ k : Nat, k ≤ n ∧ i = .int .i64 k ∧ e = .int .i64 (endV (ws.take k)) ∧ w = wr) (fun _ i _ => n - (intOf i).toNat)
  case atStart => exact ⟨0, Nat.zero_le _, rfl, by simp [endV], rfl⟩
  case round =>
    obtain ⟨k, hk, rfl, rfl, rfl⟩ := hrel
    by_cases hlt : k < n
    · obtain ⟨x, hxk⟩ : ∃ x, ws[k]? = some x := ⟨ws[k]'(by have := HN.out; omega), List.getElem?_eq_getElem _⟩
      obtain ⟨g, o, rfl, hg, c0⟩ := hA.at1 hxk
      have hx := wdB_bd.1 (HW.out x (List.mem_of_getElem? hxk))
      have hE := endV_bd (all_take HW.out k) (by rw [List.length_take]; omega)
      have HS := Lib.hid (endV_take hxk)
      obtain ⟨E, hEE⟩ : ∃ E, E = endV (ws.take k) := ⟨_, rfl⟩
      rw [← hEE] at hE HS ⊢
      clear hEE hA hxk
      by_cases h0 : 0 < k
      · have HS' := Lib.hid (HS.out.trans (by rw [if_pos h0]))
        clear HS
        go_wp2
        go_roundw
        case rel => exact ⟨k + 1, by omega, by go_num, by rw [HS'.out], trivial⟩
        case measure => simp [intOf]; omega
      · have HS' := Lib.hid (HS.out.trans (show _ = E + x by rw [if_neg h0]; omega))
        clear HS
        go_wp2
        go_roundw
        case rel => exact ⟨k + 1, by omega, by go_num, by rw [HS'.out], trivial⟩
        case measure => simp [intOf]; omega
    · go_wp2
      go_ret
      exact ⟨ret_int (by rw [List.take_of_length_le (by have := HN.out; omega)]), rfl⟩

set_option maxHeartbeats 1000000 in
theorem l27Row_any (A : Option Addr) (n c : Nat) (ws : List Int) (w : World) (hn : ws.length = n) (hA : Rd w A (cells1 ws)) (h20 : n ≤ 1048577) :
    Calls Tryz.prog 61 #[.slice A n c] w (RetS (.bool (rowB ws)) w) := by
  have HN := Lib.hid hn
  clear hn
  go_enter Tryz.func61, Tryz.ntmps61
  go_wp2_with fail
  go_loopw [3, 2] (fun i r wr => ∃ k : Nat, k ≤ n ∧ i = .int .i64 k ∧ r = .bool false ∧ (∀ (j : Nat) (y : Int), j < k → ws[j]? = some y → wdB y = true) ∧ w = wr) (fun i _ _ => n - (intOf i).toNat)
  case atStart => exact ⟨0, Nat.zero_le _, rfl, rfl, fun j y hj => by omega, rfl⟩
  case round =>
    obtain ⟨k, hk, rfl, rfl, hrel, rfl⟩ := hrel
    have HR := Lib.hid hrel
    clear hrel
    by_cases hlt : k < n
    · obtain ⟨x, hxk⟩ : ∃ x, ws[k]? = some x := ⟨ws[k]'(by have := HN.out; omega), List.getElem?_eq_getElem _⟩
      obtain ⟨g, o, rfl, hg, c0⟩ := hA.at1 hxk
      have HX := Lib.hid hxk
      have C := Lib.hid (fun w => l27Width_any x w)
      clear hA hxk
      cases hv : wdB x with
      | false =>
        rw [hv] at C
        have HV := Lib.hid (rowB_no HX.out hv)
        clear hv
        go_wp2_with fail
        refine (C.out _).mono ?_
        rintro e w1 ⟨rfl, rfl⟩
        go_wp2
        go_ret
        exact ⟨ret_bool HV.out.symm, rfl⟩
      | true =>
        rw [hv] at C
        have HV := Lib.hid hv
        clear hv
        go_wp2_with fail
        refine (C.out _).mono ?_
        rintro e w1 ⟨rfl, rfl⟩
        go_wp2
        go_roundw
        case rel =>
          refine ⟨k + 1, by omega, by go_num, rfl, fun j y hj hy => ?_, trivial⟩
          rcases Nat.lt_or_ge j k with h | h
          · exact HR.out j y h hy
          · have : j = k := by omega
            subst this; rw [HX.out] at hy; injection hy with hy; subst hy; exact HV.out
        case measure => simp [intOf]; omega
    · have hall : ∀ v ∈ ws, wdB v = true := fun v hv => by
        obtain ⟨j, hj, rfl⟩ := List.getElem_of_mem hv
        exact HR.out j _ (by have := HN.out; omega) (List.getElem?_eq_getElem hj)
      have HALL := Lib.hid hall
      have hb : ws.all wdB = true := by rw [List.all_eq_true]; exact hall
      by_cases h12 : n ≤ 12
      · have C := Lib.hid (fun w h => l27End_any A n c ws w HN.out h (by omega) HALL.out)
        have HA := Lib.hid hA
        have HB := Lib.hid (show rowB ws = decide (endV ws ≤ 200) by have := HN.out; simp [rowB, hb]; omega)
        clear hall hb
        have hd1 : decide ((n : Int) ≤ 12) = true := by simp; omega
        go_wp2_with fail
        refine (C.out _ HA.out).mono ?_
        rintro e w1 ⟨rfl, rfl⟩
        go_wp2
        go_ret
        exact ⟨ret_bool HB.out.symm, rfl⟩
      · have HB := Lib.hid (show rowB ws = false by have := HN.out; simp [rowB, hb]; omega)
        clear hall hb
        have hd1 : decide ((n : Int) ≤ 12) = false := by simp; omega
        go_wp2
        go_ret
        exact ⟨ret_bool HB.out.symm, rfl⟩

/-- restOf of any numbers: it returns some number; of widths: what is left. -/
def RetRest (ws : List Int) (w : World) : Ending → World → Prop := fun e w' => ∃ r : Int, e = .returned (.int .i64 r) ∧ ((∀ v ∈ ws, wdB v = true) → r = 200 - endV ws) ∧ w = w'
set_option maxHeartbeats 1000000 in
theorem restOf_wd (A : Option Addr) (n c : Nat) (ws : List Int) (w : World) (hn : ws.length = n) (hA : Rd w A (cells1 ws)) (h13 : n ≤ 13) (hw : ∀ v ∈ ws, wdB v = true) :
    Calls Tryz.prog 51 #[.slice A n c] w (RetS (.int .i64 (200 - endV ws)) w) := by
  have HN := Lib.hid hn
  have HW := Lib.hid hw
  clear hn hw
  go_enter Tryz.func51, Tryz.ntmps51
  go_wp2_with fail
  go_loopw [3, 4, 5, 8] (fun e _ _ i wr => ∃ k : Nat, k ≤ n ∧ i = .int .i64 k ∧ e = .int .i64 (200 - endV (ws.take k)) ∧ w = wr) (fun _ _ _ i _ => n - (intOf i).toNat)
  case atStart => exact ⟨0, Nat.zero_le _, rfl, by simp [endV], rfl⟩
  case round =>
    obtain ⟨k, hk, rfl, rfl, rfl⟩ := hrel
    by_cases hlt : k < n
    · obtain ⟨x, hxk⟩ : ∃ x, ws[k]? = some x := ⟨ws[k]'(by have := HN.out; omega), List.getElem?_eq_getElem _⟩
      obtain ⟨g, o, rfl, hg, c0⟩ := hA.at1 hxk
      have hx := wdB_bd.1 (HW.out x (List.mem_of_getElem? hxk))
      have hE := endV_bd (all_take HW.out k) (by rw [List.length_take]; omega)
      have HS := Lib.hid (endV_take hxk)
      obtain ⟨E, hEE⟩ : ∃ E, E = endV (ws.take k) := ⟨_, rfl⟩
      rw [← hEE] at hE HS ⊢
      clear hEE hA hxk
      by_cases h0 : 0 < k
      · have HS' := Lib.hid (HS.out.trans (by rw [if_pos h0]))
        clear HS
        go_wp2
        go_roundw
        case rel => exact ⟨k + 1, by omega, by go_num, by rw [HS'.out]; congr 1; omega, trivial⟩
        case measure => simp [intOf]; omega
      · have HS' := Lib.hid (HS.out.trans (show _ = E + x by rw [if_neg h0]; omega))
        clear HS
        go_wp2
        go_roundw
        case rel => exact ⟨k + 1, by omega, by go_num, by rw [HS'.out]; congr 1; omega, trivial⟩
        case measure => simp [intOf]; omega
    · go_wp2
      go_ret
      exact ⟨ret_int (by rw [List.take_of_length_le (by have := HN.out; omega)]), rfl⟩
set_option maxHeartbeats 1000000 in
theorem restOf_some (A : Option Addr) (n c : Nat) (ws : List Int) (w : World) (hn : ws.length = n) (hA : Rd w A (cells1 ws)) (h13 : n ≤ 13) (hno : ¬ ∀ v ∈ ws, wdB v = true) :
    Calls Tryz.prog 51 #[.slice A n c] w (RetRest ws w) := by
  have HN := Lib.hid hn
  have HNO := Lib.hid hno
  clear hn hno
  go_enter Tryz.func51, Tryz.ntmps51
  go_wp2_with fail
  go_loopw [3, 4, 5, 8] (fun e _ _ i wr => ∃ (k : Nat) (r : Int), k ≤ n ∧ i = .int .i64 k ∧ e = .int .i64 r ∧ w = wr) (fun _ _ _ i _ => n - (intOf i).toNat)
  case atStart => exact ⟨0, 200, Nat.zero_le _, rfl, rfl, rfl⟩
  case round =>
    obtain ⟨k, r, hk, rfl, rfl, rfl⟩ := hrel
    by_cases hlt : k < n
    · obtain ⟨x, hxk⟩ : ∃ x, ws[k]? = some x := ⟨ws[k]'(by have := HN.out; omega), List.getElem?_eq_getElem _⟩
      obtain ⟨g, o, rfl, hg, c0⟩ := hA.at1 hxk
      clear hA hxk
      by_cases h0 : 0 < k
      · go_wp2
        go_roundw
        case rel => exact ⟨k + 1, _, by omega, by go_num, rfl, trivial⟩
        case measure => simp [intOf]; omega
      · go_wp2
        go_roundw
        case rel => exact ⟨k + 1, _, by omega, by go_num, rfl, trivial⟩
        case measure => simp [intOf]; omega
    · go_wp2
      go_ret
      exact ⟨r, rfl, fun h => absurd h HNO.out, rfl⟩

theorem areWd_any (x : Int) (w : World) : Calls Tryz.prog 68 #[.int .i64 x] w (RetS (.bool (!wdB x)) w) := by
  have C := Lib.hid (fun w => isWidth_any x w)
  cases hv : wdB x with
  | false =>
    rw [hv] at C
    clear hv
    go_enter Tryz.func68, Tryz.ntmps68
    go_wp2_with fail
    refine (C.out _).mono ?_
    rintro e w1 ⟨rfl, rfl⟩
    go_wp2
    go_ret
    exact ⟨rfl, rfl⟩
  | true =>
    rw [hv] at C
    clear hv
    go_enter Tryz.func68, Tryz.ntmps68
    go_wp2_with fail
    refine (C.out _).mono ?_
    rintro e w1 ⟨rfl, rfl⟩
    go_wp2
    go_ret
    exact ⟨rfl, rfl⟩

set_option maxHeartbeats 1000000 in
theorem wdIndexFunc_any (A : Option Addr) (n c : Nat) (xs : List Int) (w : World) (hn : xs.length = n) (hA : Rd w A (cells1 xs)) (h20 : n ≤ 1048577) :
    Calls Tryz.prog 58 #[.slice A n c, .func (.func 68) #[] #[]] w (RetS (.int .i64 (idxV (fun x => !wdB x) xs)) w) := by
  go_enter Tryz.func58, Tryz.ntmps58
  go_wp2_with fail
  go_loopw [8, 4, 5] (fun i r _ wr => ∃ (k : Nat), k ≤ n ∧ i = .int .i64 k ∧ r = .int .i64 0 ∧ (∀ (j : Nat) (y : Int), j < k → xs[j]? = some y → (!wdB y) = false) ∧ w = wr) (fun i _ _ _ => n - (intOf i).toNat)
  case atStart => exact ⟨0, by omega, rfl, rfl, fun j y hj => by omega, rfl⟩
  case round =>
    obtain ⟨k, hk, rfl, rfl, hrel, rfl⟩ := hrel
    have HR := Lib.hid hrel
    clear hrel
    by_cases hlt : k < n
    · obtain ⟨x, hxk⟩ : ∃ x, xs[k]? = some x := ⟨xs[k], List.getElem?_eq_getElem (by omega)⟩
      obtain ⟨g, o, hAe, hg, c0⟩ := hA.at1 hxk
      subst hAe
      have HX := Lib.hid hxk
      clear hxk hA
      go_wp2_with fail
      refine (areWd_any x _).mono ?_
      rintro e w1 ⟨rfl, rfl⟩
      obtain ⟨q, hq⟩ : ∃ q, q = !wdB x := ⟨_, rfl⟩
      rw [← hq]
      have HQ := Lib.hid hq
      clear hq
      cases q with
      | true =>
        go_wp2
        go_ret
        exact ⟨ret_int (idxV_hit HR.out HX.out HQ.out.symm).symm, rfl⟩
      | false =>
        go_wp2
        go_roundw
        case rel =>
          refine ⟨k + 1, by omega, by go_num, rfl, fun j y hj hy => ?_, trivial⟩
          rcases Nat.lt_or_ge j k with h | h
          · exact HR.out j y h hy
          · have : j = k := by omega
            subst this; rw [HX.out] at hy; injection hy with hy; subst hy; exact HQ.out.symm
        case measure => simp [intOf]; omega
    · go_wp2
      go_ret
      exact ⟨ret_int (idxV_miss (fun j y hy => HR.out j y (by have := (List.getElem?_eq_some_iff.1 hy).1; omega) hy)).symm, rfl⟩
theorem idxV_any {α : Type} (p : α → Bool) (xs : List α) : decide (0 ≤ idxV p xs) = xs.any p := by
  rcases idxV_cases p xs with ⟨h, h2⟩ | ⟨k, x, h, h2, h3, -⟩
  · rw [h]
    have : xs.any p = false := by rw [List.any_eq_false]; intro x hx; simp [h2 x hx]
    rw [this]; rfl
  · rw [h]
    have : xs.any p = true := by rw [List.any_eq_true]; exact ⟨x, List.mem_of_getElem? h2, h3⟩
    rw [this]; simp
theorem wdContainsFunc_any (A : Option Addr) (n c : Nat) (xs : List Int) (w : World) (hn : xs.length = n) (hA : Rd w A (cells1 xs)) (h20 : n ≤ 1048577) :
    Calls Tryz.prog 31 #[.slice A n c, .func (.func 68) #[] #[]] w (RetS (.bool (!xs.all wdB)) w) := by
  have HV := Lib.hid (show decide (0 ≤ idxV (fun x => !wdB x) xs) = !xs.all wdB by rw [idxV_any, List.not_all_eq_any_not])
  go_enter Tryz.func31, Tryz.ntmps31
  go_wp2_with fail
  refine (wdIndexFunc_any A n c xs _ hn hA h20).mono ?_
  rintro e w1 ⟨rfl, rfl⟩
  go_wp2
  go_ret
  exact ⟨ret_bool HV.out, rfl⟩

set_option maxHeartbeats 1000000 in
theorem areWidths_any (A : Option Addr) (n c : Nat) (ws : List Int) (w : World) (hn : ws.length = n) (hA : Rd w A (cells1 ws)) (h20 : n ≤ 1048577) :
    Calls Tryz.prog 57 #[.slice A n c] w (RetS (.bool (rowB ws)) w) := by
  by_cases h12 : n ≤ 12
  · have hd1 : decide ((n : Int) ≤ 12) = true := by simp; omega
    by_cases hall : ∀ v ∈ ws, wdB v = true
    · have hb : ws.all wdB = true := by rw [List.all_eq_true]; exact hall
      have C1 := Lib.hid (fun w h => restOf_wd A n c ws w hn h (by omega) hall)
      have C2 := Lib.hid (fun w h => wdContainsFunc_any A n c ws w hn h h20)
      rw [hb] at C2
      have hE := endV_bd hall (by omega)
      have HB := Lib.hid (show rowB ws = decide (endV ws ≤ 200) by simp [rowB, hb]; omega)
      obtain ⟨E, hEE⟩ : ∃ E, E = endV ws := ⟨_, rfl⟩
      rw [← hEE] at C1 hE HB
      rw [HB.out]
      have HA := Lib.hid hA
      clear hb hall hEE HB hn hA
      by_cases h2 : E ≤ 200
      · rw [show decide (E ≤ 200) = true by simpa using h2]
        go_enter Tryz.func57, Tryz.ntmps57
        go_wp2_with fail
        refine (C1.out _ HA.out).mono ?_
        rintro e w1 ⟨rfl, rfl⟩
        go_wp2_with fail
        refine (C2.out _ HA.out).mono ?_
        rintro e w1 ⟨rfl, rfl⟩
        go_wp2
        go_ret
        exact ⟨rfl, rfl⟩
      · rw [show decide (E ≤ 200) = false by simpa using h2]
        go_enter Tryz.func57, Tryz.ntmps57
        go_wp2_with fail
        refine (C1.out _ HA.out).mono ?_
        rintro e w1 ⟨rfl, rfl⟩
        go_wp2
        go_ret
        exact ⟨rfl, rfl⟩
    · have hb : ws.all wdB = false := by
        rw [Bool.eq_false_iff]; intro h; rw [List.all_eq_true] at h; exact hall h
      have C1 := Lib.hid (fun w h => restOf_some A n c ws w hn h (by omega) hall)
      have C2 := Lib.hid (fun w h => wdContainsFunc_any A n c ws w hn h h20)
      rw [hb] at C2
      rw [show rowB ws = false by simp [rowB, hb]]
      have HA := Lib.hid hA
      clear hb hall hn hA
      go_enter Tryz.func57, Tryz.ntmps57
      go_wp2_with fail
      refine (C1.out _ HA.out).mono ?_
      rintro e w1 ⟨r, rfl, -, rfl⟩
      by_cases h2 : 0 ≤ r
      · go_wp2_with fail
        refine (C2.out _ HA.out).mono ?_
        rintro e w1 ⟨rfl, rfl⟩
        go_wp2
        go_ret
        exact ⟨rfl, rfl⟩
      · go_wp2
        go_ret
        exact ⟨rfl, rfl⟩
  · rw [show rowB ws = false by simp [rowB]; intros; omega]
    have hd1 : decide ((n : Int) ≤ 12) = false := by simp; omega
    go_enter Tryz.func57, Tryz.ntmps57
    go_wp2
    go_ret
    exact ⟨rfl, rfl⟩
end Go.Proofs.YtacacibpehnmgaaGreatDoor
