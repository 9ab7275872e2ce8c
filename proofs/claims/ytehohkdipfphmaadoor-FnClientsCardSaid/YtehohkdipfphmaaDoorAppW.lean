/- Words and days. -/
import Derived.Test.YtehohkdipfphmaaDoorApp
import Derived.Test.YtehohkdipfphmaaDoorList
namespace Go.Proofs.YtehohkdipfphmaaDoor
set_option linter.unusedVariables false
set_option linter.unusedSimpArgs false
open Go.RowKit

theorem isItem_any (a : Int) (w : World) : Calls Tryd.prog 67 #[.int .i64 a] w (RetS (.bool (inR a 1 999)) w) := by
  go_enter Tryd.func67, Tryd.ntmps67
  go_wp2_with ((go_at_call 42; refine (inRange_any _ _ _ _).mono ?_; rintro e w' ⟨rfl, rfl⟩))
  go_ret
  exact ⟨rfl, rfl⟩
theorem isDay_any (a : Int) (w : World) : Calls Tryd.prog 41 #[.int .i64 a] w (RetS (.bool (inR a 0 4000)) w) := by
  go_enter Tryd.func41, Tryd.ntmps41
  go_wp2_with ((go_at_call 42; refine (inRange_any _ _ _ _).mono ?_; rintro e w' ⟨rfl, rfl⟩))
  go_ret
  exact ⟨rfl, rfl⟩
theorem l2Day_any (a : Int) (w : World) : Calls Tryd.prog 44 #[.int .i64 a] w (RetS (.bool (inR a 0 4000)) w) := by
  go_enter Tryd.func44, Tryd.ntmps44
  go_wp2_with ((go_at_call 45; refine (l1In_any _ _ _ _).mono ?_; rintro e w' ⟨rfl, rfl⟩))
  go_ret
  exact ⟨rfl, rfl⟩

def azB (c : UInt8) : Bool := decide (97 ≤ (c.toNat : Int) ∧ (c.toNat : Int) ≤ 122)
def wordB (s : ByteArray) : Bool := s.data.toList.all azB && inR (s.size : Int) 1 10
theorem wordB_no {s : ByteArray} {k : Nat} (h : k < s.size) (hc : azB s[k] = false) : wordB s = false := by
  have : s.data.toList.all azB = false := by
    rw [List.all_eq_false]
    exact ⟨s[k], by simp [ByteArray.getElem_eq_getElem_data], by simp [hc]⟩
  simp [wordB, this]
theorem wordB_end {s : ByteArray} (h : ∀ (j : Nat) (hj : j < s.size), azB s[j] = true) : wordB s = inR (s.size : Int) 1 10 := by
  have : s.data.toList.all azB = true := by
    rw [List.all_eq_true]
    intro c hc
    obtain ⟨j, hj, rfl⟩ := List.getElem_of_mem hc
    exact h j (by simpa using hj)
  simp [wordB, this]
theorem wordB_len {s : ByteArray} (h : wordB s = true) : 1 ≤ s.size ∧ s.size ≤ 10 := by
  simp only [wordB, Bool.and_eq_true, inR_true] at h; omega

set_option maxHeartbeats 400000 in
theorem l2Word_any (s : ByteArray) (w : World) (hs : s.size ≤ 1048576) : Calls Tryd.prog 29 #[.string s] w (RetS (.bool (wordB s)) w) := by
  have C := Lib.hid (fun w => l1In_any (s.size : Int) 1 10 w)
  go_enter Tryd.func29, Tryd.ntmps29
  go_wp2_with fail
  go_loopw [2, 3] (fun r i wr => ∃ k : Nat, k ≤ s.size ∧ i = .int .i64 k ∧ r = .bool false ∧ (∀ (j : Nat) (hj : j < s.size), j < k → azB s[j] = true) ∧ w = wr) (fun _ i _ => s.size - (intOf i).toNat)
  case atStart => exact ⟨0, Nat.zero_le _, rfl, rfl, fun j hj h => by omega, rfl⟩
  case round =>
    obtain ⟨k, hk, rfl, rfl, hrel, rfl⟩ := hrel
    have HR := Lib.hid hrel
    clear hrel
    by_cases hlt : k < s.size
    · have H1 := Lib.hid (fun (hc : azB s[k] = false) => wordB_no hlt hc)
      by_cases h1 : (s[k].toNat : Int) < 97
      · have HB := Lib.hid (H1.out (by simp only [azB, decide_eq_false_iff_not]; omega))
        go_wp2
        go_ret
        exact ⟨ret_bool HB.out.symm, rfl⟩
      · by_cases h2 : 122 < (s[k].toNat : Int)
        · have HB := Lib.hid (H1.out (by simp only [azB, decide_eq_false_iff_not]; omega))
          go_wp2
          go_ret
          exact ⟨ret_bool HB.out.symm, rfl⟩
        · have HB := Lib.hid (show azB s[k] = true by simp only [azB, decide_eq_true_eq]; omega)
          go_wp2
          go_roundw
          case rel =>
            refine ⟨k + 1, by omega, by go_num, rfl, fun j hj h => ?_, trivial⟩
            rcases Nat.lt_or_ge j k with h' | h'
            · exact HR.out j hj h'
            · have : j = k := by omega
              subst this; exact HB.out
          case measure => simp [intOf]; omega
    · have HB := Lib.hid (wordB_end (s := s) fun j hj => HR.out j hj (by omega))
      go_wp2_with fail
      refine (C.out _).mono ?_
      rintro e w1 ⟨rfl, rfl⟩
      go_wp2
      go_ret
      exact ⟨ret_bool HB.out.symm, rfl⟩
set_option maxHeartbeats 400000 in
theorem isWord_any (s : ByteArray) (w : World) (hs : s.size ≤ 1048576) : Calls Tryd.prog 26 #[.string s] w (RetS (.bool (wordB s)) w) := by
  have C := Lib.hid (fun w => inRange_any (s.size : Int) 1 10 w)
  go_enter Tryd.func26, Tryd.ntmps26
  go_wp2_with fail
  go_loopw [2, 6, 3] (fun r i _ wr => ∃ k : Nat, k ≤ s.size ∧ i = .int .i64 k ∧ r = .bool false ∧ (∀ (j : Nat) (hj : j < s.size), j < k → azB s[j] = true) ∧ w = wr) (fun _ i _ _ => s.size - (intOf i).toNat)
  case atStart => exact ⟨0, Nat.zero_le _, rfl, rfl, fun j hj h => by omega, rfl⟩
  case round =>
    obtain ⟨k, hk, rfl, rfl, hrel, rfl⟩ := hrel
    have HR := Lib.hid hrel
    clear hrel
    by_cases hlt : k < s.size
    · have H1 := Lib.hid (fun (hc : azB s[k] = false) => wordB_no hlt hc)
      by_cases h1 : (s[k].toNat : Int) < 97
      · have HB := Lib.hid (H1.out (by simp only [azB, decide_eq_false_iff_not]; omega))
        go_wp2
        go_ret
        exact ⟨ret_bool HB.out.symm, rfl⟩
      · by_cases h2 : 122 < (s[k].toNat : Int)
        · have HB := Lib.hid (H1.out (by simp only [azB, decide_eq_false_iff_not]; omega))
          go_wp2
          go_ret
          exact ⟨ret_bool HB.out.symm, rfl⟩
        · have HB := Lib.hid (show azB s[k] = true by simp only [azB, decide_eq_true_eq]; omega)
          go_wp2
          go_roundw
          case rel =>
            refine ⟨k + 1, by omega, by go_num, rfl, fun j hj h => ?_, trivial⟩
            rcases Nat.lt_or_ge j k with h' | h'
            · exact HR.out j hj h'
            · have : j = k := by omega
              subst this; exact HB.out
          case measure => simp [intOf]; omega
    · have HB := Lib.hid (wordB_end (s := s) fun j hj => HR.out j hj (by omega))
      go_wp2_with fail
      refine (C.out _).mono ?_
      rintro e w1 ⟨rfl, rfl⟩
      go_wp2
      go_ret
      exact ⟨ret_bool HB.out.symm, rfl⟩
end Go.Proofs.YtehohkdipfphmaaDoor
