/- cmp.Compare and cmp.Or at int. -/
import Derived.Test.YtobloedpmjkgpaaBase
import Derived.Test.YtobloedpmjkgpaaRows
namespace Go.Proofs.Ytobloedpmjkgpaa
set_option linter.unusedVariables false
set_option linter.unusedSimpArgs false
open Go.RowKit

def cmpV (a b : Int) : Int := if a < b then -1 else if b < a then 1 else 0
def orV : List Int → Int
  | [] => 0
  | z :: r => if z = 0 then orV r else z
theorem cmpV_bd (a b : Int) : -1 ≤ cmpV a b ∧ cmpV a b ≤ 1 := by unfold cmpV; split <;> (try split) <;> omega

theorem compareInt_any (a b : Int) (w : World) : Calls Try.prog 46 #[.int .i64 a, .int .i64 b] w (RetS (.int .i64 (cmpV a b)) w) := by
  by_cases h1 : a < b
  · go_enter Try.func46, Try.ntmps46
    go_wp2
    go_ret
    exact ⟨ret_int (by rw [cmpV, if_pos h1]), rfl⟩
  · by_cases h2 : b < a
    · go_enter Try.func46, Try.ntmps46
      go_wp2
      go_ret
      exact ⟨ret_int (by rw [cmpV, if_neg (by omega), if_pos h2]), rfl⟩
    · have HE := Lib.hid (show cmpV a b = 0 by rw [cmpV, if_neg h1, if_neg h2])
      go_enter Try.func46, Try.ntmps46
      go_wp2
      go_ret
      exact ⟨ret_int HE.out.symm, rfl⟩

set_option maxHeartbeats 400000 in
theorem orInt_any (A : Option Addr) (n c : Nat) (zs : List Int) (w : World) (hn : zs.length = n) (hA : Rd w A (cells1 zs)) (h20 : n ≤ 1048576) :
    Calls Try.prog 45 #[.slice A n c] w (RetS (.int .i64 (orV zs)) w) := by
  go_enter Try.func45, Try.ntmps45
  go_wp2_with fail
  go_loopw [8, 5, 2] (fun i _ r wr => ∃ k : Nat, k ≤ n ∧ i = .int .i64 k ∧ r = .int .i64 0 ∧ orV zs = orV (zs.drop k) ∧ w = wr) (fun i _ _ _ => n - (intOf i).toNat)
  case atStart => exact ⟨0, Nat.zero_le _, rfl, rfl, rfl, rfl⟩
  case round =>
    obtain ⟨k, hk, rfl, rfl, ho, rfl⟩ := hrel
    have HO := Lib.hid ho
    clear ho
    by_cases hlt : k < n
    · obtain ⟨x, hxk⟩ : ∃ x, zs[k]? = some x := ⟨zs[k], List.getElem?_eq_getElem (by omega)⟩
      obtain ⟨g, o, hAe, hg, c0⟩ := hA.at1 hxk
      subst hAe
      have hd : zs.drop k = x :: zs.drop (k + 1) := by
        have hl : k < zs.length := by omega
        rw [List.drop_eq_getElem_cons hl]
        rw [List.getElem?_eq_getElem hl] at hxk
        injection hxk with hxk
        rw [hxk]
      have HD := Lib.hid (show orV zs = if x = 0 then orV (zs.drop (k + 1)) else x by rw [HO.out, hd]; rfl)
      clear hA hxk hd
      by_cases hz : x = 0
      · have h1 : (x != 0) = false := by simp [hz]
        have HZ := Lib.hid hz
        clear hz
        go_wp2
        go_roundw
        case rel => exact ⟨k + 1, by omega, by go_num, rfl, by rw [HD.out, if_pos HZ.out], trivial⟩
        case measure => simp [intOf]; omega
      · have h1 : (x != 0) = true := by simp [hz]
        go_wp2
        go_ret
        exact ⟨ret_int (by rw [HD.out, if_neg hz]), rfl⟩
    · go_wp2
      go_ret
      exact ⟨ret_int (by rw [HO.out, List.drop_eq_nil_of_le (by omega)]; rfl), rfl⟩
end Go.Proofs.Ytobloedpmjkgpaa
