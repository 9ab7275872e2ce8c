/- cmp.Compare and cmp.Or at int. -/
import Derived.Test.YtjnbcippipookaaBase
import Derived.Test.YtjnbcippipookaaRows
namespace Go.Proofs.Ytjnbcippipookaa
set_option linter.unusedVariables false
set_option linter.unusedSimpArgs false
open Go.RowKit

def cmpV (a b : Int) : Int := if a < b then -1 else if b < a then 1 else 0
def orV : List Int → Int
  | [] => 0
  | z :: r => if z = 0 then orV r else z
theorem cmpV_bd (a b : Int) : -1 ≤ cmpV a b ∧ cmpV a b ≤ 1 := by unfold cmpV; split <;> (try split) <;> omega

theorem compareInt_any (a b : Int) (w : World) : Calls Try.prog 37 #[.int .i64 a, .int .i64 b] w (RetS (.int .i64 (cmpV a b)) w) := by
  by_cases h1 : a < b
  · go_enter Try.func37, Try.ntmps37
    go_wp2
    go_ret
    exact ⟨ret_int (by rw [cmpV, if_pos h1]), rfl⟩
  · by_cases h2 : b < a
    · go_enter Try.func37, Try.ntmps37
      go_wp2
      go_ret
      exact ⟨ret_int (by rw [cmpV, if_neg (by omega), if_pos h2]), rfl⟩
    · have HE := Lib.hid (show cmpV a b = 0 by rw [cmpV, if_neg h1, if_neg h2])
      go_enter Try.func37, Try.ntmps37
      go_wp2
      go_ret
      exact ⟨ret_int HE.out.symm, rfl⟩

end Go.Proofs.Ytjnbcippipookaa
