/- Approvals: OverdueIds. -/
import Derived.Test.YtogjcnfhfpgbfaaAppP
import Derived.Test.YtogjcnfhfpgbfaaList
import Derived.Test.YtogjcnfhfpgbfaaAppR
namespace Go.Proofs.Ytogjcnfhfpgbfaa
set_option linter.unusedVariables false
set_option linter.unusedSimpArgs false
open Go.RowKit

def odStep (day most : Int) (x : AR) : List Int := if outB x day = true ∧ most < day - x.sent then [x.id] else []
def odP (xs : List AR) (day most : Int) (k : Nat) : List Int := (xs.take k).flatMap (odStep day most)
theorem odP_step {xs : List AR} {day most : Int} {k : Nat} {x : AR} (h : xs[k]? = some x) : odP xs day most (k + 1) = odP xs day most k ++ odStep day most x := by simp [odP, List.take_add_one, h]
theorem odP_len (xs : List AR) (day most : Int) : ∀ k : Nat, (odP xs day most k).length ≤ k
  | 0 => by simp [odP]
  | k + 1 => by
    have ih := odP_len xs day most k
    cases hx : xs[k]? with
    | none => rw [show odP xs day most (k + 1) = odP xs day most k by simp [odP, List.take_add_one, hx]]; omega
    | some x =>
      rw [odP_step hx, List.length_append]
      have : (odStep day most x).length ≤ 1 := by unfold odStep; split <;> simp
      omega
noncomputable def odB (xs : List AR) (day most : Int) : Bool := goodA xs && (inR day 0 4000 && inR most 0 4000)
noncomputable def odV (xs : List AR) (day most : Int) : List Int := if odB xs day most = true then odP xs day most xs.length else []
theorem odV_len (xs : List AR) (day most : Int) : (odV xs day most).length ≤ 1048576 := by
  unfold odV
  split
  · rename_i h
    have hg : goodA xs = true := by simp only [odB, Bool.and_eq_true] at h; exact h.1
    have := odP_len xs day most xs.length
    have := (goodA_yes hg).2
    omega
  · simp
theorem l28Out_any (x : AR) (B : Option Addr) (c : Nat) (D : Option Addr) (d : Nat) (day : Int) (w : World) (hb : x.back = -1 ∨ 0 ≤ x.back) :
    Calls Try.prog 50 #[.agg #[.int .i64 x.id, .string x.client, .int .i64 x.sent, .slice B x.items.length c, .slice D x.kept.length d, .int .i64 x.back], .int .i64 day] w (Ret (.bool (outB x day)) w) := by
  by_cases h : x.sent ≤ day
  · have f1 : decide (x.sent ≤ day) = true := by simpa using h
    by_cases h2 : x.back = -1
    · have f2 : (x.back == -1) = true := by simp [h2]
      have HV := Lib.hid (show outB x day = true by simp [outB, h, h2, inR])
      go_enter Try.func50, Try.ntmps50
      go_wp2
      go_ret
      exact ⟨ret_bool HV.out.symm, (Below.refl _ _).alloc (Nat.le_refl _) _⟩
    · have f2 : (x.back == -1) = false := by simp [h2]
      have HV := Lib.hid (show decide (day < x.back) = outB x day by
        have e0 : inR x.back 0 day = !decide (day < x.back) := by
          cases hq : inR x.back 0 day with
          | true => obtain ⟨-, h3⟩ := inR_true.1 hq; simp; omega
          | false =>
            have : ¬ (0 ≤ x.back ∧ x.back ≤ day) := fun h4 => by rw [inR_true.2 h4] at hq; cases hq
            simp; omega
        rw [outB, f1, e0]; simp)
      go_enter Try.func50, Try.ntmps50
      go_wp2
      go_ret
      exact ⟨ret_bool HV.out, (Below.refl _ _).alloc (Nat.le_refl _) _⟩
  · have f1 : decide (x.sent ≤ day) = false := by simpa using h
    have HV := Lib.hid (show outB x day = false by simp [outB, h])
    go_enter Try.func50, Try.ntmps50
    go_wp2
    go_ret
    exact ⟨ret_bool HV.out.symm, (Below.refl _ _).alloc (Nat.le_refl _) _⟩



end Go.Proofs.Ytogjcnfhfpgbfaa
