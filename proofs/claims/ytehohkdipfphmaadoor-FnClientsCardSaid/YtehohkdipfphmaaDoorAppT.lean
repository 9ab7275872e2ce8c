/- Approvals: marks of texts. -/
import Derived.Test.YtehohkdipfphmaaDoorAppO
import Derived.Test.YtehohkdipfphmaaDoorAppN
namespace Go.Proofs.YtehohkdipfphmaaDoor
set_option linter.unusedVariables false
set_option linter.unusedSimpArgs false
open Go.RowKit

/-- The digits of a number, ahead of a text. -/
def digsV : Nat → Nat → List UInt8 → List UInt8
  | 0, _, s => s
  | f + 1, k, s => if k = 0 then s else digsV f (k / 10) ((48 + k % 10).toUInt8 :: s)
/-- The text of a mark. -/
def tmV (k : Int) : ByteArray := if k ≤ 0 then ⟨#[109, 48]⟩ else ⟨(109 :: digsV k.toNat k.toNat []).toArray⟩
theorem digsV_fuel : ∀ (k f g : Nat) (s : List UInt8), k ≤ f → k ≤ g → digsV f k s = digsV g k s := by
  intro k
  induction k using Nat.strongRecOn with
  | _ k ih =>
    intro f g s hf hg
    rcases Nat.eq_zero_or_pos k with rfl | hk
    · cases f <;> cases g <;> simp [digsV]
    · obtain ⟨f, rfl⟩ : ∃ f', f = f' + 1 := ⟨f - 1, by omega⟩
      obtain ⟨g, rfl⟩ : ∃ g', g = g' + 1 := ⟨g - 1, by omega⟩
      simp only [digsV]
      rw [if_neg (by omega), if_neg (by omega)]
      have := Nat.div_lt_self hk (show 1 < 10 by omega)
      exact ih _ this _ _ _ (by omega) (by omega)

end Go.Proofs.YtehohkdipfphmaaDoor
