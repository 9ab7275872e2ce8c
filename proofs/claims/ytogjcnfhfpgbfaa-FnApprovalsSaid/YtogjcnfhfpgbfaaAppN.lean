/- Approvals: SlowestClient. -/
import Derived.Test.YtogjcnfhfpgbfaaAppM
namespace Go.Proofs.Ytogjcnfhfpgbfaa
set_option linter.unusedVariables false
set_option linter.unusedSimpArgs false
open Go.RowKit

theorem one_bd {x : AR} (h : oneA x = true) : (0 ≤ x.sent ∧ x.sent ≤ 4000) ∧ (x.back = -1 ∨ (x.sent ≤ x.back ∧ x.back ≤ 4000)) := by
  unfold oneA at h
  simp only [Bool.and_eq_true, g1A, inR_true] at h
  refine ⟨h.1.2.2.1, ?_⟩
  by_cases hb : x.back = -1
  · exact .inl hb
  · right
    have := h.2
    rw [if_neg hb] at this
    simp only [Bool.and_eq_true, g2A, inR_true, decide_eq_true_eq] at this
    omega
def slStep (p : ByteArray × Int) (x : AR) : ByteArray × Int := if x.back ≠ -1 ∧ p.2 < x.back - x.sent then (x.client, x.back - x.sent) else p
def slP (xs : List AR) (k : Nat) : ByteArray × Int := (xs.take k).foldl slStep (⟨#[]⟩, -1)
theorem slP_step {xs : List AR} {k : Nat} {x : AR} (h : xs[k]? = some x) : slP xs (k + 1) = slStep (slP xs k) x := by
  simp [slP, List.take_add_one, h]
theorem slP_yes {xs : List AR} {k : Nat} {x : AR} (h : xs[k]? = some x) (h1 : x.back ≠ -1) (h2 : (slP xs k).2 < x.back - x.sent) : slP xs (k + 1) = (x.client, x.back - x.sent) := by
  rw [slP_step h, slStep, if_pos ⟨h1, h2⟩]
theorem slP_no {xs : List AR} {k : Nat} {x : AR} (h : xs[k]? = some x) (h1 : ¬ (x.back ≠ -1 ∧ (slP xs k).2 < x.back - x.sent)) : slP xs (k + 1) = slP xs k := by
  rw [slP_step h, slStep, if_neg h1]
theorem slP_inv {xs : List AR} (hg : ∀ x ∈ xs, oneA x = true) : ∀ k : Nat, ((slP xs k).2 = -1 ∧ (slP xs k).1 = ⟨#[]⟩ ∨ 0 ≤ (slP xs k).2) ∧ (slP xs k).2 ≤ 4000
  | 0 => by simp [slP]
  | k + 1 => by
    have ih := slP_inv hg k
    cases hx : xs[k]? with
    | none =>
      have e : slP xs (k + 1) = slP xs k := by simp [slP, List.take_add_one, hx]
      rw [e]; exact ih
    | some x =>
      have hb := one_bd (hg x (List.mem_of_getElem? hx))
      by_cases h : x.back ≠ -1 ∧ (slP xs k).2 < x.back - x.sent
      · rw [slP_yes hx h.1 h.2]
        have := h.1
        refine ⟨.inr ?_, ?_⟩ <;> simp only <;> omega
      · rw [slP_no hx h]; exact ih
def slR (p : ByteArray × Int) : Value := .tuple #[.string p.1, .int .i64 (if p.2 < 0 then 0 else p.2), .bool (decide (0 ≤ p.2))]
noncomputable def slV (xs : List AR) : ByteArray × Int := if goodA xs = true then slP xs xs.length else (⟨#[]⟩, -1)
theorem goodA_ones {xs : List AR} (h : goodA xs = true) : ∀ x ∈ xs, oneA x = true := fun x hx => by
  obtain ⟨j, hj⟩ := List.mem_iff_getElem?.1 hx
  exact okAt_one ((goodA_yes h).1 j) hj


noncomputable def slN (xs : List AR) : Int := if (slV xs).2 < 0 then 0 else (slV xs).2
noncomputable def slS (xs : List AR) : ByteArray := (slV xs).1
noncomputable def slB (xs : List AR) : Bool := decide (0 ≤ (slV xs).2)
end Go.Proofs.Ytogjcnfhfpgbfaa
