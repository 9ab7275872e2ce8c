/- Approvals: KeepShare. -/
import Derived.Test.YtogjcnfhfpgbfaaAppQ
namespace Go.Proofs.Ytogjcnfhfpgbfaa
set_option linter.unusedVariables false
set_option linter.unusedSimpArgs false
open Go.RowKit

def ksStep (cl : ByteArray) (p : Nat × Nat) (x : AR) : Nat × Nat := if (x.client.toList == cl.toList) = true ∧ x.back ≠ -1 then (p.1 + x.kept.length, p.2 + x.items.length) else p
def ksP (xs : List AR) (cl : ByteArray) (k : Nat) : Nat × Nat := (xs.take k).foldl (ksStep cl) (0, 0)
theorem ksP_step {xs : List AR} {cl : ByteArray} {k : Nat} {x : AR} (h : xs[k]? = some x) : ksP xs cl (k + 1) = ksStep cl (ksP xs cl k) x := by simp [ksP, List.take_add_one, h]
theorem ksP_bd {xs : List AR} {cl : ByteArray} (hw : ∀ x ∈ xs, smA x) : ∀ k : Nat, (ksP xs cl k).1 ≤ 1048576 * k ∧ (ksP xs cl k).2 ≤ 1048576 * k
  | 0 => by simp [ksP]
  | k + 1 => by
    have ih := ksP_bd (cl := cl) hw k
    cases hx : xs[k]? with
    | none =>
      have e : ksP xs cl (k + 1) = ksP xs cl k := by simp [ksP, List.take_add_one, hx]
      rw [e]; omega
    | some x =>
      obtain ⟨-, h1, h2⟩ := hw x (List.mem_of_getElem? hx)
      rw [ksP_step hx, ksStep]
      split
      · refine ⟨?_, ?_⟩
        · show (ksP xs cl k).1 + x.kept.length ≤ 1048576 * (k + 1); omega
        · show (ksP xs cl k).2 + x.items.length ≤ 1048576 * (k + 1); omega
      · omega
noncomputable def ksB (xs : List AR) (cl : ByteArray) : Bool := goodA xs && (wordB cl && decide (0 < (ksP xs cl xs.length).2))
noncomputable def ksN (xs : List AR) (cl : ByteArray) : Int := if ksB xs cl = true then (((ksP xs cl xs.length).1 / Nat.gcd (ksP xs cl xs.length).1 (ksP xs cl xs.length).2 : Nat) : Int) else 0
noncomputable def ksD (xs : List AR) (cl : ByteArray) : Int := if ksB xs cl = true then (((ksP xs cl xs.length).2 / Nat.gcd (ksP xs cl xs.length).1 (ksP xs cl xs.length).2 : Nat) : Int) else 0
def RetIIB (a b : Int) (q : Bool) (W : World) : Ending → World → Prop := fun e w' => e = .returned (.tuple #[.int .i64 a, .int .i64 b, .bool q]) ∧ Below W.heap.size W w'



end Go.Proofs.Ytogjcnfhfpgbfaa
