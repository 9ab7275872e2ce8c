/-
  No cell of these rows narrows 'for every input' (looked for: loops, veiled, ifaces, maps, wideKeys, modest, calm, conditions, laid).
  DERIVED. THE GIVEN ROWS OF THIS SEAT. 11 by the template 'for every input the law returns true; each argument reads behind the call as it read before'; 0 by the template 'total and deterministic' (their statements: YtkaljkgkllefcaaTotals.lean).
  GIVEN WITH THE SEED: the statements are not yours to turn. If you find one false, say at which input.
  Laid BY PROGRAM, IN A SANDBOX (cutbox-rows.mjs): the forced cells as the released guide's own fill.sh prints them over the translation 523232476f104550… (all of the seat's roots in one cut). By AI agents, Wed Nov 11 2026. No macro, syntax, notation, axiom, sorry.
-/
import Derived.Test.YtkaljkgkllefcaaChecked
import GoSem.Claim
import GoSem.ClaimJoined
import GoSem.ClaimMapViews
import Derived.JoinedTies
import Derived.KernelRfl
namespace Go.Proofs.Ytkaljkgkllefcaa
/- THE CELL 'sum', in the pinned program and in every row, IS THE sha256 OF THE DUMP (.gsa) THAT YtkaljkgkllefcaaProg.lean LOADS. Nothing in Lean hashes anything: it is a label: what it is worth is what the hold of that sum in a sandbox is worth. -/
noncomputable def Try.pinned : Pinned := { name := "ytkaljkgkllefcaa", sum := "523232476f104550fcedcf6416a3bb263152b2a2d3b5c71709b3c2dae532d76e", checked := Try.checked }
namespace Rows
def none {H : Type} : Left H := { results := [], args := [] }

/-- 'laws.FnExactAreInsured': WHATEVER THE INPUT: true; the input reads as it did. -/
def fnExactAreInsuredSpec : ChangeSpec := { name := "fnExactAreInsured", fn := fun _ => fun
  | [d] => { results := [.lit (.bool true)], args := [d] }
  | _ => none }
def fnExactAreInsuredRow : OpenClaim := { program := "ytkaljkgkllefcaa", sum := "523232476f104550fcedcf6416a3bb263152b2a2d3b5c71709b3c2dae532d76e", func := "loop.example/g01062/laws.FnExactAreInsured", spec := "fnExactAreInsured", apart := false }
def FnExactAreInsuredSaid : Prop := fnExactAreInsuredRow.holds Try.pinned (OpenSpec.ofChange fnExactAreInsuredSpec)

/-- ITS FALSE NEIGHBOUR: 'it returns false'. Refute it at one input. -/
def fnExactAreInsuredWrong : ChangeSpec := { name := "fnExactAreInsured", fn := fun _ => fun
  | [d] => { results := [.lit (.bool false)], args := [d] }
  | _ => none }
def FnExactAreInsuredWrongFalsely : Prop := fnExactAreInsuredRow.holds Try.pinned (OpenSpec.ofChange fnExactAreInsuredWrong)

/-- 'laws.FnExactCostOfAll': WHATEVER THE INPUT: true; the input reads as it did. -/
def fnExactCostOfAllSpec : ChangeSpec := { name := "fnExactCostOfAll", fn := fun _ => fun
  | [d] => { results := [.lit (.bool true)], args := [d] }
  | _ => none }
def fnExactCostOfAllRow : OpenClaim := { program := "ytkaljkgkllefcaa", sum := "523232476f104550fcedcf6416a3bb263152b2a2d3b5c71709b3c2dae532d76e", func := "loop.example/g01062/laws.FnExactCostOfAll", spec := "fnExactCostOfAll", apart := false }
def FnExactCostOfAllSaid : Prop := fnExactCostOfAllRow.holds Try.pinned (OpenSpec.ofChange fnExactCostOfAllSpec)

/-- ITS FALSE NEIGHBOUR: 'it returns false'. Refute it at one input. -/
def fnExactCostOfAllWrong : ChangeSpec := { name := "fnExactCostOfAll", fn := fun _ => fun
  | [d] => { results := [.lit (.bool false)], args := [d] }
  | _ => none }
def FnExactCostOfAllWrongFalsely : Prop := fnExactCostOfAllRow.holds Try.pinned (OpenSpec.ofChange fnExactCostOfAllWrong)

/-- 'laws.FnExactCoverOn': WHATEVER THE INPUT: true; the input reads as it did. -/
def fnExactCoverOnSpec : ChangeSpec := { name := "fnExactCoverOn", fn := fun _ => fun
  | [d1, d2, d3] => { results := [.lit (.bool true)], args := [d1, d2, d3] }
  | _ => none }
def fnExactCoverOnRow : OpenClaim := { program := "ytkaljkgkllefcaa", sum := "523232476f104550fcedcf6416a3bb263152b2a2d3b5c71709b3c2dae532d76e", func := "loop.example/g01062/laws.FnExactCoverOn", spec := "fnExactCoverOn", apart := false }
def FnExactCoverOnSaid : Prop := fnExactCoverOnRow.holds Try.pinned (OpenSpec.ofChange fnExactCoverOnSpec)

/-- ITS FALSE NEIGHBOUR: 'it returns false'. Refute it at one input. -/
def fnExactCoverOnWrong : ChangeSpec := { name := "fnExactCoverOn", fn := fun _ => fun
  | [d1, d2, d3] => { results := [.lit (.bool false)], args := [d1, d2, d3] }
  | _ => none }
def FnExactCoverOnWrongFalsely : Prop := fnExactCoverOnRow.holds Try.pinned (OpenSpec.ofChange fnExactCoverOnWrong)

/-- 'laws.FnExactPaidFor': WHATEVER THE INPUT: true; the input reads as it did. -/
def fnExactPaidForSpec : ChangeSpec := { name := "fnExactPaidFor", fn := fun _ => fun
  | [d1, d2, d3, d4] => { results := [.lit (.bool true)], args := [d1, d2, d3, d4] }
  | _ => none }
def fnExactPaidForRow : OpenClaim := { program := "ytkaljkgkllefcaa", sum := "523232476f104550fcedcf6416a3bb263152b2a2d3b5c71709b3c2dae532d76e", func := "loop.example/g01062/laws.FnExactPaidFor", spec := "fnExactPaidFor", apart := false }
def FnExactPaidForSaid : Prop := fnExactPaidForRow.holds Try.pinned (OpenSpec.ofChange fnExactPaidForSpec)

/-- ITS FALSE NEIGHBOUR: 'it returns false'. Refute it at one input. -/
def fnExactPaidForWrong : ChangeSpec := { name := "fnExactPaidFor", fn := fun _ => fun
  | [d1, d2, d3, d4] => { results := [.lit (.bool false)], args := [d1, d2, d3, d4] }
  | _ => none }
def FnExactPaidForWrongFalsely : Prop := fnExactPaidForRow.holds Try.pinned (OpenSpec.ofChange fnExactPaidForWrong)

/-- 'laws.FnExactUncoveredDays': WHATEVER THE INPUT: true; the input reads as it did. -/
def fnExactUncoveredDaysSpec : ChangeSpec := { name := "fnExactUncoveredDays", fn := fun _ => fun
  | [d1, d2, d3, d4] => { results := [.lit (.bool true)], args := [d1, d2, d3, d4] }
  | _ => none }
def fnExactUncoveredDaysRow : OpenClaim := { program := "ytkaljkgkllefcaa", sum := "523232476f104550fcedcf6416a3bb263152b2a2d3b5c71709b3c2dae532d76e", func := "loop.example/g01062/laws.FnExactUncoveredDays", spec := "fnExactUncoveredDays", apart := false }
def FnExactUncoveredDaysSaid : Prop := fnExactUncoveredDaysRow.holds Try.pinned (OpenSpec.ofChange fnExactUncoveredDaysSpec)

/-- ITS FALSE NEIGHBOUR: 'it returns false'. Refute it at one input. -/
def fnExactUncoveredDaysWrong : ChangeSpec := { name := "fnExactUncoveredDays", fn := fun _ => fun
  | [d1, d2, d3, d4] => { results := [.lit (.bool false)], args := [d1, d2, d3, d4] }
  | _ => none }
def FnExactUncoveredDaysWrongFalsely : Prop := fnExactUncoveredDaysRow.holds Try.pinned (OpenSpec.ofChange fnExactUncoveredDaysWrong)

/-- 'laws.FnExactGreatestCover': WHATEVER THE INPUT: true; the input reads as it did. -/
def fnExactGreatestCoverSpec : ChangeSpec := { name := "fnExactGreatestCover", fn := fun _ => fun
  | [d1, d2] => { results := [.lit (.bool true)], args := [d1, d2] }
  | _ => none }
def fnExactGreatestCoverRow : OpenClaim := { program := "ytkaljkgkllefcaa", sum := "523232476f104550fcedcf6416a3bb263152b2a2d3b5c71709b3c2dae532d76e", func := "loop.example/g01062/laws.FnExactGreatestCover", spec := "fnExactGreatestCover", apart := false }
def FnExactGreatestCoverSaid : Prop := fnExactGreatestCoverRow.holds Try.pinned (OpenSpec.ofChange fnExactGreatestCoverSpec)

/-- ITS FALSE NEIGHBOUR: 'it returns false'. Refute it at one input. -/
def fnExactGreatestCoverWrong : ChangeSpec := { name := "fnExactGreatestCover", fn := fun _ => fun
  | [d1, d2] => { results := [.lit (.bool false)], args := [d1, d2] }
  | _ => none }
def FnExactGreatestCoverWrongFalsely : Prop := fnExactGreatestCoverRow.holds Try.pinned (OpenSpec.ofChange fnExactGreatestCoverWrong)

/-- 'laws.FnExactFirstGap': WHATEVER THE INPUT: true; the input reads as it did. -/
def fnExactFirstGapSpec : ChangeSpec := { name := "fnExactFirstGap", fn := fun _ => fun
  | [d1, d2] => { results := [.lit (.bool true)], args := [d1, d2] }
  | _ => none }
def fnExactFirstGapRow : OpenClaim := { program := "ytkaljkgkllefcaa", sum := "523232476f104550fcedcf6416a3bb263152b2a2d3b5c71709b3c2dae532d76e", func := "loop.example/g01062/laws.FnExactFirstGap", spec := "fnExactFirstGap", unfollowed := true, recurses := true, apart := false }
def FnExactFirstGapSaid : Prop := fnExactFirstGapRow.holds Try.pinned (OpenSpec.ofChange fnExactFirstGapSpec)

/-- ITS FALSE NEIGHBOUR: 'it returns false'. Refute it at one input. -/
def fnExactFirstGapWrong : ChangeSpec := { name := "fnExactFirstGap", fn := fun _ => fun
  | [d1, d2] => { results := [.lit (.bool false)], args := [d1, d2] }
  | _ => none }
def FnExactFirstGapWrongFalsely : Prop := fnExactFirstGapRow.holds Try.pinned (OpenSpec.ofChange fnExactFirstGapWrong)

/-- 'laws.FnExactPartsPaid': WHATEVER THE INPUT: true; the input reads as it did. -/
def fnExactPartsPaidSpec : ChangeSpec := { name := "fnExactPartsPaid", fn := fun _ => fun
  | [d1, d2, d3, d4] => { results := [.lit (.bool true)], args := [d1, d2, d3, d4] }
  | _ => none }
def fnExactPartsPaidRow : OpenClaim := { program := "ytkaljkgkllefcaa", sum := "523232476f104550fcedcf6416a3bb263152b2a2d3b5c71709b3c2dae532d76e", func := "loop.example/g01062/laws.FnExactPartsPaid", spec := "fnExactPartsPaid", apart := false }
def FnExactPartsPaidSaid : Prop := fnExactPartsPaidRow.holds Try.pinned (OpenSpec.ofChange fnExactPartsPaidSpec)

/-- ITS FALSE NEIGHBOUR: 'it returns false'. Refute it at one input. -/
def fnExactPartsPaidWrong : ChangeSpec := { name := "fnExactPartsPaid", fn := fun _ => fun
  | [d1, d2, d3, d4] => { results := [.lit (.bool false)], args := [d1, d2, d3, d4] }
  | _ => none }
def FnExactPartsPaidWrongFalsely : Prop := fnExactPartsPaidRow.holds Try.pinned (OpenSpec.ofChange fnExactPartsPaidWrong)

/-- 'laws.FnExactUnderInsured': WHATEVER THE INPUT: true; the input reads as it did. -/
def fnExactUnderInsuredSpec : ChangeSpec := { name := "fnExactUnderInsured", fn := fun _ => fun
  | [d1, d2, d3, d4] => { results := [.lit (.bool true)], args := [d1, d2, d3, d4] }
  | _ => none }
def fnExactUnderInsuredRow : OpenClaim := { program := "ytkaljkgkllefcaa", sum := "523232476f104550fcedcf6416a3bb263152b2a2d3b5c71709b3c2dae532d76e", func := "loop.example/g01062/laws.FnExactUnderInsured", spec := "fnExactUnderInsured", apart := false }
def FnExactUnderInsuredSaid : Prop := fnExactUnderInsuredRow.holds Try.pinned (OpenSpec.ofChange fnExactUnderInsuredSpec)

/-- ITS FALSE NEIGHBOUR: 'it returns false'. Refute it at one input. -/
def fnExactUnderInsuredWrong : ChangeSpec := { name := "fnExactUnderInsured", fn := fun _ => fun
  | [d1, d2, d3, d4] => { results := [.lit (.bool false)], args := [d1, d2, d3, d4] }
  | _ => none }
def FnExactUnderInsuredWrongFalsely : Prop := fnExactUnderInsuredRow.holds Try.pinned (OpenSpec.ofChange fnExactUnderInsuredWrong)

/-- 'laws.FnExactAddInsurance': WHATEVER THE INPUT: true; the input reads as it did. -/
def fnExactAddInsuranceSpec : ChangeSpec := { name := "fnExactAddInsurance", fn := fun _ => fun
  | [d1, d2] => { results := [.lit (.bool true)], args := [d1, d2] }
  | _ => none }
def fnExactAddInsuranceRow : OpenClaim := { program := "ytkaljkgkllefcaa", sum := "523232476f104550fcedcf6416a3bb263152b2a2d3b5c71709b3c2dae532d76e", func := "loop.example/g01062/laws.FnExactAddInsurance", spec := "fnExactAddInsurance", inPlace := ["slices.overlaps[loop.example/g01062/impl.Insured]"], unfollowed := true, recurses := true, apart := false }
def FnExactAddInsuranceSaid : Prop := fnExactAddInsuranceRow.holds Try.pinned (OpenSpec.ofChange fnExactAddInsuranceSpec)

/-- ITS FALSE NEIGHBOUR: 'it returns false'. Refute it at one input. -/
def fnExactAddInsuranceWrong : ChangeSpec := { name := "fnExactAddInsurance", fn := fun _ => fun
  | [d1, d2] => { results := [.lit (.bool false)], args := [d1, d2] }
  | _ => none }
def FnExactAddInsuranceWrongFalsely : Prop := fnExactAddInsuranceRow.holds Try.pinned (OpenSpec.ofChange fnExactAddInsuranceWrong)

/-- 'laws.FnInsured': WHATEVER THE INPUT: true; the input reads as it did. -/
def fnInsuredSpec : ChangeSpec := { name := "fnInsured", fn := fun _ => fun
  | [d] => { results := [.lit (.bool true)], args := [d] }
  | _ => none }
def fnInsuredRow : OpenClaim := { program := "ytkaljkgkllefcaa", sum := "523232476f104550fcedcf6416a3bb263152b2a2d3b5c71709b3c2dae532d76e", func := "loop.example/g01062/laws.FnInsured", spec := "fnInsured", inPlace := ["slices.overlaps[loop.example/g01062/impl.Insured]"], unfollowed := true, recurses := true, apart := false }
def FnInsuredSaid : Prop := fnInsuredRow.holds Try.pinned (OpenSpec.ofChange fnInsuredSpec)

/-- ITS FALSE NEIGHBOUR: 'it returns false'. Refute it at one input. -/
def fnInsuredWrong : ChangeSpec := { name := "fnInsured", fn := fun _ => fun
  | [d] => { results := [.lit (.bool false)], args := [d] }
  | _ => none }
def FnInsuredWrongFalsely : Prop := fnInsuredRow.holds Try.pinned (OpenSpec.ofChange fnInsuredWrong)

/- THE SECOND FORM. 'bulk': how many values and letters a reading holds, each counted each time it is reached (what is shared counts as often as it is met; a slice's spare places count too). A statement '..UptoSaid' is the law's where the arguments, and the package variables that the reading takes, are together of bulk at most 1048576: NARROWER than '..Said'. Prove '..Said' where nothing that the law and all that it calls make is longer than what came in: it says more and counts as full. Else prove '..UptoSaid'. A law counts once. -/
mutual
def uptoBulk {H : Type} : DataW H → Nat
  | .lit (.string bytes) => bytes.length + 1
  | .lit _ => 1
  | .nil => 1
  | .ptr d => uptoBulk d + 1
  | .slice elems spare => uptoBulkAll elems + uptoBulkAll spare + 1
  | .agg parts => uptoBulkAll parts + 1
  | .iface _ d => uptoBulk d + 1
  | .map entries => uptoBulkEntries entries + 1
  | .held _ => 1
def uptoBulkAll {H : Type} : List (DataW H) → Nat
  | [] => 0
  | d :: r => uptoBulk d + uptoBulkAll r
def uptoBulkEntries {H : Type} : List (Lit × DataW H) → Nat
  | [] => 0
  | x :: r => uptoBulkEntry x + uptoBulkEntries r
def uptoBulkEntry {H : Type} : Lit × DataW H → Nat
  | (.string bytes, d) => bytes.length + uptoBulk d + 1
  | (_, d) => uptoBulk d + 1
 end
def uptoSmall : (H : Type) → List (DataW H) → Bool := fun _ ds => decide (uptoBulkAll ds ≤ 1048576)
def OpenSpec.upto (s : _root_.Go.ChangeSpec) : _root_.Go.OpenSpec := { _root_.Go.OpenSpec.ofChange s with cond := some uptoSmall }

/-- 'laws.FnExactAreInsured', WHERE WHAT IT READS IS OF BULK AT MOST 1048576: true; the input reads as it did. -/
def fnExactAreInsuredUptoRow : OpenClaim := { program := "ytkaljkgkllefcaa", sum := "523232476f104550fcedcf6416a3bb263152b2a2d3b5c71709b3c2dae532d76e", func := "loop.example/g01062/laws.FnExactAreInsured", spec := "fnExactAreInsured", apart := false, narrowed := true }
def FnExactAreInsuredUptoSaid : Prop := fnExactAreInsuredUptoRow.holds Try.pinned (OpenSpec.upto fnExactAreInsuredSpec)

/-- 'laws.FnExactCostOfAll', WHERE WHAT IT READS IS OF BULK AT MOST 1048576: true; the input reads as it did. -/
def fnExactCostOfAllUptoRow : OpenClaim := { program := "ytkaljkgkllefcaa", sum := "523232476f104550fcedcf6416a3bb263152b2a2d3b5c71709b3c2dae532d76e", func := "loop.example/g01062/laws.FnExactCostOfAll", spec := "fnExactCostOfAll", apart := false, narrowed := true }
def FnExactCostOfAllUptoSaid : Prop := fnExactCostOfAllUptoRow.holds Try.pinned (OpenSpec.upto fnExactCostOfAllSpec)

/-- 'laws.FnExactCoverOn', WHERE WHAT IT READS IS OF BULK AT MOST 1048576: true; the input reads as it did. -/
def fnExactCoverOnUptoRow : OpenClaim := { program := "ytkaljkgkllefcaa", sum := "523232476f104550fcedcf6416a3bb263152b2a2d3b5c71709b3c2dae532d76e", func := "loop.example/g01062/laws.FnExactCoverOn", spec := "fnExactCoverOn", apart := false, narrowed := true }
def FnExactCoverOnUptoSaid : Prop := fnExactCoverOnUptoRow.holds Try.pinned (OpenSpec.upto fnExactCoverOnSpec)

/-- 'laws.FnExactPaidFor', WHERE WHAT IT READS IS OF BULK AT MOST 1048576: true; the input reads as it did. -/
def fnExactPaidForUptoRow : OpenClaim := { program := "ytkaljkgkllefcaa", sum := "523232476f104550fcedcf6416a3bb263152b2a2d3b5c71709b3c2dae532d76e", func := "loop.example/g01062/laws.FnExactPaidFor", spec := "fnExactPaidFor", apart := false, narrowed := true }
def FnExactPaidForUptoSaid : Prop := fnExactPaidForUptoRow.holds Try.pinned (OpenSpec.upto fnExactPaidForSpec)

/-- 'laws.FnExactUncoveredDays', WHERE WHAT IT READS IS OF BULK AT MOST 1048576: true; the input reads as it did. -/
def fnExactUncoveredDaysUptoRow : OpenClaim := { program := "ytkaljkgkllefcaa", sum := "523232476f104550fcedcf6416a3bb263152b2a2d3b5c71709b3c2dae532d76e", func := "loop.example/g01062/laws.FnExactUncoveredDays", spec := "fnExactUncoveredDays", apart := false, narrowed := true }
def FnExactUncoveredDaysUptoSaid : Prop := fnExactUncoveredDaysUptoRow.holds Try.pinned (OpenSpec.upto fnExactUncoveredDaysSpec)

/-- 'laws.FnExactGreatestCover', WHERE WHAT IT READS IS OF BULK AT MOST 1048576: true; the input reads as it did. -/
def fnExactGreatestCoverUptoRow : OpenClaim := { program := "ytkaljkgkllefcaa", sum := "523232476f104550fcedcf6416a3bb263152b2a2d3b5c71709b3c2dae532d76e", func := "loop.example/g01062/laws.FnExactGreatestCover", spec := "fnExactGreatestCover", apart := false, narrowed := true }
def FnExactGreatestCoverUptoSaid : Prop := fnExactGreatestCoverUptoRow.holds Try.pinned (OpenSpec.upto fnExactGreatestCoverSpec)

/-- 'laws.FnExactFirstGap', WHERE WHAT IT READS IS OF BULK AT MOST 1048576: true; the input reads as it did. -/
def fnExactFirstGapUptoRow : OpenClaim := { program := "ytkaljkgkllefcaa", sum := "523232476f104550fcedcf6416a3bb263152b2a2d3b5c71709b3c2dae532d76e", func := "loop.example/g01062/laws.FnExactFirstGap", spec := "fnExactFirstGap", unfollowed := true, recurses := true, apart := false, narrowed := true }
def FnExactFirstGapUptoSaid : Prop := fnExactFirstGapUptoRow.holds Try.pinned (OpenSpec.upto fnExactFirstGapSpec)

/-- 'laws.FnExactPartsPaid', WHERE WHAT IT READS IS OF BULK AT MOST 1048576: true; the input reads as it did. -/
def fnExactPartsPaidUptoRow : OpenClaim := { program := "ytkaljkgkllefcaa", sum := "523232476f104550fcedcf6416a3bb263152b2a2d3b5c71709b3c2dae532d76e", func := "loop.example/g01062/laws.FnExactPartsPaid", spec := "fnExactPartsPaid", apart := false, narrowed := true }
def FnExactPartsPaidUptoSaid : Prop := fnExactPartsPaidUptoRow.holds Try.pinned (OpenSpec.upto fnExactPartsPaidSpec)

/-- 'laws.FnExactUnderInsured', WHERE WHAT IT READS IS OF BULK AT MOST 1048576: true; the input reads as it did. -/
def fnExactUnderInsuredUptoRow : OpenClaim := { program := "ytkaljkgkllefcaa", sum := "523232476f104550fcedcf6416a3bb263152b2a2d3b5c71709b3c2dae532d76e", func := "loop.example/g01062/laws.FnExactUnderInsured", spec := "fnExactUnderInsured", apart := false, narrowed := true }
def FnExactUnderInsuredUptoSaid : Prop := fnExactUnderInsuredUptoRow.holds Try.pinned (OpenSpec.upto fnExactUnderInsuredSpec)

/-- 'laws.FnExactAddInsurance', WHERE WHAT IT READS IS OF BULK AT MOST 1048576: true; the input reads as it did. -/
def fnExactAddInsuranceUptoRow : OpenClaim := { program := "ytkaljkgkllefcaa", sum := "523232476f104550fcedcf6416a3bb263152b2a2d3b5c71709b3c2dae532d76e", func := "loop.example/g01062/laws.FnExactAddInsurance", spec := "fnExactAddInsurance", inPlace := ["slices.overlaps[loop.example/g01062/impl.Insured]"], unfollowed := true, recurses := true, apart := false, narrowed := true }
def FnExactAddInsuranceUptoSaid : Prop := fnExactAddInsuranceUptoRow.holds Try.pinned (OpenSpec.upto fnExactAddInsuranceSpec)

/-- 'laws.FnInsured', WHERE WHAT IT READS IS OF BULK AT MOST 1048576: true; the input reads as it did. -/
def fnInsuredUptoRow : OpenClaim := { program := "ytkaljkgkllefcaa", sum := "523232476f104550fcedcf6416a3bb263152b2a2d3b5c71709b3c2dae532d76e", func := "loop.example/g01062/laws.FnInsured", spec := "fnInsured", inPlace := ["slices.overlaps[loop.example/g01062/impl.Insured]"], unfollowed := true, recurses := true, apart := false, narrowed := true }
def FnInsuredUptoSaid : Prop := fnInsuredUptoRow.holds Try.pinned (OpenSpec.upto fnInsuredSpec)

end Rows
end Go.Proofs.Ytkaljkgkllefcaa
