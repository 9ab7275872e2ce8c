/-
  No cell of these rows narrows 'for every input' (looked for: loops, veiled, ifaces, maps, wideKeys, modest, calm, conditions, laid).
  DERIVED. THE GIVEN ROWS OF THIS SEAT. 11 by the template 'for every input the law returns true; each argument reads behind the call as it read before'; 0 by the template 'total and deterministic' (their statements: YtaobhehjoijpiaaTotals.lean).
  GIVEN WITH THE SEED: the statements are not yours to turn. If you find one false, say at which input.
  Laid BY PROGRAM, IN A SANDBOX (cutbox-rows.mjs): the forced cells as the released guide's own fill.sh prints them over the translation 45da0b9d1440dc71… (all of the seat's roots in one cut). By AI agents, Wed Nov 11 2026. No macro, syntax, notation, axiom, sorry.
-/
import Derived.Test.YtaobhehjoijpiaaChecked
import GoSem.Claim
import GoSem.ClaimJoined
import GoSem.ClaimMapViews
import Derived.JoinedTies
import Derived.KernelRfl
namespace Go.Proofs.Ytaobhehjoijpiaa
/- THE CELL 'sum', in the pinned program and in every row, IS THE sha256 OF THE DUMP (.gsa) THAT YtaobhehjoijpiaaProg.lean LOADS. Nothing in Lean hashes anything: it is a label: what it is worth is what the hold of that sum in a sandbox is worth. -/
noncomputable def Try.pinned : Pinned := { name := "ytaobhehjoijpiaa", sum := "45da0b9d1440dc71004bf7eaba6f8f5aa8a3ff2b9eedfe2dd10475b817b48a2a", checked := Try.checked }
namespace Rows
def none {H : Type} : Left H := { results := [], args := [] }

/-- 'laws.FnExactAreApprovals': WHATEVER THE INPUT: true; the input reads as it did. -/
def fnExactAreApprovalsSpec : ChangeSpec := { name := "fnExactAreApprovals", fn := fun _ => fun
  | [d] => { results := [.lit (.bool true)], args := [d] }
  | _ => none }
def fnExactAreApprovalsRow : OpenClaim := { program := "ytaobhehjoijpiaa", sum := "45da0b9d1440dc71004bf7eaba6f8f5aa8a3ff2b9eedfe2dd10475b817b48a2a", func := "loop.example/g01062/laws.FnExactAreApprovals", spec := "fnExactAreApprovals", apart := false }
def FnExactAreApprovalsSaid : Prop := fnExactAreApprovalsRow.holds Try.pinned (OpenSpec.ofChange fnExactAreApprovalsSpec)

/-- ITS FALSE NEIGHBOUR: 'it returns false'. Refute it at one input. -/
def fnExactAreApprovalsWrong : ChangeSpec := { name := "fnExactAreApprovals", fn := fun _ => fun
  | [d] => { results := [.lit (.bool false)], args := [d] }
  | _ => none }
def FnExactAreApprovalsWrongFalsely : Prop := fnExactAreApprovalsRow.holds Try.pinned (OpenSpec.ofChange fnExactAreApprovalsWrong)

/-- 'laws.FnExactSlowestClient': WHATEVER THE INPUT: true; the input reads as it did. -/
def fnExactSlowestClientSpec : ChangeSpec := { name := "fnExactSlowestClient", fn := fun _ => fun
  | [d] => { results := [.lit (.bool true)], args := [d] }
  | _ => none }
def fnExactSlowestClientRow : OpenClaim := { program := "ytaobhehjoijpiaa", sum := "45da0b9d1440dc71004bf7eaba6f8f5aa8a3ff2b9eedfe2dd10475b817b48a2a", func := "loop.example/g01062/laws.FnExactSlowestClient", spec := "fnExactSlowestClient", apart := false }
def FnExactSlowestClientSaid : Prop := fnExactSlowestClientRow.holds Try.pinned (OpenSpec.ofChange fnExactSlowestClientSpec)

/-- ITS FALSE NEIGHBOUR: 'it returns false'. Refute it at one input. -/
def fnExactSlowestClientWrong : ChangeSpec := { name := "fnExactSlowestClient", fn := fun _ => fun
  | [d] => { results := [.lit (.bool false)], args := [d] }
  | _ => none }
def FnExactSlowestClientWrongFalsely : Prop := fnExactSlowestClientRow.holds Try.pinned (OpenSpec.ofChange fnExactSlowestClientWrong)

/-- 'laws.FnExactOverdueIds': WHATEVER THE INPUT: true; the input reads as it did. -/
def fnExactOverdueIdsSpec : ChangeSpec := { name := "fnExactOverdueIds", fn := fun _ => fun
  | [d1, d2, d3] => { results := [.lit (.bool true)], args := [d1, d2, d3] }
  | _ => none }
def fnExactOverdueIdsRow : OpenClaim := { program := "ytaobhehjoijpiaa", sum := "45da0b9d1440dc71004bf7eaba6f8f5aa8a3ff2b9eedfe2dd10475b817b48a2a", func := "loop.example/g01062/laws.FnExactOverdueIds", spec := "fnExactOverdueIds", apart := false }
def FnExactOverdueIdsSaid : Prop := fnExactOverdueIdsRow.holds Try.pinned (OpenSpec.ofChange fnExactOverdueIdsSpec)

/-- ITS FALSE NEIGHBOUR: 'it returns false'. Refute it at one input. -/
def fnExactOverdueIdsWrong : ChangeSpec := { name := "fnExactOverdueIds", fn := fun _ => fun
  | [d1, d2, d3] => { results := [.lit (.bool false)], args := [d1, d2, d3] }
  | _ => none }
def FnExactOverdueIdsWrongFalsely : Prop := fnExactOverdueIdsRow.holds Try.pinned (OpenSpec.ofChange fnExactOverdueIdsWrong)

/-- 'laws.FnExactSendItems': WHATEVER THE INPUT: true; the input reads as it did. -/
def fnExactSendItemsSpec : ChangeSpec := { name := "fnExactSendItems", fn := fun _ => fun
  | [d1, d2, d3, d4] => { results := [.lit (.bool true)], args := [d1, d2, d3, d4] }
  | _ => none }
def fnExactSendItemsRow : OpenClaim := { program := "ytaobhehjoijpiaa", sum := "45da0b9d1440dc71004bf7eaba6f8f5aa8a3ff2b9eedfe2dd10475b817b48a2a", func := "loop.example/g01062/laws.FnExactSendItems", spec := "fnExactSendItems", apart := false }
def FnExactSendItemsSaid : Prop := fnExactSendItemsRow.holds Try.pinned (OpenSpec.ofChange fnExactSendItemsSpec)

/-- ITS FALSE NEIGHBOUR: 'it returns false'. Refute it at one input. -/
def fnExactSendItemsWrong : ChangeSpec := { name := "fnExactSendItems", fn := fun _ => fun
  | [d1, d2, d3, d4] => { results := [.lit (.bool false)], args := [d1, d2, d3, d4] }
  | _ => none }
def FnExactSendItemsWrongFalsely : Prop := fnExactSendItemsRow.holds Try.pinned (OpenSpec.ofChange fnExactSendItemsWrong)

/-- 'laws.FnExactTakeBack': WHATEVER THE INPUT: true; the input reads as it did. -/
def fnExactTakeBackSpec : ChangeSpec := { name := "fnExactTakeBack", fn := fun _ => fun
  | [d1, d2, d3, d4] => { results := [.lit (.bool true)], args := [d1, d2, d3, d4] }
  | _ => none }
def fnExactTakeBackRow : OpenClaim := { program := "ytaobhehjoijpiaa", sum := "45da0b9d1440dc71004bf7eaba6f8f5aa8a3ff2b9eedfe2dd10475b817b48a2a", func := "loop.example/g01062/laws.FnExactTakeBack", spec := "fnExactTakeBack", unfollowed := true, recurses := true, apart := false }
def FnExactTakeBackSaid : Prop := fnExactTakeBackRow.holds Try.pinned (OpenSpec.ofChange fnExactTakeBackSpec)

/-- ITS FALSE NEIGHBOUR: 'it returns false'. Refute it at one input. -/
def fnExactTakeBackWrong : ChangeSpec := { name := "fnExactTakeBack", fn := fun _ => fun
  | [d1, d2, d3, d4] => { results := [.lit (.bool false)], args := [d1, d2, d3, d4] }
  | _ => none }
def FnExactTakeBackWrongFalsely : Prop := fnExactTakeBackRow.holds Try.pinned (OpenSpec.ofChange fnExactTakeBackWrong)

/-- 'laws.FnExactBoughtBy': WHATEVER THE INPUT: true; the input reads as it did. -/
def fnExactBoughtBySpec : ChangeSpec := { name := "fnExactBoughtBy", fn := fun _ => fun
  | [d1, d2] => { results := [.lit (.bool true)], args := [d1, d2] }
  | _ => none }
def fnExactBoughtByRow : OpenClaim := { program := "ytaobhehjoijpiaa", sum := "45da0b9d1440dc71004bf7eaba6f8f5aa8a3ff2b9eedfe2dd10475b817b48a2a", func := "loop.example/g01062/laws.FnExactBoughtBy", spec := "fnExactBoughtBy", recurses := true, apart := false }
def FnExactBoughtBySaid : Prop := fnExactBoughtByRow.holds Try.pinned (OpenSpec.ofChange fnExactBoughtBySpec)

/-- ITS FALSE NEIGHBOUR: 'it returns false'. Refute it at one input. -/
def fnExactBoughtByWrong : ChangeSpec := { name := "fnExactBoughtBy", fn := fun _ => fun
  | [d1, d2] => { results := [.lit (.bool false)], args := [d1, d2] }
  | _ => none }
def FnExactBoughtByWrongFalsely : Prop := fnExactBoughtByRow.holds Try.pinned (OpenSpec.ofChange fnExactBoughtByWrong)

/-- 'laws.FnExactItemsOut': WHATEVER THE INPUT: true; the input reads as it did. -/
def fnExactItemsOutSpec : ChangeSpec := { name := "fnExactItemsOut", fn := fun _ => fun
  | [d1, d2] => { results := [.lit (.bool true)], args := [d1, d2] }
  | _ => none }
def fnExactItemsOutRow : OpenClaim := { program := "ytaobhehjoijpiaa", sum := "45da0b9d1440dc71004bf7eaba6f8f5aa8a3ff2b9eedfe2dd10475b817b48a2a", func := "loop.example/g01062/laws.FnExactItemsOut", spec := "fnExactItemsOut", recurses := true, apart := false }
def FnExactItemsOutSaid : Prop := fnExactItemsOutRow.holds Try.pinned (OpenSpec.ofChange fnExactItemsOutSpec)

/-- ITS FALSE NEIGHBOUR: 'it returns false'. Refute it at one input. -/
def fnExactItemsOutWrong : ChangeSpec := { name := "fnExactItemsOut", fn := fun _ => fun
  | [d1, d2] => { results := [.lit (.bool false)], args := [d1, d2] }
  | _ => none }
def FnExactItemsOutWrongFalsely : Prop := fnExactItemsOutRow.holds Try.pinned (OpenSpec.ofChange fnExactItemsOutWrong)

/-- 'laws.FnExactUnsoldItems': WHATEVER THE INPUT: true; the input reads as it did. -/
def fnExactUnsoldItemsSpec : ChangeSpec := { name := "fnExactUnsoldItems", fn := fun _ => fun
  | [d] => { results := [.lit (.bool true)], args := [d] }
  | _ => none }
def fnExactUnsoldItemsRow : OpenClaim := { program := "ytaobhehjoijpiaa", sum := "45da0b9d1440dc71004bf7eaba6f8f5aa8a3ff2b9eedfe2dd10475b817b48a2a", func := "loop.example/g01062/laws.FnExactUnsoldItems", spec := "fnExactUnsoldItems", unfollowed := true, recurses := true, apart := false }
def FnExactUnsoldItemsSaid : Prop := fnExactUnsoldItemsRow.holds Try.pinned (OpenSpec.ofChange fnExactUnsoldItemsSpec)

/-- ITS FALSE NEIGHBOUR: 'it returns false'. Refute it at one input. -/
def fnExactUnsoldItemsWrong : ChangeSpec := { name := "fnExactUnsoldItems", fn := fun _ => fun
  | [d] => { results := [.lit (.bool false)], args := [d] }
  | _ => none }
def FnExactUnsoldItemsWrongFalsely : Prop := fnExactUnsoldItemsRow.holds Try.pinned (OpenSpec.ofChange fnExactUnsoldItemsWrong)

/-- 'laws.FnApprovals': WHATEVER THE INPUT: true; the input reads as it did. -/
def fnApprovalsSpec : ChangeSpec := { name := "fnApprovals", fn := fun _ => fun
  | [d] => { results := [.lit (.bool true)], args := [d] }
  | _ => none }
def fnApprovalsRow : OpenClaim := { program := "ytaobhehjoijpiaa", sum := "45da0b9d1440dc71004bf7eaba6f8f5aa8a3ff2b9eedfe2dd10475b817b48a2a", func := "loop.example/g01062/laws.FnApprovals", spec := "fnApprovals", unfollowed := true, recurses := true, apart := false }
def FnApprovalsSaid : Prop := fnApprovalsRow.holds Try.pinned (OpenSpec.ofChange fnApprovalsSpec)

/-- ITS FALSE NEIGHBOUR: 'it returns false'. Refute it at one input. -/
def fnApprovalsWrong : ChangeSpec := { name := "fnApprovals", fn := fun _ => fun
  | [d] => { results := [.lit (.bool false)], args := [d] }
  | _ => none }
def FnApprovalsWrongFalsely : Prop := fnApprovalsRow.holds Try.pinned (OpenSpec.ofChange fnApprovalsWrong)

/-- 'laws.FnExactKeepShare': WHATEVER THE INPUT: true; the input reads as it did. -/
def fnExactKeepShareSpec : ChangeSpec := { name := "fnExactKeepShare", fn := fun _ => fun
  | [d1, d2] => { results := [.lit (.bool true)], args := [d1, d2] }
  | _ => none }
def fnExactKeepShareRow : OpenClaim := { program := "ytaobhehjoijpiaa", sum := "45da0b9d1440dc71004bf7eaba6f8f5aa8a3ff2b9eedfe2dd10475b817b48a2a", func := "loop.example/g01062/laws.FnExactKeepShare", spec := "fnExactKeepShare", apart := false }
def FnExactKeepShareSaid : Prop := fnExactKeepShareRow.holds Try.pinned (OpenSpec.ofChange fnExactKeepShareSpec)

/-- ITS FALSE NEIGHBOUR: 'it returns false'. Refute it at one input. -/
def fnExactKeepShareWrong : ChangeSpec := { name := "fnExactKeepShare", fn := fun _ => fun
  | [d1, d2] => { results := [.lit (.bool false)], args := [d1, d2] }
  | _ => none }
def FnExactKeepShareWrongFalsely : Prop := fnExactKeepShareRow.holds Try.pinned (OpenSpec.ofChange fnExactKeepShareWrong)

/-- 'laws.FnExactWhereIs': WHATEVER THE INPUT: true; the input reads as it did. -/
def fnExactWhereIsSpec : ChangeSpec := { name := "fnExactWhereIs", fn := fun _ => fun
  | [d1, d2, d3] => { results := [.lit (.bool true)], args := [d1, d2, d3] }
  | _ => none }
def fnExactWhereIsRow : OpenClaim := { program := "ytaobhehjoijpiaa", sum := "45da0b9d1440dc71004bf7eaba6f8f5aa8a3ff2b9eedfe2dd10475b817b48a2a", func := "loop.example/g01062/laws.FnExactWhereIs", spec := "fnExactWhereIs", apart := false }
def FnExactWhereIsSaid : Prop := fnExactWhereIsRow.holds Try.pinned (OpenSpec.ofChange fnExactWhereIsSpec)

/-- ITS FALSE NEIGHBOUR: 'it returns false'. Refute it at one input. -/
def fnExactWhereIsWrong : ChangeSpec := { name := "fnExactWhereIs", fn := fun _ => fun
  | [d1, d2, d3] => { results := [.lit (.bool false)], args := [d1, d2, d3] }
  | _ => none }
def FnExactWhereIsWrongFalsely : Prop := fnExactWhereIsRow.holds Try.pinned (OpenSpec.ofChange fnExactWhereIsWrong)

/- THE SECOND FORM. 'bulk': how many values and letters a reading holds, each counted each time it is reached (what is shared counts as often as it is met; a slice's spare places count too). A statement '..UptoSaid' is the law's where the arguments, and the package variables that the reading takes, are together of bulk at most 1048576: NARROWER than '..Said'. Prove '..Said' where nothing that the law and all that it calls make is longer than what came in: it says more and counts as full. Else prove '..UptoSaid'. A law counts once. -/
mutual
def uptoBulk {H : Type} : DataW H → Nat
  | .lit (.string bytes) => bytes.length + 1
  | .lit _ => 1
  | .nil => 1
  | .ptr d => uptoBulk d + 1
  | .slice elems spare => uptoBulkAll elems + uptoBulkAll spare + 1
  | .agg parts => uptoBulkAll parts + 1
  | .iface _ d => uptoBulk d + 1
  | .map entries => uptoBulkEntries entries + 1
  | .held _ => 1
def uptoBulkAll {H : Type} : List (DataW H) → Nat
  | [] => 0
  | d :: r => uptoBulk d + uptoBulkAll r
def uptoBulkEntries {H : Type} : List (Lit × DataW H) → Nat
  | [] => 0
  | x :: r => uptoBulkEntry x + uptoBulkEntries r
def uptoBulkEntry {H : Type} : Lit × DataW H → Nat
  | (.string bytes, d) => bytes.length + uptoBulk d + 1
  | (_, d) => uptoBulk d + 1
 end
def uptoSmall : (H : Type) → List (DataW H) → Bool := fun _ ds => decide (uptoBulkAll ds ≤ 1048576)
def OpenSpec.upto (s : _root_.Go.ChangeSpec) : _root_.Go.OpenSpec := { _root_.Go.OpenSpec.ofChange s with cond := some uptoSmall }

/-- 'laws.FnExactAreApprovals', WHERE WHAT IT READS IS OF BULK AT MOST 1048576: true; the input reads as it did. -/
def fnExactAreApprovalsUptoRow : OpenClaim := { program := "ytaobhehjoijpiaa", sum := "45da0b9d1440dc71004bf7eaba6f8f5aa8a3ff2b9eedfe2dd10475b817b48a2a", func := "loop.example/g01062/laws.FnExactAreApprovals", spec := "fnExactAreApprovals", apart := false, narrowed := true }
def FnExactAreApprovalsUptoSaid : Prop := fnExactAreApprovalsUptoRow.holds Try.pinned (OpenSpec.upto fnExactAreApprovalsSpec)

/-- 'laws.FnExactSlowestClient', WHERE WHAT IT READS IS OF BULK AT MOST 1048576: true; the input reads as it did. -/
def fnExactSlowestClientUptoRow : OpenClaim := { program := "ytaobhehjoijpiaa", sum := "45da0b9d1440dc71004bf7eaba6f8f5aa8a3ff2b9eedfe2dd10475b817b48a2a", func := "loop.example/g01062/laws.FnExactSlowestClient", spec := "fnExactSlowestClient", apart := false, narrowed := true }
def FnExactSlowestClientUptoSaid : Prop := fnExactSlowestClientUptoRow.holds Try.pinned (OpenSpec.upto fnExactSlowestClientSpec)

/-- 'laws.FnExactOverdueIds', WHERE WHAT IT READS IS OF BULK AT MOST 1048576: true; the input reads as it did. -/
def fnExactOverdueIdsUptoRow : OpenClaim := { program := "ytaobhehjoijpiaa", sum := "45da0b9d1440dc71004bf7eaba6f8f5aa8a3ff2b9eedfe2dd10475b817b48a2a", func := "loop.example/g01062/laws.FnExactOverdueIds", spec := "fnExactOverdueIds", apart := false, narrowed := true }
def FnExactOverdueIdsUptoSaid : Prop := fnExactOverdueIdsUptoRow.holds Try.pinned (OpenSpec.upto fnExactOverdueIdsSpec)

/-- 'laws.FnExactSendItems', WHERE WHAT IT READS IS OF BULK AT MOST 1048576: true; the input reads as it did. -/
def fnExactSendItemsUptoRow : OpenClaim := { program := "ytaobhehjoijpiaa", sum := "45da0b9d1440dc71004bf7eaba6f8f5aa8a3ff2b9eedfe2dd10475b817b48a2a", func := "loop.example/g01062/laws.FnExactSendItems", spec := "fnExactSendItems", apart := false, narrowed := true }
def FnExactSendItemsUptoSaid : Prop := fnExactSendItemsUptoRow.holds Try.pinned (OpenSpec.upto fnExactSendItemsSpec)

/-- 'laws.FnExactTakeBack', WHERE WHAT IT READS IS OF BULK AT MOST 1048576: true; the input reads as it did. -/
def fnExactTakeBackUptoRow : OpenClaim := { program := "ytaobhehjoijpiaa", sum := "45da0b9d1440dc71004bf7eaba6f8f5aa8a3ff2b9eedfe2dd10475b817b48a2a", func := "loop.example/g01062/laws.FnExactTakeBack", spec := "fnExactTakeBack", unfollowed := true, recurses := true, apart := false, narrowed := true }
def FnExactTakeBackUptoSaid : Prop := fnExactTakeBackUptoRow.holds Try.pinned (OpenSpec.upto fnExactTakeBackSpec)

/-- 'laws.FnExactBoughtBy', WHERE WHAT IT READS IS OF BULK AT MOST 1048576: true; the input reads as it did. -/
def fnExactBoughtByUptoRow : OpenClaim := { program := "ytaobhehjoijpiaa", sum := "45da0b9d1440dc71004bf7eaba6f8f5aa8a3ff2b9eedfe2dd10475b817b48a2a", func := "loop.example/g01062/laws.FnExactBoughtBy", spec := "fnExactBoughtBy", recurses := true, apart := false, narrowed := true }
def FnExactBoughtByUptoSaid : Prop := fnExactBoughtByUptoRow.holds Try.pinned (OpenSpec.upto fnExactBoughtBySpec)

/-- 'laws.FnExactItemsOut', WHERE WHAT IT READS IS OF BULK AT MOST 1048576: true; the input reads as it did. -/
def fnExactItemsOutUptoRow : OpenClaim := { program := "ytaobhehjoijpiaa", sum := "45da0b9d1440dc71004bf7eaba6f8f5aa8a3ff2b9eedfe2dd10475b817b48a2a", func := "loop.example/g01062/laws.FnExactItemsOut", spec := "fnExactItemsOut", recurses := true, apart := false, narrowed := true }
def FnExactItemsOutUptoSaid : Prop := fnExactItemsOutUptoRow.holds Try.pinned (OpenSpec.upto fnExactItemsOutSpec)

/-- 'laws.FnExactUnsoldItems', WHERE WHAT IT READS IS OF BULK AT MOST 1048576: true; the input reads as it did. -/
def fnExactUnsoldItemsUptoRow : OpenClaim := { program := "ytaobhehjoijpiaa", sum := "45da0b9d1440dc71004bf7eaba6f8f5aa8a3ff2b9eedfe2dd10475b817b48a2a", func := "loop.example/g01062/laws.FnExactUnsoldItems", spec := "fnExactUnsoldItems", unfollowed := true, recurses := true, apart := false, narrowed := true }
def FnExactUnsoldItemsUptoSaid : Prop := fnExactUnsoldItemsUptoRow.holds Try.pinned (OpenSpec.upto fnExactUnsoldItemsSpec)

/-- 'laws.FnApprovals', WHERE WHAT IT READS IS OF BULK AT MOST 1048576: true; the input reads as it did. -/
def fnApprovalsUptoRow : OpenClaim := { program := "ytaobhehjoijpiaa", sum := "45da0b9d1440dc71004bf7eaba6f8f5aa8a3ff2b9eedfe2dd10475b817b48a2a", func := "loop.example/g01062/laws.FnApprovals", spec := "fnApprovals", unfollowed := true, recurses := true, apart := false, narrowed := true }
def FnApprovalsUptoSaid : Prop := fnApprovalsUptoRow.holds Try.pinned (OpenSpec.upto fnApprovalsSpec)

/-- 'laws.FnExactKeepShare', WHERE WHAT IT READS IS OF BULK AT MOST 1048576: true; the input reads as it did. -/
def fnExactKeepShareUptoRow : OpenClaim := { program := "ytaobhehjoijpiaa", sum := "45da0b9d1440dc71004bf7eaba6f8f5aa8a3ff2b9eedfe2dd10475b817b48a2a", func := "loop.example/g01062/laws.FnExactKeepShare", spec := "fnExactKeepShare", apart := false, narrowed := true }
def FnExactKeepShareUptoSaid : Prop := fnExactKeepShareUptoRow.holds Try.pinned (OpenSpec.upto fnExactKeepShareSpec)

/-- 'laws.FnExactWhereIs', WHERE WHAT IT READS IS OF BULK AT MOST 1048576: true; the input reads as it did. -/
def fnExactWhereIsUptoRow : OpenClaim := { program := "ytaobhehjoijpiaa", sum := "45da0b9d1440dc71004bf7eaba6f8f5aa8a3ff2b9eedfe2dd10475b817b48a2a", func := "loop.example/g01062/laws.FnExactWhereIs", spec := "fnExactWhereIs", apart := false, narrowed := true }
def FnExactWhereIsUptoSaid : Prop := fnExactWhereIsUptoRow.holds Try.pinned (OpenSpec.upto fnExactWhereIsSpec)

end Rows
end Go.Proofs.Ytaobhehjoijpiaa
