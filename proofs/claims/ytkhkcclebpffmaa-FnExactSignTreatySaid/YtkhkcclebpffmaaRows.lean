/-
  No cell of these rows narrows 'for every input' (looked for: loops, veiled, ifaces, maps, wideKeys, modest, calm, conditions, laid).
  DERIVED. THE GIVEN ROWS OF THIS SEAT. 12 by the template 'for every input the law returns true; each argument reads behind the call as it read before'; 0 by the template 'total and deterministic' (their statements: YtkhkcclebpffmaaTotals.lean).
  GIVEN WITH THE SEED: the statements are not yours to turn. If you find one false, say at which input.
  Laid BY PROGRAM, IN A SANDBOX (cutbox-rows.mjs): the forced cells as the released guide's own fill.sh prints them over the translation bc2145fe78f8b793… (all of the seat's roots in one cut). By AI agents, Wed Nov 11 2026. No macro, syntax, notation, axiom, sorry.
-/
import Derived.Test.YtkhkcclebpffmaaChecked
import GoSem.Claim
import GoSem.ClaimJoined
import GoSem.ClaimMapViews
import Derived.JoinedTies
import Derived.KernelRfl
namespace Go.Proofs.Ytkhkcclebpffmaa
/- THE CELL 'sum', in the pinned program and in every row, IS THE sha256 OF THE DUMP (.gsa) THAT YtkhkcclebpffmaaProg.lean LOADS. Nothing in Lean hashes anything: it is a label: what it is worth is what the hold of that sum in a sandbox is worth. -/
noncomputable def Try.pinned : Pinned := { name := "ytkhkcclebpffmaa", sum := "bc2145fe78f8b793671109794f8d240de31d2858a0dc283b7a947b1f52bbbef0", checked := Try.checked }
namespace Rows
def none {H : Type} : Left H := { results := [], args := [] }

/-- 'laws.FnExactAreTreaties': WHATEVER THE INPUT: true; the input reads as it did. -/
def fnExactAreTreatiesSpec : ChangeSpec := { name := "fnExactAreTreaties", fn := fun _ => fun
  | [d] => { results := [.lit (.bool true)], args := [d] }
  | _ => none }
def fnExactAreTreatiesRow : OpenClaim := { program := "ytkhkcclebpffmaa", sum := "bc2145fe78f8b793671109794f8d240de31d2858a0dc283b7a947b1f52bbbef0", func := "loop.example/g01062/laws.FnExactAreTreaties", spec := "fnExactAreTreaties", apart := false }
def FnExactAreTreatiesSaid : Prop := fnExactAreTreatiesRow.holds Try.pinned (OpenSpec.ofChange fnExactAreTreatiesSpec)

/-- ITS FALSE NEIGHBOUR: 'it returns false'. Refute it at one input. -/
def fnExactAreTreatiesWrong : ChangeSpec := { name := "fnExactAreTreaties", fn := fun _ => fun
  | [d] => { results := [.lit (.bool false)], args := [d] }
  | _ => none }
def FnExactAreTreatiesWrongFalsely : Prop := fnExactAreTreatiesRow.holds Try.pinned (OpenSpec.ofChange fnExactAreTreatiesWrong)

/-- 'laws.FnExactInForce': WHATEVER THE INPUT: true; the input reads as it did. -/
def fnExactInForceSpec : ChangeSpec := { name := "fnExactInForce", fn := fun _ => fun
  | [d1, d2, d3, d4] => { results := [.lit (.bool true)], args := [d1, d2, d3, d4] }
  | _ => none }
def fnExactInForceRow : OpenClaim := { program := "ytkhkcclebpffmaa", sum := "bc2145fe78f8b793671109794f8d240de31d2858a0dc283b7a947b1f52bbbef0", func := "loop.example/g01062/laws.FnExactInForce", spec := "fnExactInForce", unfollowed := true, recurses := true, apart := false }
def FnExactInForceSaid : Prop := fnExactInForceRow.holds Try.pinned (OpenSpec.ofChange fnExactInForceSpec)

/-- ITS FALSE NEIGHBOUR: 'it returns false'. Refute it at one input. -/
def fnExactInForceWrong : ChangeSpec := { name := "fnExactInForce", fn := fun _ => fun
  | [d1, d2, d3, d4] => { results := [.lit (.bool false)], args := [d1, d2, d3, d4] }
  | _ => none }
def FnExactInForceWrongFalsely : Prop := fnExactInForceRow.holds Try.pinned (OpenSpec.ofChange fnExactInForceWrong)

/-- 'laws.FnExactEndTreaty': WHATEVER THE INPUT: true; the input reads as it did. -/
def fnExactEndTreatySpec : ChangeSpec := { name := "fnExactEndTreaty", fn := fun _ => fun
  | [d1, d2, d3] => { results := [.lit (.bool true)], args := [d1, d2, d3] }
  | _ => none }
def fnExactEndTreatyRow : OpenClaim := { program := "ytkhkcclebpffmaa", sum := "bc2145fe78f8b793671109794f8d240de31d2858a0dc283b7a947b1f52bbbef0", func := "loop.example/g01062/laws.FnExactEndTreaty", spec := "fnExactEndTreaty", apart := false }
def FnExactEndTreatySaid : Prop := fnExactEndTreatyRow.holds Try.pinned (OpenSpec.ofChange fnExactEndTreatySpec)

/-- ITS FALSE NEIGHBOUR: 'it returns false'. Refute it at one input. -/
def fnExactEndTreatyWrong : ChangeSpec := { name := "fnExactEndTreaty", fn := fun _ => fun
  | [d1, d2, d3] => { results := [.lit (.bool false)], args := [d1, d2, d3] }
  | _ => none }
def FnExactEndTreatyWrongFalsely : Prop := fnExactEndTreatyRow.holds Try.pinned (OpenSpec.ofChange fnExactEndTreatyWrong)

/-- 'laws.FnExactStartsOf': WHATEVER THE INPUT: true; the input reads as it did. -/
def fnExactStartsOfSpec : ChangeSpec := { name := "fnExactStartsOf", fn := fun _ => fun
  | [d1, d2] => { results := [.lit (.bool true)], args := [d1, d2] }
  | _ => none }
def fnExactStartsOfRow : OpenClaim := { program := "ytkhkcclebpffmaa", sum := "bc2145fe78f8b793671109794f8d240de31d2858a0dc283b7a947b1f52bbbef0", func := "loop.example/g01062/laws.FnExactStartsOf", spec := "fnExactStartsOf", unfollowed := true, recurses := true, apart := false }
def FnExactStartsOfSaid : Prop := fnExactStartsOfRow.holds Try.pinned (OpenSpec.ofChange fnExactStartsOfSpec)

/-- ITS FALSE NEIGHBOUR: 'it returns false'. Refute it at one input. -/
def fnExactStartsOfWrong : ChangeSpec := { name := "fnExactStartsOf", fn := fun _ => fun
  | [d1, d2] => { results := [.lit (.bool false)], args := [d1, d2] }
  | _ => none }
def FnExactStartsOfWrongFalsely : Prop := fnExactStartsOfRow.holds Try.pinned (OpenSpec.ofChange fnExactStartsOfWrong)

/-- 'laws.FnExactPartnersOf': WHATEVER THE INPUT: true; the input reads as it did. -/
def fnExactPartnersOfSpec : ChangeSpec := { name := "fnExactPartnersOf", fn := fun _ => fun
  | [d1, d2, d3] => { results := [.lit (.bool true)], args := [d1, d2, d3] }
  | _ => none }
def fnExactPartnersOfRow : OpenClaim := { program := "ytkhkcclebpffmaa", sum := "bc2145fe78f8b793671109794f8d240de31d2858a0dc283b7a947b1f52bbbef0", func := "loop.example/g01062/laws.FnExactPartnersOf", spec := "fnExactPartnersOf", unfollowed := true, recurses := true, apart := false }
def FnExactPartnersOfSaid : Prop := fnExactPartnersOfRow.holds Try.pinned (OpenSpec.ofChange fnExactPartnersOfSpec)

/-- ITS FALSE NEIGHBOUR: 'it returns false'. Refute it at one input. -/
def fnExactPartnersOfWrong : ChangeSpec := { name := "fnExactPartnersOf", fn := fun _ => fun
  | [d1, d2, d3] => { results := [.lit (.bool false)], args := [d1, d2, d3] }
  | _ => none }
def FnExactPartnersOfWrongFalsely : Prop := fnExactPartnersOfRow.holds Try.pinned (OpenSpec.ofChange fnExactPartnersOfWrong)

/-- 'laws.FnExactFirstChainDay': WHATEVER THE INPUT: true; the input reads as it did. -/
def fnExactFirstChainDaySpec : ChangeSpec := { name := "fnExactFirstChainDay", fn := fun _ => fun
  | [d1, d2, d3, d4] => { results := [.lit (.bool true)], args := [d1, d2, d3, d4] }
  | _ => none }
def fnExactFirstChainDayRow : OpenClaim := { program := "ytkhkcclebpffmaa", sum := "bc2145fe78f8b793671109794f8d240de31d2858a0dc283b7a947b1f52bbbef0", func := "loop.example/g01062/laws.FnExactFirstChainDay", spec := "fnExactFirstChainDay", unfollowed := true, recurses := true, apart := false }
def FnExactFirstChainDaySaid : Prop := fnExactFirstChainDayRow.holds Try.pinned (OpenSpec.ofChange fnExactFirstChainDaySpec)

/-- ITS FALSE NEIGHBOUR: 'it returns false'. Refute it at one input. -/
def fnExactFirstChainDayWrong : ChangeSpec := { name := "fnExactFirstChainDay", fn := fun _ => fun
  | [d1, d2, d3, d4] => { results := [.lit (.bool false)], args := [d1, d2, d3, d4] }
  | _ => none }
def FnExactFirstChainDayWrongFalsely : Prop := fnExactFirstChainDayRow.holds Try.pinned (OpenSpec.ofChange fnExactFirstChainDayWrong)

/-- 'laws.FnExactSharesOf': WHATEVER THE INPUT: true; the input reads as it did. -/
def fnExactSharesOfSpec : ChangeSpec := { name := "fnExactSharesOf", fn := fun _ => fun
  | [d1, d2, d3, d4] => { results := [.lit (.bool true)], args := [d1, d2, d3, d4] }
  | _ => none }
def fnExactSharesOfRow : OpenClaim := { program := "ytkhkcclebpffmaa", sum := "bc2145fe78f8b793671109794f8d240de31d2858a0dc283b7a947b1f52bbbef0", func := "loop.example/g01062/laws.FnExactSharesOf", spec := "fnExactSharesOf", unfollowed := true, recurses := true, apart := false }
def FnExactSharesOfSaid : Prop := fnExactSharesOfRow.holds Try.pinned (OpenSpec.ofChange fnExactSharesOfSpec)

/-- ITS FALSE NEIGHBOUR: 'it returns false'. Refute it at one input. -/
def fnExactSharesOfWrong : ChangeSpec := { name := "fnExactSharesOf", fn := fun _ => fun
  | [d1, d2, d3, d4] => { results := [.lit (.bool false)], args := [d1, d2, d3, d4] }
  | _ => none }
def FnExactSharesOfWrongFalsely : Prop := fnExactSharesOfRow.holds Try.pinned (OpenSpec.ofChange fnExactSharesOfWrong)

/-- 'laws.FnExactKeepShare': WHATEVER THE INPUT: true; the input reads as it did. -/
def fnExactKeepShareSpec : ChangeSpec := { name := "fnExactKeepShare", fn := fun _ => fun
  | [d1, d2] => { results := [.lit (.bool true)], args := [d1, d2] }
  | _ => none }
def fnExactKeepShareRow : OpenClaim := { program := "ytkhkcclebpffmaa", sum := "bc2145fe78f8b793671109794f8d240de31d2858a0dc283b7a947b1f52bbbef0", func := "loop.example/g01062/laws.FnExactKeepShare", spec := "fnExactKeepShare", apart := false }
def FnExactKeepShareSaid : Prop := fnExactKeepShareRow.holds Try.pinned (OpenSpec.ofChange fnExactKeepShareSpec)

/-- ITS FALSE NEIGHBOUR: 'it returns false'. Refute it at one input. -/
def fnExactKeepShareWrong : ChangeSpec := { name := "fnExactKeepShare", fn := fun _ => fun
  | [d1, d2] => { results := [.lit (.bool false)], args := [d1, d2] }
  | _ => none }
def FnExactKeepShareWrongFalsely : Prop := fnExactKeepShareRow.holds Try.pinned (OpenSpec.ofChange fnExactKeepShareWrong)

/-- 'laws.FnExactShortestChain': WHATEVER THE INPUT: true; the input reads as it did. -/
def fnExactShortestChainSpec : ChangeSpec := { name := "fnExactShortestChain", fn := fun _ => fun
  | [d1, d2, d3, d4] => { results := [.lit (.bool true)], args := [d1, d2, d3, d4] }
  | _ => none }
def fnExactShortestChainRow : OpenClaim := { program := "ytkhkcclebpffmaa", sum := "bc2145fe78f8b793671109794f8d240de31d2858a0dc283b7a947b1f52bbbef0", func := "loop.example/g01062/laws.FnExactShortestChain", spec := "fnExactShortestChain", unfollowed := true, recurses := true, apart := false }
def FnExactShortestChainSaid : Prop := fnExactShortestChainRow.holds Try.pinned (OpenSpec.ofChange fnExactShortestChainSpec)

/-- ITS FALSE NEIGHBOUR: 'it returns false'. Refute it at one input. -/
def fnExactShortestChainWrong : ChangeSpec := { name := "fnExactShortestChain", fn := fun _ => fun
  | [d1, d2, d3, d4] => { results := [.lit (.bool false)], args := [d1, d2, d3, d4] }
  | _ => none }
def FnExactShortestChainWrongFalsely : Prop := fnExactShortestChainRow.holds Try.pinned (OpenSpec.ofChange fnExactShortestChainWrong)

/-- 'laws.FnExactSignTreaty': WHATEVER THE INPUT: true; the input reads as it did. -/
def fnExactSignTreatySpec : ChangeSpec := { name := "fnExactSignTreaty", fn := fun _ => fun
  | [d1, d2] => { results := [.lit (.bool true)], args := [d1, d2] }
  | _ => none }
def fnExactSignTreatyRow : OpenClaim := { program := "ytkhkcclebpffmaa", sum := "bc2145fe78f8b793671109794f8d240de31d2858a0dc283b7a947b1f52bbbef0", func := "loop.example/g01062/laws.FnExactSignTreaty", spec := "fnExactSignTreaty", inPlace := ["slices.overlaps[loop.example/g01062/impl.Treaty]"], unfollowed := true, recurses := true, apart := false }
def FnExactSignTreatySaid : Prop := fnExactSignTreatyRow.holds Try.pinned (OpenSpec.ofChange fnExactSignTreatySpec)

/-- ITS FALSE NEIGHBOUR: 'it returns false'. Refute it at one input. -/
def fnExactSignTreatyWrong : ChangeSpec := { name := "fnExactSignTreaty", fn := fun _ => fun
  | [d1, d2] => { results := [.lit (.bool false)], args := [d1, d2] }
  | _ => none }
def FnExactSignTreatyWrongFalsely : Prop := fnExactSignTreatyRow.holds Try.pinned (OpenSpec.ofChange fnExactSignTreatyWrong)

/-- 'laws.FnExactPostGroups': WHATEVER THE INPUT: true; the input reads as it did. -/
def fnExactPostGroupsSpec : ChangeSpec := { name := "fnExactPostGroups", fn := fun _ => fun
  | [d1, d2] => { results := [.lit (.bool true)], args := [d1, d2] }
  | _ => none }
def fnExactPostGroupsRow : OpenClaim := { program := "ytkhkcclebpffmaa", sum := "bc2145fe78f8b793671109794f8d240de31d2858a0dc283b7a947b1f52bbbef0", func := "loop.example/g01062/laws.FnExactPostGroups", spec := "fnExactPostGroups", unfollowed := true, recurses := true, apart := false }
def FnExactPostGroupsSaid : Prop := fnExactPostGroupsRow.holds Try.pinned (OpenSpec.ofChange fnExactPostGroupsSpec)

/-- ITS FALSE NEIGHBOUR: 'it returns false'. Refute it at one input. -/
def fnExactPostGroupsWrong : ChangeSpec := { name := "fnExactPostGroups", fn := fun _ => fun
  | [d1, d2] => { results := [.lit (.bool false)], args := [d1, d2] }
  | _ => none }
def FnExactPostGroupsWrongFalsely : Prop := fnExactPostGroupsRow.holds Try.pinned (OpenSpec.ofChange fnExactPostGroupsWrong)

/-- 'laws.FnChains': WHATEVER THE INPUT: true; the input reads as it did. -/
def fnChainsSpec : ChangeSpec := { name := "fnChains", fn := fun _ => fun
  | [d] => { results := [.lit (.bool true)], args := [d] }
  | _ => none }
def fnChainsRow : OpenClaim := { program := "ytkhkcclebpffmaa", sum := "bc2145fe78f8b793671109794f8d240de31d2858a0dc283b7a947b1f52bbbef0", func := "loop.example/g01062/laws.FnChains", spec := "fnChains", unfollowed := true, recurses := true, apart := false }
def FnChainsSaid : Prop := fnChainsRow.holds Try.pinned (OpenSpec.ofChange fnChainsSpec)

/-- ITS FALSE NEIGHBOUR: 'it returns false'. Refute it at one input. -/
def fnChainsWrong : ChangeSpec := { name := "fnChains", fn := fun _ => fun
  | [d] => { results := [.lit (.bool false)], args := [d] }
  | _ => none }
def FnChainsWrongFalsely : Prop := fnChainsRow.holds Try.pinned (OpenSpec.ofChange fnChainsWrong)

/- THE SECOND FORM. 'bulk': how many values and letters a reading holds, each counted each time it is reached (what is shared counts as often as it is met; a slice's spare places count too). A statement '..UptoSaid' is the law's where the arguments, and the package variables that the reading takes, are together of bulk at most 1048576: NARROWER than '..Said'. Prove '..Said' where nothing that the law and all that it calls make is longer than what came in: it says more and counts as full. Else prove '..UptoSaid'. A law counts once. -/
mutual
def uptoBulk {H : Type} : DataW H → Nat
  | .lit (.string bytes) => bytes.length + 1
  | .lit _ => 1
  | .nil => 1
  | .ptr d => uptoBulk d + 1
  | .slice elems spare => uptoBulkAll elems + uptoBulkAll spare + 1
  | .agg parts => uptoBulkAll parts + 1
  | .iface _ d => uptoBulk d + 1
  | .map entries => uptoBulkEntries entries + 1
  | .held _ => 1
def uptoBulkAll {H : Type} : List (DataW H) → Nat
  | [] => 0
  | d :: r => uptoBulk d + uptoBulkAll r
def uptoBulkEntries {H : Type} : List (Lit × DataW H) → Nat
  | [] => 0
  | x :: r => uptoBulkEntry x + uptoBulkEntries r
def uptoBulkEntry {H : Type} : Lit × DataW H → Nat
  | (.string bytes, d) => bytes.length + uptoBulk d + 1
  | (_, d) => uptoBulk d + 1
 end
def uptoSmall : (H : Type) → List (DataW H) → Bool := fun _ ds => decide (uptoBulkAll ds ≤ 1048576)
def OpenSpec.upto (s : _root_.Go.ChangeSpec) : _root_.Go.OpenSpec := { _root_.Go.OpenSpec.ofChange s with cond := some uptoSmall }

/-- 'laws.FnExactAreTreaties', WHERE WHAT IT READS IS OF BULK AT MOST 1048576: true; the input reads as it did. -/
def fnExactAreTreatiesUptoRow : OpenClaim := { program := "ytkhkcclebpffmaa", sum := "bc2145fe78f8b793671109794f8d240de31d2858a0dc283b7a947b1f52bbbef0", func := "loop.example/g01062/laws.FnExactAreTreaties", spec := "fnExactAreTreaties", apart := false, narrowed := true }
def FnExactAreTreatiesUptoSaid : Prop := fnExactAreTreatiesUptoRow.holds Try.pinned (OpenSpec.upto fnExactAreTreatiesSpec)

/-- 'laws.FnExactInForce', WHERE WHAT IT READS IS OF BULK AT MOST 1048576: true; the input reads as it did. -/
def fnExactInForceUptoRow : OpenClaim := { program := "ytkhkcclebpffmaa", sum := "bc2145fe78f8b793671109794f8d240de31d2858a0dc283b7a947b1f52bbbef0", func := "loop.example/g01062/laws.FnExactInForce", spec := "fnExactInForce", unfollowed := true, recurses := true, apart := false, narrowed := true }
def FnExactInForceUptoSaid : Prop := fnExactInForceUptoRow.holds Try.pinned (OpenSpec.upto fnExactInForceSpec)

/-- 'laws.FnExactEndTreaty', WHERE WHAT IT READS IS OF BULK AT MOST 1048576: true; the input reads as it did. -/
def fnExactEndTreatyUptoRow : OpenClaim := { program := "ytkhkcclebpffmaa", sum := "bc2145fe78f8b793671109794f8d240de31d2858a0dc283b7a947b1f52bbbef0", func := "loop.example/g01062/laws.FnExactEndTreaty", spec := "fnExactEndTreaty", apart := false, narrowed := true }
def FnExactEndTreatyUptoSaid : Prop := fnExactEndTreatyUptoRow.holds Try.pinned (OpenSpec.upto fnExactEndTreatySpec)

/-- 'laws.FnExactStartsOf', WHERE WHAT IT READS IS OF BULK AT MOST 1048576: true; the input reads as it did. -/
def fnExactStartsOfUptoRow : OpenClaim := { program := "ytkhkcclebpffmaa", sum := "bc2145fe78f8b793671109794f8d240de31d2858a0dc283b7a947b1f52bbbef0", func := "loop.example/g01062/laws.FnExactStartsOf", spec := "fnExactStartsOf", unfollowed := true, recurses := true, apart := false, narrowed := true }
def FnExactStartsOfUptoSaid : Prop := fnExactStartsOfUptoRow.holds Try.pinned (OpenSpec.upto fnExactStartsOfSpec)

/-- 'laws.FnExactPartnersOf', WHERE WHAT IT READS IS OF BULK AT MOST 1048576: true; the input reads as it did. -/
def fnExactPartnersOfUptoRow : OpenClaim := { program := "ytkhkcclebpffmaa", sum := "bc2145fe78f8b793671109794f8d240de31d2858a0dc283b7a947b1f52bbbef0", func := "loop.example/g01062/laws.FnExactPartnersOf", spec := "fnExactPartnersOf", unfollowed := true, recurses := true, apart := false, narrowed := true }
def FnExactPartnersOfUptoSaid : Prop := fnExactPartnersOfUptoRow.holds Try.pinned (OpenSpec.upto fnExactPartnersOfSpec)

/-- 'laws.FnExactFirstChainDay', WHERE WHAT IT READS IS OF BULK AT MOST 1048576: true; the input reads as it did. -/
def fnExactFirstChainDayUptoRow : OpenClaim := { program := "ytkhkcclebpffmaa", sum := "bc2145fe78f8b793671109794f8d240de31d2858a0dc283b7a947b1f52bbbef0", func := "loop.example/g01062/laws.FnExactFirstChainDay", spec := "fnExactFirstChainDay", unfollowed := true, recurses := true, apart := false, narrowed := true }
def FnExactFirstChainDayUptoSaid : Prop := fnExactFirstChainDayUptoRow.holds Try.pinned (OpenSpec.upto fnExactFirstChainDaySpec)

/-- 'laws.FnExactSharesOf', WHERE WHAT IT READS IS OF BULK AT MOST 1048576: true; the input reads as it did. -/
def fnExactSharesOfUptoRow : OpenClaim := { program := "ytkhkcclebpffmaa", sum := "bc2145fe78f8b793671109794f8d240de31d2858a0dc283b7a947b1f52bbbef0", func := "loop.example/g01062/laws.FnExactSharesOf", spec := "fnExactSharesOf", unfollowed := true, recurses := true, apart := false, narrowed := true }
def FnExactSharesOfUptoSaid : Prop := fnExactSharesOfUptoRow.holds Try.pinned (OpenSpec.upto fnExactSharesOfSpec)

/-- 'laws.FnExactKeepShare', WHERE WHAT IT READS IS OF BULK AT MOST 1048576: true; the input reads as it did. -/
def fnExactKeepShareUptoRow : OpenClaim := { program := "ytkhkcclebpffmaa", sum := "bc2145fe78f8b793671109794f8d240de31d2858a0dc283b7a947b1f52bbbef0", func := "loop.example/g01062/laws.FnExactKeepShare", spec := "fnExactKeepShare", apart := false, narrowed := true }
def FnExactKeepShareUptoSaid : Prop := fnExactKeepShareUptoRow.holds Try.pinned (OpenSpec.upto fnExactKeepShareSpec)

/-- 'laws.FnExactShortestChain', WHERE WHAT IT READS IS OF BULK AT MOST 1048576: true; the input reads as it did. -/
def fnExactShortestChainUptoRow : OpenClaim := { program := "ytkhkcclebpffmaa", sum := "bc2145fe78f8b793671109794f8d240de31d2858a0dc283b7a947b1f52bbbef0", func := "loop.example/g01062/laws.FnExactShortestChain", spec := "fnExactShortestChain", unfollowed := true, recurses := true, apart := false, narrowed := true }
def FnExactShortestChainUptoSaid : Prop := fnExactShortestChainUptoRow.holds Try.pinned (OpenSpec.upto fnExactShortestChainSpec)

/-- 'laws.FnExactSignTreaty', WHERE WHAT IT READS IS OF BULK AT MOST 1048576: true; the input reads as it did. -/
def fnExactSignTreatyUptoRow : OpenClaim := { program := "ytkhkcclebpffmaa", sum := "bc2145fe78f8b793671109794f8d240de31d2858a0dc283b7a947b1f52bbbef0", func := "loop.example/g01062/laws.FnExactSignTreaty", spec := "fnExactSignTreaty", inPlace := ["slices.overlaps[loop.example/g01062/impl.Treaty]"], unfollowed := true, recurses := true, apart := false, narrowed := true }
def FnExactSignTreatyUptoSaid : Prop := fnExactSignTreatyUptoRow.holds Try.pinned (OpenSpec.upto fnExactSignTreatySpec)

/-- 'laws.FnExactPostGroups', WHERE WHAT IT READS IS OF BULK AT MOST 1048576: true; the input reads as it did. -/
def fnExactPostGroupsUptoRow : OpenClaim := { program := "ytkhkcclebpffmaa", sum := "bc2145fe78f8b793671109794f8d240de31d2858a0dc283b7a947b1f52bbbef0", func := "loop.example/g01062/laws.FnExactPostGroups", spec := "fnExactPostGroups", unfollowed := true, recurses := true, apart := false, narrowed := true }
def FnExactPostGroupsUptoSaid : Prop := fnExactPostGroupsUptoRow.holds Try.pinned (OpenSpec.upto fnExactPostGroupsSpec)

/-- 'laws.FnChains', WHERE WHAT IT READS IS OF BULK AT MOST 1048576: true; the input reads as it did. -/
def fnChainsUptoRow : OpenClaim := { program := "ytkhkcclebpffmaa", sum := "bc2145fe78f8b793671109794f8d240de31d2858a0dc283b7a947b1f52bbbef0", func := "loop.example/g01062/laws.FnChains", spec := "fnChains", unfollowed := true, recurses := true, apart := false, narrowed := true }
def FnChainsUptoSaid : Prop := fnChainsUptoRow.holds Try.pinned (OpenSpec.upto fnChainsSpec)

end Rows
end Go.Proofs.Ytkhkcclebpffmaa
