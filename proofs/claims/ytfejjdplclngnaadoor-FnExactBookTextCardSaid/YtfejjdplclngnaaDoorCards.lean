/-
  DERIVED. GIVEN WITH THE SEED: THE CARDS: each row of YtfejjdplclngnaaDoorRows.lean that lists a variable, with what it lists TIED to the program's text (the seventh form; the later family's looks); each row that meets fmt, with fmt's text TOLD by the authors' own Lean function (tested against real Go, not proved from fmt's source: count such statements apart). THE CARD IS WHAT COUNTS. Prove the row's statement (the work); the ties are given (YtfejjdplclngnaaDoorTie.lean); close each card by the builder's one call (the guide's Derived/Test/ToyasCard.lean, 'card_holds'). Laid BY PROGRAM, IN A SANDBOX (cutbox-door.mjs). By AI agents, Wed Nov 11 2026. No macro, syntax, notation, axiom, sorry.
-/
import Derived.Test.YtfejjdplclngnaaDoorRows
import GoSem.ClaimSeven
namespace Go.Proofs.YtfejjdplclngnaaDoor
namespace Rows

/-- THE TIED CARD OF 'laws.FnExactTreatyText'. -/
def fnExactTreatyTextCard : Claim7 := { stood := { row := fnExactTreatyTextRow, standIns := [], harness := (true, "ef874dc3eed081d8bb43d0ab9ca004dcde2b289c7716dce9c989d299dc2624d7"), looks := false }, kinds := [], alts := [], laidByText := true, laidKinds := [.data, .data, .data], laidTests := true, laidLooks := .later }
def FnExactTreatyTextCardSaid : Prop := Claim7.holds Tryd.pinned (.plain (OpenSpec.ofChange fnExactTreatyTextSpec)) fnExactTreatyTextCard

/-- THE TIED CARD OF 'laws.FnExactInsuredText'. -/
def fnExactInsuredTextCard : Claim7 := { stood := { row := fnExactInsuredTextRow, standIns := [], harness := (true, "ef874dc3eed081d8bb43d0ab9ca004dcde2b289c7716dce9c989d299dc2624d7"), looks := false }, kinds := [], alts := [], laidByText := true, laidKinds := [.data, .data, .data], laidTests := true, laidLooks := .later }
def FnExactInsuredTextCardSaid : Prop := Claim7.holds Tryd.pinned (.plain (OpenSpec.ofChange fnExactInsuredTextSpec)) fnExactInsuredTextCard

/-- THE TIED CARD OF 'laws.FnExactSaleText'. -/
def fnExactSaleTextCard : Claim7 := { stood := { row := fnExactSaleTextRow, standIns := [], harness := (true, "ef874dc3eed081d8bb43d0ab9ca004dcde2b289c7716dce9c989d299dc2624d7"), looks := false }, kinds := [], alts := [], laidByText := true, laidKinds := [.data, .data, .data], laidTests := true, laidLooks := .later }
def FnExactSaleTextCardSaid : Prop := Claim7.holds Tryd.pinned (.plain (OpenSpec.ofChange fnExactSaleTextSpec)) fnExactSaleTextCard

/-- THE TIED CARD OF 'laws.FnExactApprovalText'. -/
def fnExactApprovalTextCard : Claim7 := { stood := { row := fnExactApprovalTextRow, standIns := [], harness := (true, "ef874dc3eed081d8bb43d0ab9ca004dcde2b289c7716dce9c989d299dc2624d7"), looks := false }, kinds := [], alts := [], laidByText := true, laidKinds := [.data, .data, .data], laidTests := true, laidLooks := .later }
def FnExactApprovalTextCardSaid : Prop := Claim7.holds Tryd.pinned (.plain (OpenSpec.ofChange fnExactApprovalTextSpec)) fnExactApprovalTextCard

/-- THE TIED CARD OF 'laws.FnExactBookText'. -/
def fnExactBookTextCard : Claim7 := { stood := { row := fnExactBookTextRow, standIns := [], harness := (true, "ef874dc3eed081d8bb43d0ab9ca004dcde2b289c7716dce9c989d299dc2624d7"), looks := false }, kinds := [], alts := [], laidByText := true, laidKinds := [.data, .data, .data], laidTests := true, laidLooks := .later }
def FnExactBookTextCardSaid : Prop := Claim7.holds Tryd.pinned (.plain (OpenSpec.ofChange fnExactBookTextSpec)) fnExactBookTextCard

/-- THE SECOND FORM's CARD OF 'laws.FnExactTreatyText'. -/
def fnExactTreatyTextUptoCard : Claim7 := { stood := { row := fnExactTreatyTextUptoRow, standIns := [], harness := (true, "ef874dc3eed081d8bb43d0ab9ca004dcde2b289c7716dce9c989d299dc2624d7"), looks := false }, kinds := [], alts := [], laidByText := true, laidKinds := [.data, .data, .data], laidTests := true, laidLooks := .later }
def FnExactTreatyTextUptoCardSaid : Prop := Claim7.holds Tryd.pinned (.plain (OpenSpec.upto fnExactTreatyTextSpec)) fnExactTreatyTextUptoCard

/-- THE SECOND FORM's CARD OF 'laws.FnExactInsuredText'. -/
def fnExactInsuredTextUptoCard : Claim7 := { stood := { row := fnExactInsuredTextUptoRow, standIns := [], harness := (true, "ef874dc3eed081d8bb43d0ab9ca004dcde2b289c7716dce9c989d299dc2624d7"), looks := false }, kinds := [], alts := [], laidByText := true, laidKinds := [.data, .data, .data], laidTests := true, laidLooks := .later }
def FnExactInsuredTextUptoCardSaid : Prop := Claim7.holds Tryd.pinned (.plain (OpenSpec.upto fnExactInsuredTextSpec)) fnExactInsuredTextUptoCard

/-- THE SECOND FORM's CARD OF 'laws.FnExactSaleText'. -/
def fnExactSaleTextUptoCard : Claim7 := { stood := { row := fnExactSaleTextUptoRow, standIns := [], harness := (true, "ef874dc3eed081d8bb43d0ab9ca004dcde2b289c7716dce9c989d299dc2624d7"), looks := false }, kinds := [], alts := [], laidByText := true, laidKinds := [.data, .data, .data], laidTests := true, laidLooks := .later }
def FnExactSaleTextUptoCardSaid : Prop := Claim7.holds Tryd.pinned (.plain (OpenSpec.upto fnExactSaleTextSpec)) fnExactSaleTextUptoCard

/-- THE SECOND FORM's CARD OF 'laws.FnExactApprovalText'. -/
def fnExactApprovalTextUptoCard : Claim7 := { stood := { row := fnExactApprovalTextUptoRow, standIns := [], harness := (true, "ef874dc3eed081d8bb43d0ab9ca004dcde2b289c7716dce9c989d299dc2624d7"), looks := false }, kinds := [], alts := [], laidByText := true, laidKinds := [.data, .data, .data], laidTests := true, laidLooks := .later }
def FnExactApprovalTextUptoCardSaid : Prop := Claim7.holds Tryd.pinned (.plain (OpenSpec.upto fnExactApprovalTextSpec)) fnExactApprovalTextUptoCard

/-- THE SECOND FORM's CARD OF 'laws.FnExactBookText'. -/
def fnExactBookTextUptoCard : Claim7 := { stood := { row := fnExactBookTextUptoRow, standIns := [], harness := (true, "ef874dc3eed081d8bb43d0ab9ca004dcde2b289c7716dce9c989d299dc2624d7"), looks := false }, kinds := [], alts := [], laidByText := true, laidKinds := [.data, .data, .data], laidTests := true, laidLooks := .later }
def FnExactBookTextUptoCardSaid : Prop := Claim7.holds Tryd.pinned (.plain (OpenSpec.upto fnExactBookTextSpec)) fnExactBookTextUptoCard
end Rows
end Go.Proofs.YtfejjdplclngnaaDoor
