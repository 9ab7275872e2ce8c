/-
  DERIVED. GIVEN WITH THE SEED: THE CARDS: each row of YtehohkdipfphmaaDoorRows.lean that lists a variable, with what it lists TIED to the program's text (the seventh form; the later family's looks); each row that meets fmt, with fmt's text TOLD by the authors' own Lean function (tested against real Go, not proved from fmt's source: count such statements apart). THE CARD IS WHAT COUNTS. Prove the row's statement (the work); the ties are given (YtehohkdipfphmaaDoorTie.lean); close each card by the builder's one call (the guide's Derived/Test/ToyasCard.lean, 'card_holds'). Laid BY PROGRAM, IN A SANDBOX (cutbox-door.mjs). By AI agents, Wed Nov 11 2026. No macro, syntax, notation, axiom, sorry.
-/
import Derived.Test.YtehohkdipfphmaaDoorRows
import GoSem.ClaimSeven
namespace Go.Proofs.YtehohkdipfphmaaDoor
namespace Rows

/-- THE TIED CARD OF 'laws.FnClients'. -/
def fnClientsCard : Claim7 := { stood := { row := fnClientsRow, standIns := [], harness := (true, "2d5bc3ebc96c084108d4606e2c8b5569d81731c880e73708e96b02fb7bb964fa"), looks := false }, kinds := [], alts := [], laidByText := true, laidKinds := [.data, .data, .data], laidTests := true, laidLooks := .later }
def FnClientsCardSaid : Prop := Claim7.holds Tryd.pinned (.plain (OpenSpec.ofChange fnClientsSpec)) fnClientsCard

/-- THE SECOND FORM's CARD OF 'laws.FnClients'. -/
def fnClientsUptoCard : Claim7 := { stood := { row := fnClientsUptoRow, standIns := [], harness := (true, "2d5bc3ebc96c084108d4606e2c8b5569d81731c880e73708e96b02fb7bb964fa"), looks := false }, kinds := [], alts := [], laidByText := true, laidKinds := [.data, .data, .data], laidTests := true, laidLooks := .later }
def FnClientsUptoCardSaid : Prop := Claim7.holds Tryd.pinned (.plain (OpenSpec.upto fnClientsSpec)) fnClientsUptoCard
end Rows
end Go.Proofs.YtehohkdipfphmaaDoor
