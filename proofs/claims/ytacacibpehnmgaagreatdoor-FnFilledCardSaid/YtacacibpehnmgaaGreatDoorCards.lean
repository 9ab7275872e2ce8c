/-
  DERIVED. GIVEN WITH THE SEED: THE CARDS: each row of YtacacibpehnmgaaGreatDoorRows.lean that lists a variable, with what it lists TIED to the program's text (the seventh form; the later family's looks); each row that meets fmt, with fmt's text TOLD by the authors' own Lean function (tested against real Go, not proved from fmt's source: count such statements apart). THE CARD IS WHAT COUNTS. Prove the row's statement (the work); the ties are given (YtacacibpehnmgaaGreatDoorTie.lean); close each card by the builder's one call (the guide's Derived/Test/ToyasCard.lean, 'card_holds'). Laid BY PROGRAM, IN A SANDBOX (cutbox-door.mjs). By AI agents, Wed Nov 11 2026. No macro, syntax, notation, axiom, sorry.
-/
import Derived.Test.YtacacibpehnmgaaGreatDoorRows
import GoSem.ClaimSeven
namespace Go.Proofs.YtacacibpehnmgaaGreatDoor
namespace Rows

/-- THE TIED CARD OF 'laws.FnFilled'. -/
def fnFilledCard : Claim7 := { stood := { row := fnFilledRow, standIns := [], harness := (true, "a5bca9f09fa40b8d37cab3413f5d1f88d6729bb4447e01d40a4d8916b01e59ff"), looks := false }, kinds := [], alts := [], laidByText := true, laidKinds := [.data, .data, .data], laidTests := true, laidLooks := .later }
def FnFilledCardSaid : Prop := Claim7.holds Tryz.pinned (.plain (OpenSpec.ofChange fnFilledSpec)) fnFilledCard

/-- THE SECOND FORM's CARD OF 'laws.FnFilled'. -/
def fnFilledUptoCard : Claim7 := { stood := { row := fnFilledUptoRow, standIns := [], harness := (true, "a5bca9f09fa40b8d37cab3413f5d1f88d6729bb4447e01d40a4d8916b01e59ff"), looks := false }, kinds := [], alts := [], laidByText := true, laidKinds := [.data, .data, .data], laidTests := true, laidLooks := .later }
def FnFilledUptoCardSaid : Prop := Claim7.holds Tryz.pinned (.plain (OpenSpec.upto fnFilledSpec)) fnFilledUptoCard
end Rows
end Go.Proofs.YtacacibpehnmgaaGreatDoor
