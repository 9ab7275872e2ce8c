/-
  DERIVED. GIVEN WITH THE SEED: THE CARDS: each row of YtiafiehglfmjaaaDoorRows.lean that lists a variable, with what it lists TIED to the program's text (the seventh form; the later family's looks); each row that meets fmt, with fmt's text TOLD by the authors' own Lean function (tested against real Go, not proved from fmt's source: count such statements apart). THE CARD IS WHAT COUNTS. Prove the row's statement (the work); the ties are given (YtiafiehglfmjaaaDoorTie.lean); close each card by the builder's one call (the guide's Derived/Test/ToyasCard.lean, 'card_holds'). Laid BY PROGRAM, IN A SANDBOX (cutbox-door.mjs). By AI agents, Wed Nov 11 2026. No macro, syntax, notation, axiom, sorry.
-/
import Derived.Test.YtiafiehglfmjaaaDoorRows
import GoSem.ClaimSeven
namespace Go.Proofs.YtiafiehglfmjaaaDoor
namespace Rows

/-- THE TIED CARD OF 'laws.FnGaps'. -/
def fnGapsCard : Claim7 := { stood := { row := fnGapsRow, standIns := [], harness := (true, "b1fc2b55b35ec7d02f5e3bdcf2d3a57707cabb10f4c48814c85e063549b50158"), looks := false }, kinds := [], alts := [], laidByText := true, laidKinds := [.data, .data, .data], laidTests := true, laidLooks := .later }
def FnGapsCardSaid : Prop := Claim7.holds Tryd.pinned (.plain (OpenSpec.ofChange fnGapsSpec)) fnGapsCard

/-- THE SECOND FORM's CARD OF 'laws.FnGaps'. -/
def fnGapsUptoCard : Claim7 := { stood := { row := fnGapsUptoRow, standIns := [], harness := (true, "b1fc2b55b35ec7d02f5e3bdcf2d3a57707cabb10f4c48814c85e063549b50158"), looks := false }, kinds := [], alts := [], laidByText := true, laidKinds := [.data, .data, .data], laidTests := true, laidLooks := .later }
def FnGapsUptoCardSaid : Prop := Claim7.holds Tryd.pinned (.plain (OpenSpec.upto fnGapsSpec)) fnGapsUptoCard
end Rows
end Go.Proofs.YtiafiehglfmjaaaDoor
