/-
  DERIVED. GIVEN WITH THE SEED: THE CARDS: each row of YtoijpemmcnmbeaaDoorRows.lean that lists a variable, with what it lists TIED to the program's text (the seventh form; the later family's looks); each row that meets fmt, with fmt's text TOLD by the authors' own Lean function (tested against real Go, not proved from fmt's source: count such statements apart). THE CARD IS WHAT COUNTS. Prove the row's statement (the work); the ties are given (YtoijpemmcnmbeaaDoorTie.lean); close each card by the builder's one call (the guide's Derived/Test/ToyasCard.lean, 'card_holds'). Laid BY PROGRAM, IN A SANDBOX (cutbox-door.mjs). By AI agents, Wed Nov 11 2026. No macro, syntax, notation, axiom, sorry.
-/
import Derived.Test.YtoijpemmcnmbeaaDoorRows
import GoSem.ClaimSeven
namespace Go.Proofs.YtoijpemmcnmbeaaDoor
namespace Rows

/-- THE TIED CARD OF 'laws.FnExactSaleText'. -/
def fnExactSaleTextCard : Claim7 := { stood := { row := fnExactSaleTextRow, standIns := [], harness := (true, "4f53572d95a6d67cfd64f33ed1a6618ee4c6a95f24b6b5553a9f30a4174d48f3"), looks := false }, kinds := [], alts := [], laidByText := true, laidKinds := [.data, .data, .data], laidTests := true, laidLooks := .later }
def FnExactSaleTextCardSaid : Prop := Claim7.holds Tryd.pinned (.plain (OpenSpec.ofChange fnExactSaleTextSpec)) fnExactSaleTextCard

/-- THE SECOND FORM's CARD OF 'laws.FnExactSaleText'. -/
def fnExactSaleTextUptoCard : Claim7 := { stood := { row := fnExactSaleTextUptoRow, standIns := [], harness := (true, "4f53572d95a6d67cfd64f33ed1a6618ee4c6a95f24b6b5553a9f30a4174d48f3"), looks := false }, kinds := [], alts := [], laidByText := true, laidKinds := [.data, .data, .data], laidTests := true, laidLooks := .later }
def FnExactSaleTextUptoCardSaid : Prop := Claim7.holds Tryd.pinned (.plain (OpenSpec.upto fnExactSaleTextSpec)) fnExactSaleTextUptoCard
end Rows
end Go.Proofs.YtoijpemmcnmbeaaDoor
