/-
  DERIVED. GIVEN WITH THE SEED: THE CARDS: each row of YtnaehlglpaadhaaDoorRows.lean that lists a variable, with what it lists TIED to the program's text (the seventh form; the later family's looks); each row that meets fmt, with fmt's text TOLD by the authors' own Lean function (tested against real Go, not proved from fmt's source: count such statements apart). THE CARD IS WHAT COUNTS. Prove the row's statement (the work); the ties are given (YtnaehlglpaadhaaDoorTie.lean); close each card by the builder's one call (the guide's Derived/Test/ToyasCard.lean, 'card_holds'). Laid BY PROGRAM, IN A SANDBOX (cutbox-door.mjs). By AI agents, Wed Nov 11 2026. No macro, syntax, notation, axiom, sorry.
-/
import Derived.Test.YtnaehlglpaadhaaDoorRows
import GoSem.ClaimSeven
namespace Go.Proofs.YtnaehlglpaadhaaDoor
namespace Rows

/-- THE TIED CARD OF 'laws.FnTreaties'. -/
def fnTreatiesCard : Claim7 := { stood := { row := fnTreatiesRow, standIns := [], harness := (true, "007e49079d6f55d758e768c8933b4d276d68bdd63ce60efe73564de7f71b3763"), looks := false }, kinds := [], alts := [], laidByText := true, laidKinds := [.data, .data, .data], laidTests := true, laidLooks := .later }
def FnTreatiesCardSaid : Prop := Claim7.holds Tryd.pinned (.plain (OpenSpec.ofChange fnTreatiesSpec)) fnTreatiesCard

/-- THE SECOND FORM's CARD OF 'laws.FnTreaties'. -/
def fnTreatiesUptoCard : Claim7 := { stood := { row := fnTreatiesUptoRow, standIns := [], harness := (true, "007e49079d6f55d758e768c8933b4d276d68bdd63ce60efe73564de7f71b3763"), looks := false }, kinds := [], alts := [], laidByText := true, laidKinds := [.data, .data, .data], laidTests := true, laidLooks := .later }
def FnTreatiesUptoCardSaid : Prop := Claim7.holds Tryd.pinned (.plain (OpenSpec.upto fnTreatiesSpec)) fnTreatiesUptoCard
end Rows
end Go.Proofs.YtnaehlglpaadhaaDoor
