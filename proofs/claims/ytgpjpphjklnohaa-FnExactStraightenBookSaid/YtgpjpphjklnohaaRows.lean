/-
  No cell of these rows narrows 'for every input' (looked for: loops, veiled, ifaces, maps, wideKeys, modest, calm, conditions, laid).
  DERIVED. THE GIVEN ROWS OF THIS SEAT. 12 by the template 'for every input the law returns true; each argument reads behind the call as it read before'; 0 by the template 'total and deterministic' (their statements: YtgpjpphjklnohaaTotals.lean).
  GIVEN WITH THE SEED: the statements are not yours to turn. If you find one false, say at which input.
  Laid BY PROGRAM, IN A SANDBOX (cutbox-rows.mjs): the forced cells as the released guide's own fill.sh prints them over the translation 8002ca1c7250fbab… (all of the seat's roots in one cut). By AI agents, Wed Nov 11 2026. No macro, syntax, notation, axiom, sorry.
-/
import Derived.Test.YtgpjpphjklnohaaChecked
import GoSem.Claim
import GoSem.ClaimJoined
import GoSem.ClaimMapViews
import Derived.JoinedTies
import Derived.KernelRfl
namespace Go.Proofs.Ytgpjpphjklnohaa
/- THE CELL 'sum', in the pinned program and in every row, IS THE sha256 OF THE DUMP (.gsa) THAT YtgpjpphjklnohaaProg.lean LOADS. Nothing in Lean hashes anything: it is a label: what it is worth is what the hold of that sum in a sandbox is worth. -/
noncomputable def Try.pinned : Pinned := { name := "ytgpjpphjklnohaa", sum := "8002ca1c7250fbab0018215dc875fb1801754d44c51b50900e6def2965af3d41", checked := Try.checked }
namespace Rows
def none {H : Type} : Left H := { results := [], args := [] }

/-- 'laws.FnExactIsStockBook': WHATEVER THE INPUT: true; the input reads as it did. -/
def fnExactIsStockBookSpec : ChangeSpec := { name := "fnExactIsStockBook", fn := fun _ => fun
  | [d] => { results := [.lit (.bool true)], args := [d] }
  | _ => none }
def fnExactIsStockBookRow : OpenClaim := { program := "ytgpjpphjklnohaa", sum := "8002ca1c7250fbab0018215dc875fb1801754d44c51b50900e6def2965af3d41", func := "loop.example/g01062/laws.FnExactIsStockBook", spec := "fnExactIsStockBook", unfollowed := true, recurses := true, apart := false }
def FnExactIsStockBookSaid : Prop := fnExactIsStockBookRow.holds Try.pinned (OpenSpec.ofChange fnExactIsStockBookSpec)

/-- ITS FALSE NEIGHBOUR: 'it returns false'. Refute it at one input. -/
def fnExactIsStockBookWrong : ChangeSpec := { name := "fnExactIsStockBook", fn := fun _ => fun
  | [d] => { results := [.lit (.bool false)], args := [d] }
  | _ => none }
def FnExactIsStockBookWrongFalsely : Prop := fnExactIsStockBookRow.holds Try.pinned (OpenSpec.ofChange fnExactIsStockBookWrong)

/-- 'laws.FnExactRestOf': WHATEVER THE INPUT: true; the input reads as it did. -/
def fnExactRestOfSpec : ChangeSpec := { name := "fnExactRestOf", fn := fun _ => fun
  | [d1, d2] => { results := [.lit (.bool true)], args := [d1, d2] }
  | _ => none }
def fnExactRestOfRow : OpenClaim := { program := "ytgpjpphjklnohaa", sum := "8002ca1c7250fbab0018215dc875fb1801754d44c51b50900e6def2965af3d41", func := "loop.example/g01062/laws.FnExactRestOf", spec := "fnExactRestOf", unfollowed := true, recurses := true, apart := false }
def FnExactRestOfSaid : Prop := fnExactRestOfRow.holds Try.pinned (OpenSpec.ofChange fnExactRestOfSpec)

/-- ITS FALSE NEIGHBOUR: 'it returns false'. Refute it at one input. -/
def fnExactRestOfWrong : ChangeSpec := { name := "fnExactRestOf", fn := fun _ => fun
  | [d1, d2] => { results := [.lit (.bool false)], args := [d1, d2] }
  | _ => none }
def FnExactRestOfWrongFalsely : Prop := fnExactRestOfRow.holds Try.pinned (OpenSpec.ofChange fnExactRestOfWrong)

/-- 'laws.FnExactTightStrip': WHATEVER THE INPUT: true; the input reads as it did. -/
def fnExactTightStripSpec : ChangeSpec := { name := "fnExactTightStrip", fn := fun _ => fun
  | [d1, d2] => { results := [.lit (.bool true)], args := [d1, d2] }
  | _ => none }
def fnExactTightStripRow : OpenClaim := { program := "ytgpjpphjklnohaa", sum := "8002ca1c7250fbab0018215dc875fb1801754d44c51b50900e6def2965af3d41", func := "loop.example/g01062/laws.FnExactTightStrip", spec := "fnExactTightStrip", unfollowed := true, recurses := true, apart := false }
def FnExactTightStripSaid : Prop := fnExactTightStripRow.holds Try.pinned (OpenSpec.ofChange fnExactTightStripSpec)

/-- ITS FALSE NEIGHBOUR: 'it returns false'. Refute it at one input. -/
def fnExactTightStripWrong : ChangeSpec := { name := "fnExactTightStrip", fn := fun _ => fun
  | [d1, d2] => { results := [.lit (.bool false)], args := [d1, d2] }
  | _ => none }
def FnExactTightStripWrongFalsely : Prop := fnExactTightStripRow.holds Try.pinned (OpenSpec.ofChange fnExactTightStripWrong)

/-- 'laws.FnExactStampAt': WHATEVER THE INPUT: true; the input reads as it did. -/
def fnExactStampAtSpec : ChangeSpec := { name := "fnExactStampAt", fn := fun _ => fun
  | [d1, d2, d3] => { results := [.lit (.bool true)], args := [d1, d2, d3] }
  | _ => none }
def fnExactStampAtRow : OpenClaim := { program := "ytgpjpphjklnohaa", sum := "8002ca1c7250fbab0018215dc875fb1801754d44c51b50900e6def2965af3d41", func := "loop.example/g01062/laws.FnExactStampAt", spec := "fnExactStampAt", unfollowed := true, recurses := true, apart := false }
def FnExactStampAtSaid : Prop := fnExactStampAtRow.holds Try.pinned (OpenSpec.ofChange fnExactStampAtSpec)

/-- ITS FALSE NEIGHBOUR: 'it returns false'. Refute it at one input. -/
def fnExactStampAtWrong : ChangeSpec := { name := "fnExactStampAt", fn := fun _ => fun
  | [d1, d2, d3] => { results := [.lit (.bool false)], args := [d1, d2, d3] }
  | _ => none }
def FnExactStampAtWrongFalsely : Prop := fnExactStampAtRow.holds Try.pinned (OpenSpec.ofChange fnExactStampAtWrong)

/-- 'laws.FnExactSwapStrips': WHATEVER THE INPUT: true; the input reads as it did. -/
def fnExactSwapStripsSpec : ChangeSpec := { name := "fnExactSwapStrips", fn := fun _ => fun
  | [d1, d2, d3] => { results := [.lit (.bool true)], args := [d1, d2, d3] }
  | _ => none }
def fnExactSwapStripsRow : OpenClaim := { program := "ytgpjpphjklnohaa", sum := "8002ca1c7250fbab0018215dc875fb1801754d44c51b50900e6def2965af3d41", func := "loop.example/g01062/laws.FnExactSwapStrips", spec := "fnExactSwapStrips", unfollowed := true, recurses := true, apart := false }
def FnExactSwapStripsSaid : Prop := fnExactSwapStripsRow.holds Try.pinned (OpenSpec.ofChange fnExactSwapStripsSpec)

/-- ITS FALSE NEIGHBOUR: 'it returns false'. Refute it at one input. -/
def fnExactSwapStripsWrong : ChangeSpec := { name := "fnExactSwapStrips", fn := fun _ => fun
  | [d1, d2, d3] => { results := [.lit (.bool false)], args := [d1, d2, d3] }
  | _ => none }
def FnExactSwapStripsWrongFalsely : Prop := fnExactSwapStripsRow.holds Try.pinned (OpenSpec.ofChange fnExactSwapStripsWrong)

/-- 'laws.FnExactRemoveStamp': WHATEVER THE INPUT: true; the input reads as it did. -/
def fnExactRemoveStampSpec : ChangeSpec := { name := "fnExactRemoveStamp", fn := fun _ => fun
  | [d1, d2, d3] => { results := [.lit (.bool true)], args := [d1, d2, d3] }
  | _ => none }
def fnExactRemoveStampRow : OpenClaim := { program := "ytgpjpphjklnohaa", sum := "8002ca1c7250fbab0018215dc875fb1801754d44c51b50900e6def2965af3d41", func := "loop.example/g01062/laws.FnExactRemoveStamp", spec := "fnExactRemoveStamp", unfollowed := true, recurses := true, apart := false }
def FnExactRemoveStampSaid : Prop := fnExactRemoveStampRow.holds Try.pinned (OpenSpec.ofChange fnExactRemoveStampSpec)

/-- ITS FALSE NEIGHBOUR: 'it returns false'. Refute it at one input. -/
def fnExactRemoveStampWrong : ChangeSpec := { name := "fnExactRemoveStamp", fn := fun _ => fun
  | [d1, d2, d3] => { results := [.lit (.bool false)], args := [d1, d2, d3] }
  | _ => none }
def FnExactRemoveStampWrongFalsely : Prop := fnExactRemoveStampRow.holds Try.pinned (OpenSpec.ofChange fnExactRemoveStampWrong)

/-- 'laws.FnExactWhereIs': WHATEVER THE INPUT: true; the input reads as it did. -/
def fnExactWhereIsSpec : ChangeSpec := { name := "fnExactWhereIs", fn := fun _ => fun
  | [d1, d2, d3] => { results := [.lit (.bool true)], args := [d1, d2, d3] }
  | _ => none }
def fnExactWhereIsRow : OpenClaim := { program := "ytgpjpphjklnohaa", sum := "8002ca1c7250fbab0018215dc875fb1801754d44c51b50900e6def2965af3d41", func := "loop.example/g01062/laws.FnExactWhereIs", spec := "fnExactWhereIs", apart := false }
def FnExactWhereIsSaid : Prop := fnExactWhereIsRow.holds Try.pinned (OpenSpec.ofChange fnExactWhereIsSpec)

/-- ITS FALSE NEIGHBOUR: 'it returns false'. Refute it at one input. -/
def fnExactWhereIsWrong : ChangeSpec := { name := "fnExactWhereIs", fn := fun _ => fun
  | [d1, d2, d3] => { results := [.lit (.bool false)], args := [d1, d2, d3] }
  | _ => none }
def FnExactWhereIsWrongFalsely : Prop := fnExactWhereIsRow.holds Try.pinned (OpenSpec.ofChange fnExactWhereIsWrong)

/-- 'laws.FnExactFillBook': WHATEVER THE INPUT: true; the input reads as it did. -/
def fnExactFillBookSpec : ChangeSpec := { name := "fnExactFillBook", fn := fun _ => fun
  | [d1, d2] => { results := [.lit (.bool true)], args := [d1, d2] }
  | _ => none }
def fnExactFillBookRow : OpenClaim := { program := "ytgpjpphjklnohaa", sum := "8002ca1c7250fbab0018215dc875fb1801754d44c51b50900e6def2965af3d41", func := "loop.example/g01062/laws.FnExactFillBook", spec := "fnExactFillBook", unfollowed := true, recurses := true, apart := false }
def FnExactFillBookSaid : Prop := fnExactFillBookRow.holds Try.pinned (OpenSpec.ofChange fnExactFillBookSpec)

/-- ITS FALSE NEIGHBOUR: 'it returns false'. Refute it at one input. -/
def fnExactFillBookWrong : ChangeSpec := { name := "fnExactFillBook", fn := fun _ => fun
  | [d1, d2] => { results := [.lit (.bool false)], args := [d1, d2] }
  | _ => none }
def FnExactFillBookWrongFalsely : Prop := fnExactFillBookRow.holds Try.pinned (OpenSpec.ofChange fnExactFillBookWrong)

/-- 'laws.FnExactInsertStamp': WHATEVER THE INPUT: true; the input reads as it did. -/
def fnExactInsertStampSpec : ChangeSpec := { name := "fnExactInsertStamp", fn := fun _ => fun
  | [d1, d2, d3, d4] => { results := [.lit (.bool true)], args := [d1, d2, d3, d4] }
  | _ => none }
def fnExactInsertStampRow : OpenClaim := { program := "ytgpjpphjklnohaa", sum := "8002ca1c7250fbab0018215dc875fb1801754d44c51b50900e6def2965af3d41", func := "loop.example/g01062/laws.FnExactInsertStamp", spec := "fnExactInsertStamp", inPlace := ["slices.overlaps[int]"], unfollowed := true, recurses := true, apart := false }
def FnExactInsertStampSaid : Prop := fnExactInsertStampRow.holds Try.pinned (OpenSpec.ofChange fnExactInsertStampSpec)

/-- ITS FALSE NEIGHBOUR: 'it returns false'. Refute it at one input. -/
def fnExactInsertStampWrong : ChangeSpec := { name := "fnExactInsertStamp", fn := fun _ => fun
  | [d1, d2, d3, d4] => { results := [.lit (.bool false)], args := [d1, d2, d3, d4] }
  | _ => none }
def FnExactInsertStampWrongFalsely : Prop := fnExactInsertStampRow.holds Try.pinned (OpenSpec.ofChange fnExactInsertStampWrong)

/-- 'laws.FnBooks': WHATEVER THE INPUT: true; the input reads as it did. -/
def fnBooksSpec : ChangeSpec := { name := "fnBooks", fn := fun _ => fun
  | [d] => { results := [.lit (.bool true)], args := [d] }
  | _ => none }
def fnBooksRow : OpenClaim := { program := "ytgpjpphjklnohaa", sum := "8002ca1c7250fbab0018215dc875fb1801754d44c51b50900e6def2965af3d41", func := "loop.example/g01062/laws.FnBooks", spec := "fnBooks", inPlace := ["slices.overlaps[int]"], unfollowed := true, recurses := true, apart := false }
def FnBooksSaid : Prop := fnBooksRow.holds Try.pinned (OpenSpec.ofChange fnBooksSpec)

/-- ITS FALSE NEIGHBOUR: 'it returns false'. Refute it at one input. -/
def fnBooksWrong : ChangeSpec := { name := "fnBooks", fn := fun _ => fun
  | [d] => { results := [.lit (.bool false)], args := [d] }
  | _ => none }
def FnBooksWrongFalsely : Prop := fnBooksRow.holds Try.pinned (OpenSpec.ofChange fnBooksWrong)

/-- 'laws.FnExactStraightenBook': WHATEVER THE INPUT: true; the input reads as it did. -/
def fnExactStraightenBookSpec : ChangeSpec := { name := "fnExactStraightenBook", fn := fun _ => fun
  | [d] => { results := [.lit (.bool true)], args := [d] }
  | _ => none }
def fnExactStraightenBookRow : OpenClaim := { program := "ytgpjpphjklnohaa", sum := "8002ca1c7250fbab0018215dc875fb1801754d44c51b50900e6def2965af3d41", func := "loop.example/g01062/laws.FnExactStraightenBook", spec := "fnExactStraightenBook", unfollowed := true, recurses := true, apart := false }
def FnExactStraightenBookSaid : Prop := fnExactStraightenBookRow.holds Try.pinned (OpenSpec.ofChange fnExactStraightenBookSpec)

/-- ITS FALSE NEIGHBOUR: 'it returns false'. Refute it at one input. -/
def fnExactStraightenBookWrong : ChangeSpec := { name := "fnExactStraightenBook", fn := fun _ => fun
  | [d] => { results := [.lit (.bool false)], args := [d] }
  | _ => none }
def FnExactStraightenBookWrongFalsely : Prop := fnExactStraightenBookRow.holds Try.pinned (OpenSpec.ofChange fnExactStraightenBookWrong)

/-- 'laws.FnExactStartsOf': WHATEVER THE INPUT: true; the input reads as it did. -/
def fnExactStartsOfSpec : ChangeSpec := { name := "fnExactStartsOf", fn := fun _ => fun
  | [d1, d2] => { results := [.lit (.bool true)], args := [d1, d2] }
  | _ => none }
def fnExactStartsOfRow : OpenClaim := { program := "ytgpjpphjklnohaa", sum := "8002ca1c7250fbab0018215dc875fb1801754d44c51b50900e6def2965af3d41", func := "loop.example/g01062/laws.FnExactStartsOf", spec := "fnExactStartsOf", unfollowed := true, recurses := true, apart := false }
def FnExactStartsOfSaid : Prop := fnExactStartsOfRow.holds Try.pinned (OpenSpec.ofChange fnExactStartsOfSpec)

/-- ITS FALSE NEIGHBOUR: 'it returns false'. Refute it at one input. -/
def fnExactStartsOfWrong : ChangeSpec := { name := "fnExactStartsOf", fn := fun _ => fun
  | [d1, d2] => { results := [.lit (.bool false)], args := [d1, d2] }
  | _ => none }
def FnExactStartsOfWrongFalsely : Prop := fnExactStartsOfRow.holds Try.pinned (OpenSpec.ofChange fnExactStartsOfWrong)

/- THE SECOND FORM. 'bulk': how many values and letters a reading holds, each counted each time it is reached (what is shared counts as often as it is met; a slice's spare places count too). A statement '..UptoSaid' is the law's where the arguments, and the package variables that the reading takes, are together of bulk at most 1048576: NARROWER than '..Said'. Prove '..Said' where nothing that the law and all that it calls make is longer than what came in: it says more and counts as full. Else prove '..UptoSaid'. A law counts once. -/
mutual
def uptoBulk {H : Type} : DataW H → Nat
  | .lit (.string bytes) => bytes.length + 1
  | .lit _ => 1
  | .nil => 1
  | .ptr d => uptoBulk d + 1
  | .slice elems spare => uptoBulkAll elems + uptoBulkAll spare + 1
  | .agg parts => uptoBulkAll parts + 1
  | .iface _ d => uptoBulk d + 1
  | .map entries => uptoBulkEntries entries + 1
  | .held _ => 1
def uptoBulkAll {H : Type} : List (DataW H) → Nat
  | [] => 0
  | d :: r => uptoBulk d + uptoBulkAll r
def uptoBulkEntries {H : Type} : List (Lit × DataW H) → Nat
  | [] => 0
  | x :: r => uptoBulkEntry x + uptoBulkEntries r
def uptoBulkEntry {H : Type} : Lit × DataW H → Nat
  | (.string bytes, d) => bytes.length + uptoBulk d + 1
  | (_, d) => uptoBulk d + 1
 end
def uptoSmall : (H : Type) → List (DataW H) → Bool := fun _ ds => decide (uptoBulkAll ds ≤ 1048576)
def OpenSpec.upto (s : _root_.Go.ChangeSpec) : _root_.Go.OpenSpec := { _root_.Go.OpenSpec.ofChange s with cond := some uptoSmall }

/-- 'laws.FnExactIsStockBook', WHERE WHAT IT READS IS OF BULK AT MOST 1048576: true; the input reads as it did. -/
def fnExactIsStockBookUptoRow : OpenClaim := { program := "ytgpjpphjklnohaa", sum := "8002ca1c7250fbab0018215dc875fb1801754d44c51b50900e6def2965af3d41", func := "loop.example/g01062/laws.FnExactIsStockBook", spec := "fnExactIsStockBook", unfollowed := true, recurses := true, apart := false, narrowed := true }
def FnExactIsStockBookUptoSaid : Prop := fnExactIsStockBookUptoRow.holds Try.pinned (OpenSpec.upto fnExactIsStockBookSpec)

/-- 'laws.FnExactRestOf', WHERE WHAT IT READS IS OF BULK AT MOST 1048576: true; the input reads as it did. -/
def fnExactRestOfUptoRow : OpenClaim := { program := "ytgpjpphjklnohaa", sum := "8002ca1c7250fbab0018215dc875fb1801754d44c51b50900e6def2965af3d41", func := "loop.example/g01062/laws.FnExactRestOf", spec := "fnExactRestOf", unfollowed := true, recurses := true, apart := false, narrowed := true }
def FnExactRestOfUptoSaid : Prop := fnExactRestOfUptoRow.holds Try.pinned (OpenSpec.upto fnExactRestOfSpec)

/-- 'laws.FnExactTightStrip', WHERE WHAT IT READS IS OF BULK AT MOST 1048576: true; the input reads as it did. -/
def fnExactTightStripUptoRow : OpenClaim := { program := "ytgpjpphjklnohaa", sum := "8002ca1c7250fbab0018215dc875fb1801754d44c51b50900e6def2965af3d41", func := "loop.example/g01062/laws.FnExactTightStrip", spec := "fnExactTightStrip", unfollowed := true, recurses := true, apart := false, narrowed := true }
def FnExactTightStripUptoSaid : Prop := fnExactTightStripUptoRow.holds Try.pinned (OpenSpec.upto fnExactTightStripSpec)

/-- 'laws.FnExactStampAt', WHERE WHAT IT READS IS OF BULK AT MOST 1048576: true; the input reads as it did. -/
def fnExactStampAtUptoRow : OpenClaim := { program := "ytgpjpphjklnohaa", sum := "8002ca1c7250fbab0018215dc875fb1801754d44c51b50900e6def2965af3d41", func := "loop.example/g01062/laws.FnExactStampAt", spec := "fnExactStampAt", unfollowed := true, recurses := true, apart := false, narrowed := true }
def FnExactStampAtUptoSaid : Prop := fnExactStampAtUptoRow.holds Try.pinned (OpenSpec.upto fnExactStampAtSpec)

/-- 'laws.FnExactSwapStrips', WHERE WHAT IT READS IS OF BULK AT MOST 1048576: true; the input reads as it did. -/
def fnExactSwapStripsUptoRow : OpenClaim := { program := "ytgpjpphjklnohaa", sum := "8002ca1c7250fbab0018215dc875fb1801754d44c51b50900e6def2965af3d41", func := "loop.example/g01062/laws.FnExactSwapStrips", spec := "fnExactSwapStrips", unfollowed := true, recurses := true, apart := false, narrowed := true }
def FnExactSwapStripsUptoSaid : Prop := fnExactSwapStripsUptoRow.holds Try.pinned (OpenSpec.upto fnExactSwapStripsSpec)

/-- 'laws.FnExactRemoveStamp', WHERE WHAT IT READS IS OF BULK AT MOST 1048576: true; the input reads as it did. -/
def fnExactRemoveStampUptoRow : OpenClaim := { program := "ytgpjpphjklnohaa", sum := "8002ca1c7250fbab0018215dc875fb1801754d44c51b50900e6def2965af3d41", func := "loop.example/g01062/laws.FnExactRemoveStamp", spec := "fnExactRemoveStamp", unfollowed := true, recurses := true, apart := false, narrowed := true }
def FnExactRemoveStampUptoSaid : Prop := fnExactRemoveStampUptoRow.holds Try.pinned (OpenSpec.upto fnExactRemoveStampSpec)

/-- 'laws.FnExactWhereIs', WHERE WHAT IT READS IS OF BULK AT MOST 1048576: true; the input reads as it did. -/
def fnExactWhereIsUptoRow : OpenClaim := { program := "ytgpjpphjklnohaa", sum := "8002ca1c7250fbab0018215dc875fb1801754d44c51b50900e6def2965af3d41", func := "loop.example/g01062/laws.FnExactWhereIs", spec := "fnExactWhereIs", apart := false, narrowed := true }
def FnExactWhereIsUptoSaid : Prop := fnExactWhereIsUptoRow.holds Try.pinned (OpenSpec.upto fnExactWhereIsSpec)

/-- 'laws.FnExactFillBook', WHERE WHAT IT READS IS OF BULK AT MOST 1048576: true; the input reads as it did. -/
def fnExactFillBookUptoRow : OpenClaim := { program := "ytgpjpphjklnohaa", sum := "8002ca1c7250fbab0018215dc875fb1801754d44c51b50900e6def2965af3d41", func := "loop.example/g01062/laws.FnExactFillBook", spec := "fnExactFillBook", unfollowed := true, recurses := true, apart := false, narrowed := true }
def FnExactFillBookUptoSaid : Prop := fnExactFillBookUptoRow.holds Try.pinned (OpenSpec.upto fnExactFillBookSpec)

/-- 'laws.FnExactInsertStamp', WHERE WHAT IT READS IS OF BULK AT MOST 1048576: true; the input reads as it did. -/
def fnExactInsertStampUptoRow : OpenClaim := { program := "ytgpjpphjklnohaa", sum := "8002ca1c7250fbab0018215dc875fb1801754d44c51b50900e6def2965af3d41", func := "loop.example/g01062/laws.FnExactInsertStamp", spec := "fnExactInsertStamp", inPlace := ["slices.overlaps[int]"], unfollowed := true, recurses := true, apart := false, narrowed := true }
def FnExactInsertStampUptoSaid : Prop := fnExactInsertStampUptoRow.holds Try.pinned (OpenSpec.upto fnExactInsertStampSpec)

/-- 'laws.FnBooks', WHERE WHAT IT READS IS OF BULK AT MOST 1048576: true; the input reads as it did. -/
def fnBooksUptoRow : OpenClaim := { program := "ytgpjpphjklnohaa", sum := "8002ca1c7250fbab0018215dc875fb1801754d44c51b50900e6def2965af3d41", func := "loop.example/g01062/laws.FnBooks", spec := "fnBooks", inPlace := ["slices.overlaps[int]"], unfollowed := true, recurses := true, apart := false, narrowed := true }
def FnBooksUptoSaid : Prop := fnBooksUptoRow.holds Try.pinned (OpenSpec.upto fnBooksSpec)

/-- 'laws.FnExactStraightenBook', WHERE WHAT IT READS IS OF BULK AT MOST 1048576: true; the input reads as it did. -/
def fnExactStraightenBookUptoRow : OpenClaim := { program := "ytgpjpphjklnohaa", sum := "8002ca1c7250fbab0018215dc875fb1801754d44c51b50900e6def2965af3d41", func := "loop.example/g01062/laws.FnExactStraightenBook", spec := "fnExactStraightenBook", unfollowed := true, recurses := true, apart := false, narrowed := true }
def FnExactStraightenBookUptoSaid : Prop := fnExactStraightenBookUptoRow.holds Try.pinned (OpenSpec.upto fnExactStraightenBookSpec)

/-- 'laws.FnExactStartsOf', WHERE WHAT IT READS IS OF BULK AT MOST 1048576: true; the input reads as it did. -/
def fnExactStartsOfUptoRow : OpenClaim := { program := "ytgpjpphjklnohaa", sum := "8002ca1c7250fbab0018215dc875fb1801754d44c51b50900e6def2965af3d41", func := "loop.example/g01062/laws.FnExactStartsOf", spec := "fnExactStartsOf", unfollowed := true, recurses := true, apart := false, narrowed := true }
def FnExactStartsOfUptoSaid : Prop := fnExactStartsOfUptoRow.holds Try.pinned (OpenSpec.upto fnExactStartsOfSpec)

end Rows
end Go.Proofs.Ytgpjpphjklnohaa
