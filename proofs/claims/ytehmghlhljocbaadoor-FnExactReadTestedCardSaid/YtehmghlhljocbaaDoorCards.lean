/-
  DERIVED. GIVEN WITH THE SEED: THE CARDS: each row of YtehmghlhljocbaaDoorRows.lean that lists a variable, with what it lists TIED to the program's text (the seventh form; the later family's looks); each row that meets fmt, with fmt's text TOLD by the authors' own Lean function (tested against real Go, not proved from fmt's source: count such statements apart). THE CARD IS WHAT COUNTS. Prove the row's statement (the work); the ties are given (YtehmghlhljocbaaDoorTie.lean); close each card by the builder's one call (the guide's Derived/Test/ToyasCard.lean, 'card_holds'). Laid BY PROGRAM, IN A SANDBOX (cutbox-door.mjs). By AI agents, Wed Nov 11 2026. No macro, syntax, notation, axiom, sorry.
-/
import Derived.Test.YtehmghlhljocbaaDoorRows
import GoSem.ClaimSeven
namespace Go.Proofs.YtehmghlhljocbaaDoor
namespace Rows

/-- THE TIED CARD OF 'laws.FnExactReadTested'. -/
def fnExactReadTestedCard : Claim7 := { stood := { row := fnExactReadTestedRow, standIns := [], harness := (true, "2f0f19a7fd4c879686341403a090ee0274046bedf2bbc2ef724013cab2a6e7db"), looks := true }, kinds := [], alts := [], laidByText := true, laidKinds := [.data, .data, .data, .data, .sentinel, .sentinel, .pinned], laidTests := true, laidLooks := .later }
def FnExactReadTestedCardSaid : Prop := Claim7.holds Tryd.pinned (.plain (OpenSpec.ofChange fnExactReadTestedSpec)) fnExactReadTestedCard

/-- THE SECOND FORM's CARD OF 'laws.FnExactReadTested'. -/
def fnExactReadTestedUptoCard : Claim7 := { stood := { row := fnExactReadTestedUptoRow, standIns := [], harness := (true, "2f0f19a7fd4c879686341403a090ee0274046bedf2bbc2ef724013cab2a6e7db"), looks := true }, kinds := [], alts := [], laidByText := true, laidKinds := [.data, .data, .data, .data, .sentinel, .sentinel, .pinned], laidTests := true, laidLooks := .later }
def FnExactReadTestedUptoCardSaid : Prop := Claim7.holds Tryd.pinned (.plain (OpenSpec.upto fnExactReadTestedSpec)) fnExactReadTestedUptoCard
end Rows
end Go.Proofs.YtehmghlhljocbaaDoor
