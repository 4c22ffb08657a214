/-
  DERIVED. GIVEN WITH THE SEED: THE CARDS: each row of YtehmghlhljocbaaGreatDoorRows.lean that lists a variable, with what it lists TIED to the program's text (the seventh form; the later family's looks); each row that meets fmt, with fmt's text TOLD by the authors' own Lean function (tested against real Go, not proved from fmt's source: count such statements apart). THE CARD IS WHAT COUNTS. Prove the row's statement (the work); the ties are given (YtehmghlhljocbaaGreatDoorTie.lean); close each card by the builder's one call (the guide's Derived/Test/ToyasCard.lean, 'card_holds'). Laid BY PROGRAM, IN A SANDBOX (cutbox-door.mjs). By AI agents, Wed Nov 11 2026. No macro, syntax, notation, axiom, sorry.
-/
import Derived.Test.YtehmghlhljocbaaGreatDoorRows
import GoSem.ClaimSeven
namespace Go.Proofs.YtehmghlhljocbaaGreatDoor
namespace Rows

/-- THE TIED CARD OF 'laws.FnTestedBricks'. -/
def fnTestedBricksCard : Claim7 := { stood := { row := fnTestedBricksRow, standIns := [], harness := (true, "ed357e07f5deb2a0d3464c53c7868d0dee6dc8853beef407290aeaf54d7681d0"), looks := true }, kinds := [], alts := [], laidByText := true, laidKinds := [.data, .data, .data, .data, .sentinel, .sentinel, .pinned], laidTests := true, laidLooks := .later }
def FnTestedBricksCardSaid : Prop := Claim7.holds Tryz.pinned (.plain (OpenSpec.ofChange fnTestedBricksSpec)) fnTestedBricksCard

/-- THE SECOND FORM's CARD OF 'laws.FnTestedBricks'. -/
def fnTestedBricksUptoCard : Claim7 := { stood := { row := fnTestedBricksUptoRow, standIns := [], harness := (true, "ed357e07f5deb2a0d3464c53c7868d0dee6dc8853beef407290aeaf54d7681d0"), looks := true }, kinds := [], alts := [], laidByText := true, laidKinds := [.data, .data, .data, .data, .sentinel, .sentinel, .pinned], laidTests := true, laidLooks := .later }
def FnTestedBricksUptoCardSaid : Prop := Claim7.holds Tryz.pinned (.plain (OpenSpec.upto fnTestedBricksSpec)) fnTestedBricksUptoCard
end Rows
end Go.Proofs.YtehmghlhljocbaaGreatDoor
