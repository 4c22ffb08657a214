/-
  DERIVED. GIVEN WITH THE SEED: THE CARDS: each row of YtjgpppcjhneibaaGreatDoorRows.lean that lists a variable, with what it lists TIED to the program's text (the seventh form; the later family's looks); each row that meets fmt, with fmt's text TOLD by the authors' own Lean function (tested against real Go, not proved from fmt's source: count such statements apart). THE CARD IS WHAT COUNTS. Prove the row's statement (the work); the ties are given (YtjgpppcjhneibaaGreatDoorTie.lean); close each card by the builder's one call (the guide's Derived/Test/ToyasCard.lean, 'card_holds'). Laid BY PROGRAM, IN A SANDBOX (cutbox-door.mjs). By AI agents, Wed Nov 11 2026. No macro, syntax, notation, axiom, sorry.
-/
import Derived.Test.YtjgpppcjhneibaaGreatDoorRows
import GoSem.ClaimSeven
namespace Go.Proofs.YtjgpppcjhneibaaGreatDoor
namespace Rows

/-- THE TIED CARD OF 'laws.FnExactReadYard'. -/
def fnExactReadYardCard : Claim7 := { stood := { row := fnExactReadYardRow, standIns := [], harness := (true, "9b3025ef7551c30abc19aad9e16cf0fafc69284a492c6ace2d25898d69b5995b"), looks := true }, kinds := [], alts := [], laidByText := true, laidKinds := [.data, .data, .data, .data, .sentinel, .sentinel, .pinned], laidTests := true, laidLooks := .later }
def FnExactReadYardCardSaid : Prop := Claim7.holds Tryz.pinned (.plain (OpenSpec.ofChange fnExactReadYardSpec)) fnExactReadYardCard

/-- THE TIED CARD OF 'laws.FnYards'. -/
def fnYardsCard : Claim7 := { stood := { row := fnYardsRow, standIns := [], harness := (true, "9b3025ef7551c30abc19aad9e16cf0fafc69284a492c6ace2d25898d69b5995b"), looks := true }, kinds := [], alts := [], laidByText := true, laidKinds := [.data, .data, .data, .data, .sentinel, .sentinel, .pinned], laidTests := true, laidLooks := .later }
def FnYardsCardSaid : Prop := Claim7.holds Tryz.pinned (.plain (OpenSpec.ofChange fnYardsSpec)) fnYardsCard

/-- THE SECOND FORM's CARD OF 'laws.FnExactReadYard'. -/
def fnExactReadYardUptoCard : Claim7 := { stood := { row := fnExactReadYardUptoRow, standIns := [], harness := (true, "9b3025ef7551c30abc19aad9e16cf0fafc69284a492c6ace2d25898d69b5995b"), looks := true }, kinds := [], alts := [], laidByText := true, laidKinds := [.data, .data, .data, .data, .sentinel, .sentinel, .pinned], laidTests := true, laidLooks := .later }
def FnExactReadYardUptoCardSaid : Prop := Claim7.holds Tryz.pinned (.plain (OpenSpec.upto fnExactReadYardSpec)) fnExactReadYardUptoCard

/-- THE SECOND FORM's CARD OF 'laws.FnYards'. -/
def fnYardsUptoCard : Claim7 := { stood := { row := fnYardsUptoRow, standIns := [], harness := (true, "9b3025ef7551c30abc19aad9e16cf0fafc69284a492c6ace2d25898d69b5995b"), looks := true }, kinds := [], alts := [], laidByText := true, laidKinds := [.data, .data, .data, .data, .sentinel, .sentinel, .pinned], laidTests := true, laidLooks := .later }
def FnYardsUptoCardSaid : Prop := Claim7.holds Tryz.pinned (.plain (OpenSpec.upto fnYardsSpec)) fnYardsUptoCard
end Rows
end Go.Proofs.YtjgpppcjhneibaaGreatDoor
