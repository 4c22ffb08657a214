/-
  DERIVED. GIVEN WITH THE SEED: THE CARDS: each row of YtofcmljnckdknaaDoorRows.lean that lists a variable, with what it lists TIED to the program's text (the seventh form; the later family's looks); each row that meets fmt, with fmt's text TOLD by the authors' own Lean function (tested against real Go, not proved from fmt's source: count such statements apart). THE CARD IS WHAT COUNTS. Prove the row's statement (the work); the ties are given (YtofcmljnckdknaaDoorTie.lean); close each card by the builder's one call (the guide's Derived/Test/ToyasCard.lean, 'card_holds'). Laid BY PROGRAM, IN A SANDBOX (cutbox-door.mjs). By AI agents, Wed Nov 11 2026. No macro, syntax, notation, axiom, sorry.
-/
import Derived.Test.YtofcmljnckdknaaDoorRows
import GoSem.ClaimSeven
namespace Go.Proofs.YtofcmljnckdknaaDoor
namespace Rows

/-- THE TIED CARD OF 'laws.FnGangs'. -/
def fnGangsCard : Claim7 := { stood := { row := fnGangsRow, standIns := [], harness := (true, "9fadbb4120ee79cd28965bbd1c1f846298777c0131329454995fc19f83c774e1"), looks := false }, kinds := [], alts := [], laidByText := true, laidKinds := [.data, .data, .data], laidTests := true, laidLooks := .later }
def FnGangsCardSaid : Prop := Claim7.holds Tryd.pinned (.plain (OpenSpec.ofChange fnGangsSpec)) fnGangsCard

/-- THE SECOND FORM's CARD OF 'laws.FnGangs'. -/
def fnGangsUptoCard : Claim7 := { stood := { row := fnGangsUptoRow, standIns := [], harness := (true, "9fadbb4120ee79cd28965bbd1c1f846298777c0131329454995fc19f83c774e1"), looks := false }, kinds := [], alts := [], laidByText := true, laidKinds := [.data, .data, .data], laidTests := true, laidLooks := .later }
def FnGangsUptoCardSaid : Prop := Claim7.holds Tryd.pinned (.plain (OpenSpec.upto fnGangsSpec)) fnGangsUptoCard
end Rows
end Go.Proofs.YtofcmljnckdknaaDoor
