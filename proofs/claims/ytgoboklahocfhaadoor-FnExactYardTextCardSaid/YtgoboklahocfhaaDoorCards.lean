/-
  DERIVED. GIVEN WITH THE SEED: THE CARDS: each row of YtgoboklahocfhaaDoorRows.lean that lists a variable, with what it lists TIED to the program's text (the seventh form; the later family's looks); each row that meets fmt, with fmt's text TOLD by the authors' own Lean function (tested against real Go, not proved from fmt's source: count such statements apart). THE CARD IS WHAT COUNTS. Prove the row's statement (the work); the ties are given (YtgoboklahocfhaaDoorTie.lean); close each card by the builder's one call (the guide's Derived/Test/ToyasCard.lean, 'card_holds'). Laid BY PROGRAM, IN A SANDBOX (cutbox-door.mjs). By AI agents, Wed Nov 11 2026. No macro, syntax, notation, axiom, sorry.
-/
import Derived.Test.YtgoboklahocfhaaDoorRows
import GoSem.ClaimSeven
namespace Go.Proofs.YtgoboklahocfhaaDoor
namespace Rows

/-- THE TIED CARD OF 'laws.FnExactHandText'. -/
def fnExactHandTextCard : Claim7 := { stood := { row := fnExactHandTextRow, standIns := [], harness := (true, "9170f3e0e6c0ee6c85f2c3e655a94b2e361020278eed678f6fc60e27e422dd17"), looks := false }, kinds := [], alts := [], laidByText := true, laidKinds := [.data, .data, .data], laidTests := true, laidLooks := .later }
def FnExactHandTextCardSaid : Prop := Claim7.holds Tryd.pinned (.plain (OpenSpec.ofChange fnExactHandTextSpec)) fnExactHandTextCard

/-- THE TIED CARD OF 'laws.FnExactTestedText'. -/
def fnExactTestedTextCard : Claim7 := { stood := { row := fnExactTestedTextRow, standIns := [], harness := (true, "9170f3e0e6c0ee6c85f2c3e655a94b2e361020278eed678f6fc60e27e422dd17"), looks := false }, kinds := [], alts := [], laidByText := true, laidKinds := [.data, .data, .data], laidTests := true, laidLooks := .later }
def FnExactTestedTextCardSaid : Prop := Claim7.holds Tryd.pinned (.plain (OpenSpec.ofChange fnExactTestedTextSpec)) fnExactTestedTextCard

/-- THE TIED CARD OF 'laws.FnExactScaffoldText'. -/
def fnExactScaffoldTextCard : Claim7 := { stood := { row := fnExactScaffoldTextRow, standIns := [], harness := (true, "9170f3e0e6c0ee6c85f2c3e655a94b2e361020278eed678f6fc60e27e422dd17"), looks := false }, kinds := [], alts := [], laidByText := true, laidKinds := [.data, .data, .data], laidTests := true, laidLooks := .later }
def FnExactScaffoldTextCardSaid : Prop := Claim7.holds Tryd.pinned (.plain (OpenSpec.ofChange fnExactScaffoldTextSpec)) fnExactScaffoldTextCard

/-- THE TIED CARD OF 'laws.FnExactYardText'. -/
def fnExactYardTextCard : Claim7 := { stood := { row := fnExactYardTextRow, standIns := [], harness := (true, "9170f3e0e6c0ee6c85f2c3e655a94b2e361020278eed678f6fc60e27e422dd17"), looks := false }, kinds := [], alts := [], laidByText := true, laidKinds := [.data, .data, .data], laidTests := true, laidLooks := .later }
def FnExactYardTextCardSaid : Prop := Claim7.holds Tryd.pinned (.plain (OpenSpec.ofChange fnExactYardTextSpec)) fnExactYardTextCard

/-- THE SECOND FORM's CARD OF 'laws.FnExactHandText'. -/
def fnExactHandTextUptoCard : Claim7 := { stood := { row := fnExactHandTextUptoRow, standIns := [], harness := (true, "9170f3e0e6c0ee6c85f2c3e655a94b2e361020278eed678f6fc60e27e422dd17"), looks := false }, kinds := [], alts := [], laidByText := true, laidKinds := [.data, .data, .data], laidTests := true, laidLooks := .later }
def FnExactHandTextUptoCardSaid : Prop := Claim7.holds Tryd.pinned (.plain (OpenSpec.upto fnExactHandTextSpec)) fnExactHandTextUptoCard

/-- THE SECOND FORM's CARD OF 'laws.FnExactTestedText'. -/
def fnExactTestedTextUptoCard : Claim7 := { stood := { row := fnExactTestedTextUptoRow, standIns := [], harness := (true, "9170f3e0e6c0ee6c85f2c3e655a94b2e361020278eed678f6fc60e27e422dd17"), looks := false }, kinds := [], alts := [], laidByText := true, laidKinds := [.data, .data, .data], laidTests := true, laidLooks := .later }
def FnExactTestedTextUptoCardSaid : Prop := Claim7.holds Tryd.pinned (.plain (OpenSpec.upto fnExactTestedTextSpec)) fnExactTestedTextUptoCard

/-- THE SECOND FORM's CARD OF 'laws.FnExactScaffoldText'. -/
def fnExactScaffoldTextUptoCard : Claim7 := { stood := { row := fnExactScaffoldTextUptoRow, standIns := [], harness := (true, "9170f3e0e6c0ee6c85f2c3e655a94b2e361020278eed678f6fc60e27e422dd17"), looks := false }, kinds := [], alts := [], laidByText := true, laidKinds := [.data, .data, .data], laidTests := true, laidLooks := .later }
def FnExactScaffoldTextUptoCardSaid : Prop := Claim7.holds Tryd.pinned (.plain (OpenSpec.upto fnExactScaffoldTextSpec)) fnExactScaffoldTextUptoCard

/-- THE SECOND FORM's CARD OF 'laws.FnExactYardText'. -/
def fnExactYardTextUptoCard : Claim7 := { stood := { row := fnExactYardTextUptoRow, standIns := [], harness := (true, "9170f3e0e6c0ee6c85f2c3e655a94b2e361020278eed678f6fc60e27e422dd17"), looks := false }, kinds := [], alts := [], laidByText := true, laidKinds := [.data, .data, .data], laidTests := true, laidLooks := .later }
def FnExactYardTextUptoCardSaid : Prop := Claim7.holds Tryd.pinned (.plain (OpenSpec.upto fnExactYardTextSpec)) fnExactYardTextUptoCard
end Rows
end Go.Proofs.YtgoboklahocfhaaDoor
