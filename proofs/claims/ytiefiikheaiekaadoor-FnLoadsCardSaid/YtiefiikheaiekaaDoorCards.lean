/-
  DERIVED. GIVEN WITH THE SEED: THE CARDS: each row of YtiefiikheaiekaaDoorRows.lean that lists a variable, with what it lists TIED to the program's text (the seventh form; the later family's looks); each row that meets fmt, with fmt's text TOLD by the authors' own Lean function (tested against real Go, not proved from fmt's source: count such statements apart). THE CARD IS WHAT COUNTS. Prove the row's statement (the work); the ties are given (YtiefiikheaiekaaDoorTie.lean); close each card by the builder's one call (the guide's Derived/Test/ToyasCard.lean, 'card_holds'). Laid BY PROGRAM, IN A SANDBOX (cutbox-door.mjs). By AI agents, Wed Nov 11 2026. No macro, syntax, notation, axiom, sorry.
-/
import Derived.Test.YtiefiikheaiekaaDoorRows
import GoSem.ClaimSeven
namespace Go.Proofs.YtiefiikheaiekaaDoor
namespace Rows

/-- THE TIED CARD OF 'laws.FnExactFewestMoves'. -/
def fnExactFewestMovesCard : Claim7 := { stood := { row := fnExactFewestMovesRow, standIns := [], harness := (true, "643fa11a3eabd8637e2d7cc893381508535bd29d1ac883b44e6f5ada3c8ba8c4"), looks := false }, kinds := [], alts := [], laidByText := true, laidKinds := [.data, .data, .data], laidTests := true, laidLooks := .later }
def FnExactFewestMovesCardSaid : Prop := Claim7.holds Tryd.pinned (.plain (OpenSpec.ofChange fnExactFewestMovesSpec)) fnExactFewestMovesCard

/-- THE TIED CARD OF 'laws.FnExactBestMoves'. -/
def fnExactBestMovesCard : Claim7 := { stood := { row := fnExactBestMovesRow, standIns := [], harness := (true, "643fa11a3eabd8637e2d7cc893381508535bd29d1ac883b44e6f5ada3c8ba8c4"), looks := false }, kinds := [], alts := [], laidByText := true, laidKinds := [.data, .data, .data], laidTests := true, laidLooks := .later }
def FnExactBestMovesCardSaid : Prop := Claim7.holds Tryd.pinned (.plain (OpenSpec.ofChange fnExactBestMovesSpec)) fnExactBestMovesCard

/-- THE TIED CARD OF 'laws.FnLoads'. -/
def fnLoadsCard : Claim7 := { stood := { row := fnLoadsRow, standIns := [], harness := (true, "643fa11a3eabd8637e2d7cc893381508535bd29d1ac883b44e6f5ada3c8ba8c4"), looks := false }, kinds := [], alts := [], laidByText := true, laidKinds := [.data, .data, .data], laidTests := true, laidLooks := .later }
def FnLoadsCardSaid : Prop := Claim7.holds Tryd.pinned (.plain (OpenSpec.ofChange fnLoadsSpec)) fnLoadsCard

/-- THE SECOND FORM's CARD OF 'laws.FnExactFewestMoves'. -/
def fnExactFewestMovesUptoCard : Claim7 := { stood := { row := fnExactFewestMovesUptoRow, standIns := [], harness := (true, "643fa11a3eabd8637e2d7cc893381508535bd29d1ac883b44e6f5ada3c8ba8c4"), looks := false }, kinds := [], alts := [], laidByText := true, laidKinds := [.data, .data, .data], laidTests := true, laidLooks := .later }
def FnExactFewestMovesUptoCardSaid : Prop := Claim7.holds Tryd.pinned (.plain (OpenSpec.upto fnExactFewestMovesSpec)) fnExactFewestMovesUptoCard

/-- THE SECOND FORM's CARD OF 'laws.FnExactBestMoves'. -/
def fnExactBestMovesUptoCard : Claim7 := { stood := { row := fnExactBestMovesUptoRow, standIns := [], harness := (true, "643fa11a3eabd8637e2d7cc893381508535bd29d1ac883b44e6f5ada3c8ba8c4"), looks := false }, kinds := [], alts := [], laidByText := true, laidKinds := [.data, .data, .data], laidTests := true, laidLooks := .later }
def FnExactBestMovesUptoCardSaid : Prop := Claim7.holds Tryd.pinned (.plain (OpenSpec.upto fnExactBestMovesSpec)) fnExactBestMovesUptoCard

/-- THE SECOND FORM's CARD OF 'laws.FnLoads'. -/
def fnLoadsUptoCard : Claim7 := { stood := { row := fnLoadsUptoRow, standIns := [], harness := (true, "643fa11a3eabd8637e2d7cc893381508535bd29d1ac883b44e6f5ada3c8ba8c4"), looks := false }, kinds := [], alts := [], laidByText := true, laidKinds := [.data, .data, .data], laidTests := true, laidLooks := .later }
def FnLoadsUptoCardSaid : Prop := Claim7.holds Tryd.pinned (.plain (OpenSpec.upto fnLoadsSpec)) fnLoadsUptoCard
end Rows
end Go.Proofs.YtiefiikheaiekaaDoor
