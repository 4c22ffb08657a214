/-
  DERIVED. GIVEN WITH THE SEED: THE CARDS: each row of YtamhkiakplmlmaaDoorRows.lean that lists a variable, with what it lists TIED to the program's text (the seventh form; the later family's looks); each row that meets fmt, with fmt's text TOLD by the authors' own Lean function (tested against real Go, not proved from fmt's source: count such statements apart). THE CARD IS WHAT COUNTS. Prove the row's statement (the work); the ties are given (YtamhkiakplmlmaaDoorTie.lean); close each card by the builder's one call (the guide's Derived/Test/ToyasCard.lean, 'card_holds'). Laid BY PROGRAM, IN A SANDBOX (cutbox-door.mjs). By AI agents, Wed Nov 11 2026. No macro, syntax, notation, axiom, sorry.
-/
import Derived.Test.YtamhkiakplmlmaaDoorRows
import GoSem.ClaimSeven
namespace Go.Proofs.YtamhkiakplmlmaaDoor
namespace Rows

/-- THE TIED CARD OF 'laws.FnScaffolds'. -/
def fnScaffoldsCard : Claim7 := { stood := { row := fnScaffoldsRow, standIns := [], harness := (true, "66ccd97e59f23dde09231c19eb63111b2f4d36dbedfce488458e8e6a94e6a221"), looks := false }, kinds := [], alts := [], laidByText := true, laidKinds := [.data, .data, .data], laidTests := true, laidLooks := .later }
def FnScaffoldsCardSaid : Prop := Claim7.holds Tryd.pinned (.plain (OpenSpec.ofChange fnScaffoldsSpec)) fnScaffoldsCard

/-- THE SECOND FORM's CARD OF 'laws.FnScaffolds'. -/
def fnScaffoldsUptoCard : Claim7 := { stood := { row := fnScaffoldsUptoRow, standIns := [], harness := (true, "66ccd97e59f23dde09231c19eb63111b2f4d36dbedfce488458e8e6a94e6a221"), looks := false }, kinds := [], alts := [], laidByText := true, laidKinds := [.data, .data, .data], laidTests := true, laidLooks := .later }
def FnScaffoldsUptoCardSaid : Prop := Claim7.holds Tryd.pinned (.plain (OpenSpec.upto fnScaffoldsSpec)) fnScaffoldsUptoCard
end Rows
end Go.Proofs.YtamhkiakplmlmaaDoor
