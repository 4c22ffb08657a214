/-
  No cell of these rows narrows 'for every input' (looked for: loops, veiled, ifaces, maps, wideKeys, modest, calm, conditions, laid).
  DERIVED. THE GIVEN ROWS OF THIS SEAT. 7 by the template 'for every input the law returns true; each argument reads behind the call as it read before'; 0 by the template 'total and deterministic' (their statements: YtopcojdblkpliaaTotals.lean).
  GIVEN WITH THE SEED: the statements are not yours to turn. If you find one false, say at which input.
  Laid BY PROGRAM, IN A SANDBOX (cutbox-rows.mjs): the forced cells as the released guide's own fill.sh prints them over the translation 8a2aa33137f4874b… (all of the seat's roots in one cut). By AI agents, Wed Nov 11 2026. No macro, syntax, notation, axiom, sorry.
-/
import Derived.Test.YtopcojdblkpliaaChecked
import GoSem.Claim
import GoSem.ClaimJoined
import GoSem.ClaimMapViews
import Derived.JoinedTies
import Derived.KernelRfl
namespace Go.Proofs.Ytopcojdblkpliaa
/- THE CELL 'sum', in the pinned program and in every row, IS THE sha256 OF THE DUMP (.gsa) THAT YtopcojdblkpliaaProg.lean LOADS. Nothing in Lean hashes anything: it is a label: what it is worth is what the hold of that sum in a sandbox is worth. -/
noncomputable def Try.pinned : Pinned := { name := "ytopcojdblkpliaa", sum := "8a2aa33137f4874bf92fe93e096d9dbd220c7a09f07e399700facbfda5bc204c", checked := Try.checked }
namespace Rows
def none {H : Type} : Left H := { results := [], args := [] }

/-- 'laws.FnExactSameYard': WHATEVER THE INPUT: true; the input reads as it did. -/
def fnExactSameYardSpec : ChangeSpec := { name := "fnExactSameYard", fn := fun _ => fun
  | [d1, d2] => { results := [.lit (.bool true)], args := [d1, d2] }
  | _ => none }
def fnExactSameYardRow : OpenClaim := { program := "ytopcojdblkpliaa", sum := "8a2aa33137f4874bf92fe93e096d9dbd220c7a09f07e399700facbfda5bc204c", func := "loop.example/g01042/laws.FnExactSameYard", spec := "fnExactSameYard", unfollowed := true, recurses := true, apart := false }
def FnExactSameYardSaid : Prop := fnExactSameYardRow.holds Try.pinned (OpenSpec.ofChange fnExactSameYardSpec)

/-- ITS FALSE NEIGHBOUR: 'it returns false'. Refute it at one input. -/
def fnExactSameYardWrong : ChangeSpec := { name := "fnExactSameYard", fn := fun _ => fun
  | [d1, d2] => { results := [.lit (.bool false)], args := [d1, d2] }
  | _ => none }
def FnExactSameYardWrongFalsely : Prop := fnExactSameYardRow.holds Try.pinned (OpenSpec.ofChange fnExactSameYardWrong)

/-- 'laws.FnExactValidYard': WHATEVER THE INPUT: true; the input reads as it did. -/
def fnExactValidYardSpec : ChangeSpec := { name := "fnExactValidYard", fn := fun _ => fun
  | [d] => { results := [.lit (.bool true)], args := [d] }
  | _ => none }
def fnExactValidYardRow : OpenClaim := { program := "ytopcojdblkpliaa", sum := "8a2aa33137f4874bf92fe93e096d9dbd220c7a09f07e399700facbfda5bc204c", func := "loop.example/g01042/laws.FnExactValidYard", spec := "fnExactValidYard", unfollowed := true, recurses := true, apart := false }
def FnExactValidYardSaid : Prop := fnExactValidYardRow.holds Try.pinned (OpenSpec.ofChange fnExactValidYardSpec)

/-- ITS FALSE NEIGHBOUR: 'it returns false'. Refute it at one input. -/
def fnExactValidYardWrong : ChangeSpec := { name := "fnExactValidYard", fn := fun _ => fun
  | [d] => { results := [.lit (.bool false)], args := [d] }
  | _ => none }
def FnExactValidYardWrongFalsely : Prop := fnExactValidYardRow.holds Try.pinned (OpenSpec.ofChange fnExactValidYardWrong)

/-- 'laws.FnExactPacksAbove': WHATEVER THE INPUT: true; the input reads as it did. -/
def fnExactPacksAboveSpec : ChangeSpec := { name := "fnExactPacksAbove", fn := fun _ => fun
  | [d1, d2] => { results := [.lit (.bool true)], args := [d1, d2] }
  | _ => none }
def fnExactPacksAboveRow : OpenClaim := { program := "ytopcojdblkpliaa", sum := "8a2aa33137f4874bf92fe93e096d9dbd220c7a09f07e399700facbfda5bc204c", func := "loop.example/g01042/laws.FnExactPacksAbove", spec := "fnExactPacksAbove", unfollowed := true, recurses := true, apart := false }
def FnExactPacksAboveSaid : Prop := fnExactPacksAboveRow.holds Try.pinned (OpenSpec.ofChange fnExactPacksAboveSpec)

/-- ITS FALSE NEIGHBOUR: 'it returns false'. Refute it at one input. -/
def fnExactPacksAboveWrong : ChangeSpec := { name := "fnExactPacksAbove", fn := fun _ => fun
  | [d1, d2] => { results := [.lit (.bool false)], args := [d1, d2] }
  | _ => none }
def FnExactPacksAboveWrongFalsely : Prop := fnExactPacksAboveRow.holds Try.pinned (OpenSpec.ofChange fnExactPacksAboveWrong)

/-- 'laws.FnExactTopPacks': WHATEVER THE INPUT: true; the input reads as it did. -/
def fnExactTopPacksSpec : ChangeSpec := { name := "fnExactTopPacks", fn := fun _ => fun
  | [d] => { results := [.lit (.bool true)], args := [d] }
  | _ => none }
def fnExactTopPacksRow : OpenClaim := { program := "ytopcojdblkpliaa", sum := "8a2aa33137f4874bf92fe93e096d9dbd220c7a09f07e399700facbfda5bc204c", func := "loop.example/g01042/laws.FnExactTopPacks", spec := "fnExactTopPacks", unfollowed := true, recurses := true, apart := false }
def FnExactTopPacksSaid : Prop := fnExactTopPacksRow.holds Try.pinned (OpenSpec.ofChange fnExactTopPacksSpec)

/-- ITS FALSE NEIGHBOUR: 'it returns false'. Refute it at one input. -/
def fnExactTopPacksWrong : ChangeSpec := { name := "fnExactTopPacks", fn := fun _ => fun
  | [d] => { results := [.lit (.bool false)], args := [d] }
  | _ => none }
def FnExactTopPacksWrongFalsely : Prop := fnExactTopPacksRow.holds Try.pinned (OpenSpec.ofChange fnExactTopPacksWrong)

/-- 'laws.FnExactMovePack': WHATEVER THE INPUT: true; the input reads as it did. -/
def fnExactMovePackSpec : ChangeSpec := { name := "fnExactMovePack", fn := fun _ => fun
  | [d1, d2] => { results := [.lit (.bool true)], args := [d1, d2] }
  | _ => none }
def fnExactMovePackRow : OpenClaim := { program := "ytopcojdblkpliaa", sum := "8a2aa33137f4874bf92fe93e096d9dbd220c7a09f07e399700facbfda5bc204c", func := "loop.example/g01042/laws.FnExactMovePack", spec := "fnExactMovePack", unfollowed := true, recurses := true, apart := false }
def FnExactMovePackSaid : Prop := fnExactMovePackRow.holds Try.pinned (OpenSpec.ofChange fnExactMovePackSpec)

/-- ITS FALSE NEIGHBOUR: 'it returns false'. Refute it at one input. -/
def fnExactMovePackWrong : ChangeSpec := { name := "fnExactMovePack", fn := fun _ => fun
  | [d1, d2] => { results := [.lit (.bool false)], args := [d1, d2] }
  | _ => none }
def FnExactMovePackWrongFalsely : Prop := fnExactMovePackRow.holds Try.pinned (OpenSpec.ofChange fnExactMovePackWrong)

/-- 'laws.FnExactPacksInTheWay': WHATEVER THE INPUT: true; the input reads as it did. -/
def fnExactPacksInTheWaySpec : ChangeSpec := { name := "fnExactPacksInTheWay", fn := fun _ => fun
  | [d1, d2] => { results := [.lit (.bool true)], args := [d1, d2] }
  | _ => none }
def fnExactPacksInTheWayRow : OpenClaim := { program := "ytopcojdblkpliaa", sum := "8a2aa33137f4874bf92fe93e096d9dbd220c7a09f07e399700facbfda5bc204c", func := "loop.example/g01042/laws.FnExactPacksInTheWay", spec := "fnExactPacksInTheWay", unfollowed := true, recurses := true, apart := false }
def FnExactPacksInTheWaySaid : Prop := fnExactPacksInTheWayRow.holds Try.pinned (OpenSpec.ofChange fnExactPacksInTheWaySpec)

/-- ITS FALSE NEIGHBOUR: 'it returns false'. Refute it at one input. -/
def fnExactPacksInTheWayWrong : ChangeSpec := { name := "fnExactPacksInTheWay", fn := fun _ => fun
  | [d1, d2] => { results := [.lit (.bool false)], args := [d1, d2] }
  | _ => none }
def FnExactPacksInTheWayWrongFalsely : Prop := fnExactPacksInTheWayRow.holds Try.pinned (OpenSpec.ofChange fnExactPacksInTheWayWrong)

/-- 'laws.FnExactLoadPacks': WHATEVER THE INPUT: true; the input reads as it did. -/
def fnExactLoadPacksSpec : ChangeSpec := { name := "fnExactLoadPacks", fn := fun _ => fun
  | [d1, d2, d3] => { results := [.lit (.bool true)], args := [d1, d2, d3] }
  | _ => none }
def fnExactLoadPacksRow : OpenClaim := { program := "ytopcojdblkpliaa", sum := "8a2aa33137f4874bf92fe93e096d9dbd220c7a09f07e399700facbfda5bc204c", func := "loop.example/g01042/laws.FnExactLoadPacks", spec := "fnExactLoadPacks", unfollowed := true, recurses := true, apart := false }
def FnExactLoadPacksSaid : Prop := fnExactLoadPacksRow.holds Try.pinned (OpenSpec.ofChange fnExactLoadPacksSpec)

/-- ITS FALSE NEIGHBOUR: 'it returns false'. Refute it at one input. -/
def fnExactLoadPacksWrong : ChangeSpec := { name := "fnExactLoadPacks", fn := fun _ => fun
  | [d1, d2, d3] => { results := [.lit (.bool false)], args := [d1, d2, d3] }
  | _ => none }
def FnExactLoadPacksWrongFalsely : Prop := fnExactLoadPacksRow.holds Try.pinned (OpenSpec.ofChange fnExactLoadPacksWrong)

/- THE SECOND FORM. 'bulk': how many values and letters a reading holds, each counted each time it is reached (what is shared counts as often as it is met; a slice's spare places count too). A statement '..UptoSaid' is the law's where the arguments, and the package variables that the reading takes, are together of bulk at most 1048576: NARROWER than '..Said'. Prove '..Said' where nothing that the law and all that it calls make is longer than what came in: it says more and counts as full. Else prove '..UptoSaid'. A law counts once. -/
mutual
def uptoBulk {H : Type} : DataW H → Nat
  | .lit (.string bytes) => bytes.length + 1
  | .lit _ => 1
  | .nil => 1
  | .ptr d => uptoBulk d + 1
  | .slice elems spare => uptoBulkAll elems + uptoBulkAll spare + 1
  | .agg parts => uptoBulkAll parts + 1
  | .iface _ d => uptoBulk d + 1
  | .map entries => uptoBulkEntries entries + 1
  | .held _ => 1
def uptoBulkAll {H : Type} : List (DataW H) → Nat
  | [] => 0
  | d :: r => uptoBulk d + uptoBulkAll r
def uptoBulkEntries {H : Type} : List (Lit × DataW H) → Nat
  | [] => 0
  | x :: r => uptoBulkEntry x + uptoBulkEntries r
def uptoBulkEntry {H : Type} : Lit × DataW H → Nat
  | (.string bytes, d) => bytes.length + uptoBulk d + 1
  | (_, d) => uptoBulk d + 1
 end
def uptoSmall : (H : Type) → List (DataW H) → Bool := fun _ ds => decide (uptoBulkAll ds ≤ 1048576)
def OpenSpec.upto (s : _root_.Go.ChangeSpec) : _root_.Go.OpenSpec := { _root_.Go.OpenSpec.ofChange s with cond := some uptoSmall }

/-- 'laws.FnExactSameYard', WHERE WHAT IT READS IS OF BULK AT MOST 1048576: true; the input reads as it did. -/
def fnExactSameYardUptoRow : OpenClaim := { program := "ytopcojdblkpliaa", sum := "8a2aa33137f4874bf92fe93e096d9dbd220c7a09f07e399700facbfda5bc204c", func := "loop.example/g01042/laws.FnExactSameYard", spec := "fnExactSameYard", unfollowed := true, recurses := true, apart := false, narrowed := true }
def FnExactSameYardUptoSaid : Prop := fnExactSameYardUptoRow.holds Try.pinned (OpenSpec.upto fnExactSameYardSpec)

/-- 'laws.FnExactValidYard', WHERE WHAT IT READS IS OF BULK AT MOST 1048576: true; the input reads as it did. -/
def fnExactValidYardUptoRow : OpenClaim := { program := "ytopcojdblkpliaa", sum := "8a2aa33137f4874bf92fe93e096d9dbd220c7a09f07e399700facbfda5bc204c", func := "loop.example/g01042/laws.FnExactValidYard", spec := "fnExactValidYard", unfollowed := true, recurses := true, apart := false, narrowed := true }
def FnExactValidYardUptoSaid : Prop := fnExactValidYardUptoRow.holds Try.pinned (OpenSpec.upto fnExactValidYardSpec)

/-- 'laws.FnExactPacksAbove', WHERE WHAT IT READS IS OF BULK AT MOST 1048576: true; the input reads as it did. -/
def fnExactPacksAboveUptoRow : OpenClaim := { program := "ytopcojdblkpliaa", sum := "8a2aa33137f4874bf92fe93e096d9dbd220c7a09f07e399700facbfda5bc204c", func := "loop.example/g01042/laws.FnExactPacksAbove", spec := "fnExactPacksAbove", unfollowed := true, recurses := true, apart := false, narrowed := true }
def FnExactPacksAboveUptoSaid : Prop := fnExactPacksAboveUptoRow.holds Try.pinned (OpenSpec.upto fnExactPacksAboveSpec)

/-- 'laws.FnExactTopPacks', WHERE WHAT IT READS IS OF BULK AT MOST 1048576: true; the input reads as it did. -/
def fnExactTopPacksUptoRow : OpenClaim := { program := "ytopcojdblkpliaa", sum := "8a2aa33137f4874bf92fe93e096d9dbd220c7a09f07e399700facbfda5bc204c", func := "loop.example/g01042/laws.FnExactTopPacks", spec := "fnExactTopPacks", unfollowed := true, recurses := true, apart := false, narrowed := true }
def FnExactTopPacksUptoSaid : Prop := fnExactTopPacksUptoRow.holds Try.pinned (OpenSpec.upto fnExactTopPacksSpec)

/-- 'laws.FnExactMovePack', WHERE WHAT IT READS IS OF BULK AT MOST 1048576: true; the input reads as it did. -/
def fnExactMovePackUptoRow : OpenClaim := { program := "ytopcojdblkpliaa", sum := "8a2aa33137f4874bf92fe93e096d9dbd220c7a09f07e399700facbfda5bc204c", func := "loop.example/g01042/laws.FnExactMovePack", spec := "fnExactMovePack", unfollowed := true, recurses := true, apart := false, narrowed := true }
def FnExactMovePackUptoSaid : Prop := fnExactMovePackUptoRow.holds Try.pinned (OpenSpec.upto fnExactMovePackSpec)

/-- 'laws.FnExactPacksInTheWay', WHERE WHAT IT READS IS OF BULK AT MOST 1048576: true; the input reads as it did. -/
def fnExactPacksInTheWayUptoRow : OpenClaim := { program := "ytopcojdblkpliaa", sum := "8a2aa33137f4874bf92fe93e096d9dbd220c7a09f07e399700facbfda5bc204c", func := "loop.example/g01042/laws.FnExactPacksInTheWay", spec := "fnExactPacksInTheWay", unfollowed := true, recurses := true, apart := false, narrowed := true }
def FnExactPacksInTheWayUptoSaid : Prop := fnExactPacksInTheWayUptoRow.holds Try.pinned (OpenSpec.upto fnExactPacksInTheWaySpec)

/-- 'laws.FnExactLoadPacks', WHERE WHAT IT READS IS OF BULK AT MOST 1048576: true; the input reads as it did. -/
def fnExactLoadPacksUptoRow : OpenClaim := { program := "ytopcojdblkpliaa", sum := "8a2aa33137f4874bf92fe93e096d9dbd220c7a09f07e399700facbfda5bc204c", func := "loop.example/g01042/laws.FnExactLoadPacks", spec := "fnExactLoadPacks", unfollowed := true, recurses := true, apart := false, narrowed := true }
def FnExactLoadPacksUptoSaid : Prop := fnExactLoadPacksUptoRow.holds Try.pinned (OpenSpec.upto fnExactLoadPacksSpec)

end Rows
end Go.Proofs.Ytopcojdblkpliaa
