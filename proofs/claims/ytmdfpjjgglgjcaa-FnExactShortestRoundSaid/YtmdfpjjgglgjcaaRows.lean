/-
  No cell of these rows narrows 'for every input' (looked for: loops, veiled, ifaces, maps, wideKeys, modest, calm, conditions, laid).
  DERIVED. THE GIVEN ROWS OF THIS SEAT. 11 by the template 'for every input the law returns true; each argument reads behind the call as it read before'; 0 by the template 'total and deterministic' (their statements: YtmdfpjjgglgjcaaTotals.lean).
  GIVEN WITH THE SEED: the statements are not yours to turn. If you find one false, say at which input.
  Laid BY PROGRAM, IN A SANDBOX (cutbox-rows.mjs): the forced cells as the released guide's own fill.sh prints them over the translation 87147fd936ca5582… (all of the seat's roots in one cut). By AI agents, Wed Nov 11 2026. No macro, syntax, notation, axiom, sorry.
-/
import Derived.Test.YtmdfpjjgglgjcaaChecked
import GoSem.Claim
import GoSem.ClaimJoined
import GoSem.ClaimMapViews
import Derived.JoinedTies
import Derived.KernelRfl
namespace Go.Proofs.Ytmdfpjjgglgjcaa
/- THE CELL 'sum', in the pinned program and in every row, IS THE sha256 OF THE DUMP (.gsa) THAT YtmdfpjjgglgjcaaProg.lean LOADS. Nothing in Lean hashes anything: it is a label: what it is worth is what the hold of that sum in a sandbox is worth. -/
noncomputable def Try.pinned : Pinned := { name := "ytmdfpjjgglgjcaa", sum := "87147fd936ca55826606be7c708583b94163fe917c0379275b3448895092ec31", checked := Try.checked }
namespace Rows
def none {H : Type} : Left H := { results := [], args := [] }

/-- 'laws.FnExactValidLoads': WHATEVER THE INPUT: true; the input reads as it did. -/
def fnExactValidLoadsSpec : ChangeSpec := { name := "fnExactValidLoads", fn := fun _ => fun
  | [d1, d2] => { results := [.lit (.bool true)], args := [d1, d2] }
  | _ => none }
def fnExactValidLoadsRow : OpenClaim := { program := "ytmdfpjjgglgjcaa", sum := "87147fd936ca55826606be7c708583b94163fe917c0379275b3448895092ec31", func := "loop.example/g01042/laws.FnExactValidLoads", spec := "fnExactValidLoads", unfollowed := true, recurses := true, apart := false }
def FnExactValidLoadsSaid : Prop := fnExactValidLoadsRow.holds Try.pinned (OpenSpec.ofChange fnExactValidLoadsSpec)

/-- ITS FALSE NEIGHBOUR: 'it returns false'. Refute it at one input. -/
def fnExactValidLoadsWrong : ChangeSpec := { name := "fnExactValidLoads", fn := fun _ => fun
  | [d1, d2] => { results := [.lit (.bool false)], args := [d1, d2] }
  | _ => none }
def FnExactValidLoadsWrongFalsely : Prop := fnExactValidLoadsRow.holds Try.pinned (OpenSpec.ofChange fnExactValidLoadsWrong)

/-- 'laws.FnExactLeastTrips': WHATEVER THE INPUT: true; the input reads as it did. -/
def fnExactLeastTripsSpec : ChangeSpec := { name := "fnExactLeastTrips", fn := fun _ => fun
  | [d1, d2] => { results := [.lit (.bool true)], args := [d1, d2] }
  | _ => none }
def fnExactLeastTripsRow : OpenClaim := { program := "ytmdfpjjgglgjcaa", sum := "87147fd936ca55826606be7c708583b94163fe917c0379275b3448895092ec31", func := "loop.example/g01042/laws.FnExactLeastTrips", spec := "fnExactLeastTrips", unfollowed := true, recurses := true, apart := false }
def FnExactLeastTripsSaid : Prop := fnExactLeastTripsRow.holds Try.pinned (OpenSpec.ofChange fnExactLeastTripsSpec)

/-- ITS FALSE NEIGHBOUR: 'it returns false'. Refute it at one input. -/
def fnExactLeastTripsWrong : ChangeSpec := { name := "fnExactLeastTrips", fn := fun _ => fun
  | [d1, d2] => { results := [.lit (.bool false)], args := [d1, d2] }
  | _ => none }
def FnExactLeastTripsWrongFalsely : Prop := fnExactLeastTripsRow.holds Try.pinned (OpenSpec.ofChange fnExactLeastTripsWrong)

/-- 'laws.FnExactFirstFitTrips': WHATEVER THE INPUT: true; the input reads as it did. -/
def fnExactFirstFitTripsSpec : ChangeSpec := { name := "fnExactFirstFitTrips", fn := fun _ => fun
  | [d1, d2] => { results := [.lit (.bool true)], args := [d1, d2] }
  | _ => none }
def fnExactFirstFitTripsRow : OpenClaim := { program := "ytmdfpjjgglgjcaa", sum := "87147fd936ca55826606be7c708583b94163fe917c0379275b3448895092ec31", func := "loop.example/g01042/laws.FnExactFirstFitTrips", spec := "fnExactFirstFitTrips", unfollowed := true, recurses := true, apart := false }
def FnExactFirstFitTripsSaid : Prop := fnExactFirstFitTripsRow.holds Try.pinned (OpenSpec.ofChange fnExactFirstFitTripsSpec)

/-- ITS FALSE NEIGHBOUR: 'it returns false'. Refute it at one input. -/
def fnExactFirstFitTripsWrong : ChangeSpec := { name := "fnExactFirstFitTrips", fn := fun _ => fun
  | [d1, d2] => { results := [.lit (.bool false)], args := [d1, d2] }
  | _ => none }
def FnExactFirstFitTripsWrongFalsely : Prop := fnExactFirstFitTripsRow.holds Try.pinned (OpenSpec.ofChange fnExactFirstFitTripsWrong)

/-- 'laws.FnExactValidRoads': WHATEVER THE INPUT: true; the input reads as it did. -/
def fnExactValidRoadsSpec : ChangeSpec := { name := "fnExactValidRoads", fn := fun _ => fun
  | [d] => { results := [.lit (.bool true)], args := [d] }
  | _ => none }
def fnExactValidRoadsRow : OpenClaim := { program := "ytmdfpjjgglgjcaa", sum := "87147fd936ca55826606be7c708583b94163fe917c0379275b3448895092ec31", func := "loop.example/g01042/laws.FnExactValidRoads", spec := "fnExactValidRoads", unfollowed := true, recurses := true, apart := false }
def FnExactValidRoadsSaid : Prop := fnExactValidRoadsRow.holds Try.pinned (OpenSpec.ofChange fnExactValidRoadsSpec)

/-- ITS FALSE NEIGHBOUR: 'it returns false'. Refute it at one input. -/
def fnExactValidRoadsWrong : ChangeSpec := { name := "fnExactValidRoads", fn := fun _ => fun
  | [d] => { results := [.lit (.bool false)], args := [d] }
  | _ => none }
def FnExactValidRoadsWrongFalsely : Prop := fnExactValidRoadsRow.holds Try.pinned (OpenSpec.ofChange fnExactValidRoadsWrong)

/-- 'laws.FnExactFewestTrips': WHATEVER THE INPUT: true; the input reads as it did. -/
def fnExactFewestTripsSpec : ChangeSpec := { name := "fnExactFewestTrips", fn := fun _ => fun
  | [d1, d2] => { results := [.lit (.bool true)], args := [d1, d2] }
  | _ => none }
def fnExactFewestTripsRow : OpenClaim := { program := "ytmdfpjjgglgjcaa", sum := "87147fd936ca55826606be7c708583b94163fe917c0379275b3448895092ec31", func := "loop.example/g01042/laws.FnExactFewestTrips", spec := "fnExactFewestTrips", unfollowed := true, recurses := true, apart := false }
def FnExactFewestTripsSaid : Prop := fnExactFewestTripsRow.holds Try.pinned (OpenSpec.ofChange fnExactFewestTripsSpec)

/-- ITS FALSE NEIGHBOUR: 'it returns false'. Refute it at one input. -/
def fnExactFewestTripsWrong : ChangeSpec := { name := "fnExactFewestTrips", fn := fun _ => fun
  | [d1, d2] => { results := [.lit (.bool false)], args := [d1, d2] }
  | _ => none }
def FnExactFewestTripsWrongFalsely : Prop := fnExactFewestTripsRow.holds Try.pinned (OpenSpec.ofChange fnExactFewestTripsWrong)

/-- 'laws.FnExactTripFault': WHATEVER THE INPUT: true; the input reads as it did. -/
def fnExactTripFaultSpec : ChangeSpec := { name := "fnExactTripFault", fn := fun _ => fun
  | [d1, d2, d3] => { results := [.lit (.bool true)], args := [d1, d2, d3] }
  | _ => none }
def fnExactTripFaultRow : OpenClaim := { program := "ytmdfpjjgglgjcaa", sum := "87147fd936ca55826606be7c708583b94163fe917c0379275b3448895092ec31", func := "loop.example/g01042/laws.FnExactTripFault", spec := "fnExactTripFault", unfollowed := true, recurses := true, apart := false }
def FnExactTripFaultSaid : Prop := fnExactTripFaultRow.holds Try.pinned (OpenSpec.ofChange fnExactTripFaultSpec)

/-- ITS FALSE NEIGHBOUR: 'it returns false'. Refute it at one input. -/
def fnExactTripFaultWrong : ChangeSpec := { name := "fnExactTripFault", fn := fun _ => fun
  | [d1, d2, d3] => { results := [.lit (.bool false)], args := [d1, d2, d3] }
  | _ => none }
def FnExactTripFaultWrongFalsely : Prop := fnExactTripFaultRow.holds Try.pinned (OpenSpec.ofChange fnExactTripFaultWrong)

/-- 'laws.FnExactBestTrips': WHATEVER THE INPUT: true; the input reads as it did. -/
def fnExactBestTripsSpec : ChangeSpec := { name := "fnExactBestTrips", fn := fun _ => fun
  | [d1, d2] => { results := [.lit (.bool true)], args := [d1, d2] }
  | _ => none }
def fnExactBestTripsRow : OpenClaim := { program := "ytmdfpjjgglgjcaa", sum := "87147fd936ca55826606be7c708583b94163fe917c0379275b3448895092ec31", func := "loop.example/g01042/laws.FnExactBestTrips", spec := "fnExactBestTrips", unfollowed := true, recurses := true, apart := false }
def FnExactBestTripsSaid : Prop := fnExactBestTripsRow.holds Try.pinned (OpenSpec.ofChange fnExactBestTripsSpec)

/-- ITS FALSE NEIGHBOUR: 'it returns false'. Refute it at one input. -/
def fnExactBestTripsWrong : ChangeSpec := { name := "fnExactBestTrips", fn := fun _ => fun
  | [d1, d2] => { results := [.lit (.bool false)], args := [d1, d2] }
  | _ => none }
def FnExactBestTripsWrongFalsely : Prop := fnExactBestTripsRow.holds Try.pinned (OpenSpec.ofChange fnExactBestTripsWrong)

/-- 'laws.FnExactEvenestTrips': WHATEVER THE INPUT: true; the input reads as it did. -/
def fnExactEvenestTripsSpec : ChangeSpec := { name := "fnExactEvenestTrips", fn := fun _ => fun
  | [d1, d2] => { results := [.lit (.bool true)], args := [d1, d2] }
  | _ => none }
def fnExactEvenestTripsRow : OpenClaim := { program := "ytmdfpjjgglgjcaa", sum := "87147fd936ca55826606be7c708583b94163fe917c0379275b3448895092ec31", func := "loop.example/g01042/laws.FnExactEvenestTrips", spec := "fnExactEvenestTrips", unfollowed := true, recurses := true, apart := false }
def FnExactEvenestTripsSaid : Prop := fnExactEvenestTripsRow.holds Try.pinned (OpenSpec.ofChange fnExactEvenestTripsSpec)

/-- ITS FALSE NEIGHBOUR: 'it returns false'. Refute it at one input. -/
def fnExactEvenestTripsWrong : ChangeSpec := { name := "fnExactEvenestTrips", fn := fun _ => fun
  | [d1, d2] => { results := [.lit (.bool false)], args := [d1, d2] }
  | _ => none }
def FnExactEvenestTripsWrongFalsely : Prop := fnExactEvenestTripsRow.holds Try.pinned (OpenSpec.ofChange fnExactEvenestTripsWrong)

/-- 'laws.FnExactShortestWays': WHATEVER THE INPUT: true; the input reads as it did. -/
def fnExactShortestWaysSpec : ChangeSpec := { name := "fnExactShortestWays", fn := fun _ => fun
  | [d] => { results := [.lit (.bool true)], args := [d] }
  | _ => none }
def fnExactShortestWaysRow : OpenClaim := { program := "ytmdfpjjgglgjcaa", sum := "87147fd936ca55826606be7c708583b94163fe917c0379275b3448895092ec31", func := "loop.example/g01042/laws.FnExactShortestWays", spec := "fnExactShortestWays", unfollowed := true, recurses := true, apart := false }
def FnExactShortestWaysSaid : Prop := fnExactShortestWaysRow.holds Try.pinned (OpenSpec.ofChange fnExactShortestWaysSpec)

/-- ITS FALSE NEIGHBOUR: 'it returns false'. Refute it at one input. -/
def fnExactShortestWaysWrong : ChangeSpec := { name := "fnExactShortestWays", fn := fun _ => fun
  | [d] => { results := [.lit (.bool false)], args := [d] }
  | _ => none }
def FnExactShortestWaysWrongFalsely : Prop := fnExactShortestWaysRow.holds Try.pinned (OpenSpec.ofChange fnExactShortestWaysWrong)

/-- 'laws.FnExactWayBetween': WHATEVER THE INPUT: true; the input reads as it did. -/
def fnExactWayBetweenSpec : ChangeSpec := { name := "fnExactWayBetween", fn := fun _ => fun
  | [d1, d2, d3] => { results := [.lit (.bool true)], args := [d1, d2, d3] }
  | _ => none }
def fnExactWayBetweenRow : OpenClaim := { program := "ytmdfpjjgglgjcaa", sum := "87147fd936ca55826606be7c708583b94163fe917c0379275b3448895092ec31", func := "loop.example/g01042/laws.FnExactWayBetween", spec := "fnExactWayBetween", unfollowed := true, recurses := true, apart := false }
def FnExactWayBetweenSaid : Prop := fnExactWayBetweenRow.holds Try.pinned (OpenSpec.ofChange fnExactWayBetweenSpec)

/-- ITS FALSE NEIGHBOUR: 'it returns false'. Refute it at one input. -/
def fnExactWayBetweenWrong : ChangeSpec := { name := "fnExactWayBetween", fn := fun _ => fun
  | [d1, d2, d3] => { results := [.lit (.bool false)], args := [d1, d2, d3] }
  | _ => none }
def FnExactWayBetweenWrongFalsely : Prop := fnExactWayBetweenRow.holds Try.pinned (OpenSpec.ofChange fnExactWayBetweenWrong)

/-- 'laws.FnExactShortestRound': WHATEVER THE INPUT: true; the input reads as it did. -/
def fnExactShortestRoundSpec : ChangeSpec := { name := "fnExactShortestRound", fn := fun _ => fun
  | [d1, d2] => { results := [.lit (.bool true)], args := [d1, d2] }
  | _ => none }
def fnExactShortestRoundRow : OpenClaim := { program := "ytmdfpjjgglgjcaa", sum := "87147fd936ca55826606be7c708583b94163fe917c0379275b3448895092ec31", func := "loop.example/g01042/laws.FnExactShortestRound", spec := "fnExactShortestRound", unfollowed := true, recurses := true, apart := false }
def FnExactShortestRoundSaid : Prop := fnExactShortestRoundRow.holds Try.pinned (OpenSpec.ofChange fnExactShortestRoundSpec)

/-- ITS FALSE NEIGHBOUR: 'it returns false'. Refute it at one input. -/
def fnExactShortestRoundWrong : ChangeSpec := { name := "fnExactShortestRound", fn := fun _ => fun
  | [d1, d2] => { results := [.lit (.bool false)], args := [d1, d2] }
  | _ => none }
def FnExactShortestRoundWrongFalsely : Prop := fnExactShortestRoundRow.holds Try.pinned (OpenSpec.ofChange fnExactShortestRoundWrong)

/- THE SECOND FORM. 'bulk': how many values and letters a reading holds, each counted each time it is reached (what is shared counts as often as it is met; a slice's spare places count too). A statement '..UptoSaid' is the law's where the arguments, and the package variables that the reading takes, are together of bulk at most 1048576: NARROWER than '..Said'. Prove '..Said' where nothing that the law and all that it calls make is longer than what came in: it says more and counts as full. Else prove '..UptoSaid'. A law counts once. -/
mutual
def uptoBulk {H : Type} : DataW H → Nat
  | .lit (.string bytes) => bytes.length + 1
  | .lit _ => 1
  | .nil => 1
  | .ptr d => uptoBulk d + 1
  | .slice elems spare => uptoBulkAll elems + uptoBulkAll spare + 1
  | .agg parts => uptoBulkAll parts + 1
  | .iface _ d => uptoBulk d + 1
  | .map entries => uptoBulkEntries entries + 1
  | .held _ => 1
def uptoBulkAll {H : Type} : List (DataW H) → Nat
  | [] => 0
  | d :: r => uptoBulk d + uptoBulkAll r
def uptoBulkEntries {H : Type} : List (Lit × DataW H) → Nat
  | [] => 0
  | x :: r => uptoBulkEntry x + uptoBulkEntries r
def uptoBulkEntry {H : Type} : Lit × DataW H → Nat
  | (.string bytes, d) => bytes.length + uptoBulk d + 1
  | (_, d) => uptoBulk d + 1
 end
def uptoSmall : (H : Type) → List (DataW H) → Bool := fun _ ds => decide (uptoBulkAll ds ≤ 1048576)
def OpenSpec.upto (s : _root_.Go.ChangeSpec) : _root_.Go.OpenSpec := { _root_.Go.OpenSpec.ofChange s with cond := some uptoSmall }

/-- 'laws.FnExactValidLoads', WHERE WHAT IT READS IS OF BULK AT MOST 1048576: true; the input reads as it did. -/
def fnExactValidLoadsUptoRow : OpenClaim := { program := "ytmdfpjjgglgjcaa", sum := "87147fd936ca55826606be7c708583b94163fe917c0379275b3448895092ec31", func := "loop.example/g01042/laws.FnExactValidLoads", spec := "fnExactValidLoads", unfollowed := true, recurses := true, apart := false, narrowed := true }
def FnExactValidLoadsUptoSaid : Prop := fnExactValidLoadsUptoRow.holds Try.pinned (OpenSpec.upto fnExactValidLoadsSpec)

/-- 'laws.FnExactLeastTrips', WHERE WHAT IT READS IS OF BULK AT MOST 1048576: true; the input reads as it did. -/
def fnExactLeastTripsUptoRow : OpenClaim := { program := "ytmdfpjjgglgjcaa", sum := "87147fd936ca55826606be7c708583b94163fe917c0379275b3448895092ec31", func := "loop.example/g01042/laws.FnExactLeastTrips", spec := "fnExactLeastTrips", unfollowed := true, recurses := true, apart := false, narrowed := true }
def FnExactLeastTripsUptoSaid : Prop := fnExactLeastTripsUptoRow.holds Try.pinned (OpenSpec.upto fnExactLeastTripsSpec)

/-- 'laws.FnExactFirstFitTrips', WHERE WHAT IT READS IS OF BULK AT MOST 1048576: true; the input reads as it did. -/
def fnExactFirstFitTripsUptoRow : OpenClaim := { program := "ytmdfpjjgglgjcaa", sum := "87147fd936ca55826606be7c708583b94163fe917c0379275b3448895092ec31", func := "loop.example/g01042/laws.FnExactFirstFitTrips", spec := "fnExactFirstFitTrips", unfollowed := true, recurses := true, apart := false, narrowed := true }
def FnExactFirstFitTripsUptoSaid : Prop := fnExactFirstFitTripsUptoRow.holds Try.pinned (OpenSpec.upto fnExactFirstFitTripsSpec)

/-- 'laws.FnExactValidRoads', WHERE WHAT IT READS IS OF BULK AT MOST 1048576: true; the input reads as it did. -/
def fnExactValidRoadsUptoRow : OpenClaim := { program := "ytmdfpjjgglgjcaa", sum := "87147fd936ca55826606be7c708583b94163fe917c0379275b3448895092ec31", func := "loop.example/g01042/laws.FnExactValidRoads", spec := "fnExactValidRoads", unfollowed := true, recurses := true, apart := false, narrowed := true }
def FnExactValidRoadsUptoSaid : Prop := fnExactValidRoadsUptoRow.holds Try.pinned (OpenSpec.upto fnExactValidRoadsSpec)

/-- 'laws.FnExactFewestTrips', WHERE WHAT IT READS IS OF BULK AT MOST 1048576: true; the input reads as it did. -/
def fnExactFewestTripsUptoRow : OpenClaim := { program := "ytmdfpjjgglgjcaa", sum := "87147fd936ca55826606be7c708583b94163fe917c0379275b3448895092ec31", func := "loop.example/g01042/laws.FnExactFewestTrips", spec := "fnExactFewestTrips", unfollowed := true, recurses := true, apart := false, narrowed := true }
def FnExactFewestTripsUptoSaid : Prop := fnExactFewestTripsUptoRow.holds Try.pinned (OpenSpec.upto fnExactFewestTripsSpec)

/-- 'laws.FnExactTripFault', WHERE WHAT IT READS IS OF BULK AT MOST 1048576: true; the input reads as it did. -/
def fnExactTripFaultUptoRow : OpenClaim := { program := "ytmdfpjjgglgjcaa", sum := "87147fd936ca55826606be7c708583b94163fe917c0379275b3448895092ec31", func := "loop.example/g01042/laws.FnExactTripFault", spec := "fnExactTripFault", unfollowed := true, recurses := true, apart := false, narrowed := true }
def FnExactTripFaultUptoSaid : Prop := fnExactTripFaultUptoRow.holds Try.pinned (OpenSpec.upto fnExactTripFaultSpec)

/-- 'laws.FnExactBestTrips', WHERE WHAT IT READS IS OF BULK AT MOST 1048576: true; the input reads as it did. -/
def fnExactBestTripsUptoRow : OpenClaim := { program := "ytmdfpjjgglgjcaa", sum := "87147fd936ca55826606be7c708583b94163fe917c0379275b3448895092ec31", func := "loop.example/g01042/laws.FnExactBestTrips", spec := "fnExactBestTrips", unfollowed := true, recurses := true, apart := false, narrowed := true }
def FnExactBestTripsUptoSaid : Prop := fnExactBestTripsUptoRow.holds Try.pinned (OpenSpec.upto fnExactBestTripsSpec)

/-- 'laws.FnExactEvenestTrips', WHERE WHAT IT READS IS OF BULK AT MOST 1048576: true; the input reads as it did. -/
def fnExactEvenestTripsUptoRow : OpenClaim := { program := "ytmdfpjjgglgjcaa", sum := "87147fd936ca55826606be7c708583b94163fe917c0379275b3448895092ec31", func := "loop.example/g01042/laws.FnExactEvenestTrips", spec := "fnExactEvenestTrips", unfollowed := true, recurses := true, apart := false, narrowed := true }
def FnExactEvenestTripsUptoSaid : Prop := fnExactEvenestTripsUptoRow.holds Try.pinned (OpenSpec.upto fnExactEvenestTripsSpec)

/-- 'laws.FnExactShortestWays', WHERE WHAT IT READS IS OF BULK AT MOST 1048576: true; the input reads as it did. -/
def fnExactShortestWaysUptoRow : OpenClaim := { program := "ytmdfpjjgglgjcaa", sum := "87147fd936ca55826606be7c708583b94163fe917c0379275b3448895092ec31", func := "loop.example/g01042/laws.FnExactShortestWays", spec := "fnExactShortestWays", unfollowed := true, recurses := true, apart := false, narrowed := true }
def FnExactShortestWaysUptoSaid : Prop := fnExactShortestWaysUptoRow.holds Try.pinned (OpenSpec.upto fnExactShortestWaysSpec)

/-- 'laws.FnExactWayBetween', WHERE WHAT IT READS IS OF BULK AT MOST 1048576: true; the input reads as it did. -/
def fnExactWayBetweenUptoRow : OpenClaim := { program := "ytmdfpjjgglgjcaa", sum := "87147fd936ca55826606be7c708583b94163fe917c0379275b3448895092ec31", func := "loop.example/g01042/laws.FnExactWayBetween", spec := "fnExactWayBetween", unfollowed := true, recurses := true, apart := false, narrowed := true }
def FnExactWayBetweenUptoSaid : Prop := fnExactWayBetweenUptoRow.holds Try.pinned (OpenSpec.upto fnExactWayBetweenSpec)

/-- 'laws.FnExactShortestRound', WHERE WHAT IT READS IS OF BULK AT MOST 1048576: true; the input reads as it did. -/
def fnExactShortestRoundUptoRow : OpenClaim := { program := "ytmdfpjjgglgjcaa", sum := "87147fd936ca55826606be7c708583b94163fe917c0379275b3448895092ec31", func := "loop.example/g01042/laws.FnExactShortestRound", spec := "fnExactShortestRound", unfollowed := true, recurses := true, apart := false, narrowed := true }
def FnExactShortestRoundUptoSaid : Prop := fnExactShortestRoundUptoRow.holds Try.pinned (OpenSpec.upto fnExactShortestRoundSpec)

end Rows
end Go.Proofs.Ytmdfpjjgglgjcaa
