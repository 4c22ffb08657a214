/-
  No cell of these rows narrows 'for every input' (looked for: loops, veiled, ifaces, maps, wideKeys, modest, calm, conditions, laid).
  DERIVED. THE GIVEN ROWS OF THIS SEAT. 11 by the template 'for every input the law returns true; each argument reads behind the call as it read before'; 0 by the template 'total and deterministic' (their statements: YteaojbmfjlmggaaTotals.lean).
  GIVEN WITH THE SEED: the statements are not yours to turn. If you find one false, say at which input.
  Laid BY PROGRAM, IN A SANDBOX (cutbox-rows.mjs): the forced cells as the released guide's own fill.sh prints them over the translation dc6a5b0a0ed29382… (all of the seat's roots in one cut). By AI agents, Wed Nov 11 2026. No macro, syntax, notation, axiom, sorry.
-/
import Derived.Test.YteaojbmfjlmggaaChecked
import GoSem.Claim
import GoSem.ClaimJoined
import GoSem.ClaimMapViews
import Derived.JoinedTies
import Derived.KernelRfl
namespace Go.Proofs.Yteaojbmfjlmggaa
/- THE CELL 'sum', in the pinned program and in every row, IS THE sha256 OF THE DUMP (.gsa) THAT YteaojbmfjlmggaaProg.lean LOADS. Nothing in Lean hashes anything: it is a label: what it is worth is what the hold of that sum in a sandbox is worth. -/
noncomputable def Try.pinned : Pinned := { name := "yteaojbmfjlmggaa", sum := "dc6a5b0a0ed2938252f4219e6b5d92e22f55fe7fab78789f287c3cb3dd5e51ac", checked := Try.checked }
namespace Rows
def none {H : Type} : Left H := { results := [], args := [] }

/-- 'laws.FnExactSameScaffold': WHATEVER THE INPUT: true; the input reads as it did. -/
def fnExactSameScaffoldSpec : ChangeSpec := { name := "fnExactSameScaffold", fn := fun _ => fun
  | [d1, d2] => { results := [.lit (.bool true)], args := [d1, d2] }
  | _ => none }
def fnExactSameScaffoldRow : OpenClaim := { program := "yteaojbmfjlmggaa", sum := "dc6a5b0a0ed2938252f4219e6b5d92e22f55fe7fab78789f287c3cb3dd5e51ac", func := "loop.example/g01042/laws.FnExactSameScaffold", spec := "fnExactSameScaffold", apart := false }
def FnExactSameScaffoldSaid : Prop := fnExactSameScaffoldRow.holds Try.pinned (OpenSpec.ofChange fnExactSameScaffoldSpec)

/-- ITS FALSE NEIGHBOUR: 'it returns false'. Refute it at one input. -/
def fnExactSameScaffoldWrong : ChangeSpec := { name := "fnExactSameScaffold", fn := fun _ => fun
  | [d1, d2] => { results := [.lit (.bool false)], args := [d1, d2] }
  | _ => none }
def FnExactSameScaffoldWrongFalsely : Prop := fnExactSameScaffoldRow.holds Try.pinned (OpenSpec.ofChange fnExactSameScaffoldWrong)

/-- 'laws.FnExactValidScaffold': WHATEVER THE INPUT: true; the input reads as it did. -/
def fnExactValidScaffoldSpec : ChangeSpec := { name := "fnExactValidScaffold", fn := fun _ => fun
  | [d] => { results := [.lit (.bool true)], args := [d] }
  | _ => none }
def fnExactValidScaffoldRow : OpenClaim := { program := "yteaojbmfjlmggaa", sum := "dc6a5b0a0ed2938252f4219e6b5d92e22f55fe7fab78789f287c3cb3dd5e51ac", func := "loop.example/g01042/laws.FnExactValidScaffold", spec := "fnExactValidScaffold", unfollowed := true, recurses := true, apart := false }
def FnExactValidScaffoldSaid : Prop := fnExactValidScaffoldRow.holds Try.pinned (OpenSpec.ofChange fnExactValidScaffoldSpec)

/-- ITS FALSE NEIGHBOUR: 'it returns false'. Refute it at one input. -/
def fnExactValidScaffoldWrong : ChangeSpec := { name := "fnExactValidScaffold", fn := fun _ => fun
  | [d] => { results := [.lit (.bool false)], args := [d] }
  | _ => none }
def FnExactValidScaffoldWrongFalsely : Prop := fnExactValidScaffoldRow.holds Try.pinned (OpenSpec.ofChange fnExactValidScaffoldWrong)

/-- 'laws.FnExactPolesOf': WHATEVER THE INPUT: true; the input reads as it did. -/
def fnExactPolesOfSpec : ChangeSpec := { name := "fnExactPolesOf", fn := fun _ => fun
  | [d] => { results := [.lit (.bool true)], args := [d] }
  | _ => none }
def fnExactPolesOfRow : OpenClaim := { program := "yteaojbmfjlmggaa", sum := "dc6a5b0a0ed2938252f4219e6b5d92e22f55fe7fab78789f287c3cb3dd5e51ac", func := "loop.example/g01042/laws.FnExactPolesOf", spec := "fnExactPolesOf", unfollowed := true, recurses := true, apart := false }
def FnExactPolesOfSaid : Prop := fnExactPolesOfRow.holds Try.pinned (OpenSpec.ofChange fnExactPolesOfSpec)

/-- ITS FALSE NEIGHBOUR: 'it returns false'. Refute it at one input. -/
def fnExactPolesOfWrong : ChangeSpec := { name := "fnExactPolesOf", fn := fun _ => fun
  | [d] => { results := [.lit (.bool false)], args := [d] }
  | _ => none }
def FnExactPolesOfWrongFalsely : Prop := fnExactPolesOfRow.holds Try.pinned (OpenSpec.ofChange fnExactPolesOfWrong)

/-- 'laws.FnExactLengthOfBays': WHATEVER THE INPUT: true; the input reads as it did. -/
def fnExactLengthOfBaysSpec : ChangeSpec := { name := "fnExactLengthOfBays", fn := fun _ => fun
  | [d] => { results := [.lit (.bool true)], args := [d] }
  | _ => none }
def fnExactLengthOfBaysRow : OpenClaim := { program := "yteaojbmfjlmggaa", sum := "dc6a5b0a0ed2938252f4219e6b5d92e22f55fe7fab78789f287c3cb3dd5e51ac", func := "loop.example/g01042/laws.FnExactLengthOfBays", spec := "fnExactLengthOfBays", unfollowed := true, recurses := true, apart := false }
def FnExactLengthOfBaysSaid : Prop := fnExactLengthOfBaysRow.holds Try.pinned (OpenSpec.ofChange fnExactLengthOfBaysSpec)

/-- ITS FALSE NEIGHBOUR: 'it returns false'. Refute it at one input. -/
def fnExactLengthOfBaysWrong : ChangeSpec := { name := "fnExactLengthOfBays", fn := fun _ => fun
  | [d] => { results := [.lit (.bool false)], args := [d] }
  | _ => none }
def FnExactLengthOfBaysWrongFalsely : Prop := fnExactLengthOfBaysRow.holds Try.pinned (OpenSpec.ofChange fnExactLengthOfBaysWrong)

/-- 'laws.FnExactTierFor': WHATEVER THE INPUT: true; the input reads as it did. -/
def fnExactTierForSpec : ChangeSpec := { name := "fnExactTierFor", fn := fun _ => fun
  | [d1, d2, d3] => { results := [.lit (.bool true)], args := [d1, d2, d3] }
  | _ => none }
def fnExactTierForRow : OpenClaim := { program := "yteaojbmfjlmggaa", sum := "dc6a5b0a0ed2938252f4219e6b5d92e22f55fe7fab78789f287c3cb3dd5e51ac", func := "loop.example/g01042/laws.FnExactTierFor", spec := "fnExactTierFor", unfollowed := true, recurses := true, apart := false }
def FnExactTierForSaid : Prop := fnExactTierForRow.holds Try.pinned (OpenSpec.ofChange fnExactTierForSpec)

/-- ITS FALSE NEIGHBOUR: 'it returns false'. Refute it at one input. -/
def fnExactTierForWrong : ChangeSpec := { name := "fnExactTierFor", fn := fun _ => fun
  | [d1, d2, d3] => { results := [.lit (.bool false)], args := [d1, d2, d3] }
  | _ => none }
def FnExactTierForWrongFalsely : Prop := fnExactTierForRow.holds Try.pinned (OpenSpec.ofChange fnExactTierForWrong)

/-- 'laws.FnExactBayAt': WHATEVER THE INPUT: true; the input reads as it did. -/
def fnExactBayAtSpec : ChangeSpec := { name := "fnExactBayAt", fn := fun _ => fun
  | [d1, d2] => { results := [.lit (.bool true)], args := [d1, d2] }
  | _ => none }
def fnExactBayAtRow : OpenClaim := { program := "yteaojbmfjlmggaa", sum := "dc6a5b0a0ed2938252f4219e6b5d92e22f55fe7fab78789f287c3cb3dd5e51ac", func := "loop.example/g01042/laws.FnExactBayAt", spec := "fnExactBayAt", unfollowed := true, recurses := true, apart := false }
def FnExactBayAtSaid : Prop := fnExactBayAtRow.holds Try.pinned (OpenSpec.ofChange fnExactBayAtSpec)

/-- ITS FALSE NEIGHBOUR: 'it returns false'. Refute it at one input. -/
def fnExactBayAtWrong : ChangeSpec := { name := "fnExactBayAt", fn := fun _ => fun
  | [d1, d2] => { results := [.lit (.bool false)], args := [d1, d2] }
  | _ => none }
def FnExactBayAtWrongFalsely : Prop := fnExactBayAtRow.holds Try.pinned (OpenSpec.ofChange fnExactBayAtWrong)

/-- 'laws.FnExactBoardsFor': WHATEVER THE INPUT: true; the input reads as it did. -/
def fnExactBoardsForSpec : ChangeSpec := { name := "fnExactBoardsFor", fn := fun _ => fun
  | [d1, d2, d3] => { results := [.lit (.bool true)], args := [d1, d2, d3] }
  | _ => none }
def fnExactBoardsForRow : OpenClaim := { program := "yteaojbmfjlmggaa", sum := "dc6a5b0a0ed2938252f4219e6b5d92e22f55fe7fab78789f287c3cb3dd5e51ac", func := "loop.example/g01042/laws.FnExactBoardsFor", spec := "fnExactBoardsFor", unfollowed := true, recurses := true, apart := false }
def FnExactBoardsForSaid : Prop := fnExactBoardsForRow.holds Try.pinned (OpenSpec.ofChange fnExactBoardsForSpec)

/-- ITS FALSE NEIGHBOUR: 'it returns false'. Refute it at one input. -/
def fnExactBoardsForWrong : ChangeSpec := { name := "fnExactBoardsFor", fn := fun _ => fun
  | [d1, d2, d3] => { results := [.lit (.bool false)], args := [d1, d2, d3] }
  | _ => none }
def FnExactBoardsForWrongFalsely : Prop := fnExactBoardsForRow.holds Try.pinned (OpenSpec.ofChange fnExactBoardsForWrong)

/-- 'laws.FnExactBaysFor': WHATEVER THE INPUT: true; the input reads as it did. -/
def fnExactBaysForSpec : ChangeSpec := { name := "fnExactBaysFor", fn := fun _ => fun
  | [d1, d2] => { results := [.lit (.bool true)], args := [d1, d2] }
  | _ => none }
def fnExactBaysForRow : OpenClaim := { program := "yteaojbmfjlmggaa", sum := "dc6a5b0a0ed2938252f4219e6b5d92e22f55fe7fab78789f287c3cb3dd5e51ac", func := "loop.example/g01042/laws.FnExactBaysFor", spec := "fnExactBaysFor", unfollowed := true, recurses := true, apart := false }
def FnExactBaysForSaid : Prop := fnExactBaysForRow.holds Try.pinned (OpenSpec.ofChange fnExactBaysForSpec)

/-- ITS FALSE NEIGHBOUR: 'it returns false'. Refute it at one input. -/
def fnExactBaysForWrong : ChangeSpec := { name := "fnExactBaysFor", fn := fun _ => fun
  | [d1, d2] => { results := [.lit (.bool false)], args := [d1, d2] }
  | _ => none }
def FnExactBaysForWrongFalsely : Prop := fnExactBaysForRow.holds Try.pinned (OpenSpec.ofChange fnExactBaysForWrong)

/-- 'laws.FnExactTiesOf': WHATEVER THE INPUT: true; the input reads as it did. -/
def fnExactTiesOfSpec : ChangeSpec := { name := "fnExactTiesOf", fn := fun _ => fun
  | [d] => { results := [.lit (.bool true)], args := [d] }
  | _ => none }
def fnExactTiesOfRow : OpenClaim := { program := "yteaojbmfjlmggaa", sum := "dc6a5b0a0ed2938252f4219e6b5d92e22f55fe7fab78789f287c3cb3dd5e51ac", func := "loop.example/g01042/laws.FnExactTiesOf", spec := "fnExactTiesOf", unfollowed := true, recurses := true, apart := false }
def FnExactTiesOfSaid : Prop := fnExactTiesOfRow.holds Try.pinned (OpenSpec.ofChange fnExactTiesOfSpec)

/-- ITS FALSE NEIGHBOUR: 'it returns false'. Refute it at one input. -/
def fnExactTiesOfWrong : ChangeSpec := { name := "fnExactTiesOf", fn := fun _ => fun
  | [d] => { results := [.lit (.bool false)], args := [d] }
  | _ => none }
def FnExactTiesOfWrongFalsely : Prop := fnExactTiesOfRow.holds Try.pinned (OpenSpec.ofChange fnExactTiesOfWrong)

/-- 'laws.FnExactOverloadOf': WHATEVER THE INPUT: true; the input reads as it did. -/
def fnExactOverloadOfSpec : ChangeSpec := { name := "fnExactOverloadOf", fn := fun _ => fun
  | [d1, d2] => { results := [.lit (.bool true)], args := [d1, d2] }
  | _ => none }
def fnExactOverloadOfRow : OpenClaim := { program := "yteaojbmfjlmggaa", sum := "dc6a5b0a0ed2938252f4219e6b5d92e22f55fe7fab78789f287c3cb3dd5e51ac", func := "loop.example/g01042/laws.FnExactOverloadOf", spec := "fnExactOverloadOf", unfollowed := true, recurses := true, apart := false }
def FnExactOverloadOfSaid : Prop := fnExactOverloadOfRow.holds Try.pinned (OpenSpec.ofChange fnExactOverloadOfSpec)

/-- ITS FALSE NEIGHBOUR: 'it returns false'. Refute it at one input. -/
def fnExactOverloadOfWrong : ChangeSpec := { name := "fnExactOverloadOf", fn := fun _ => fun
  | [d1, d2] => { results := [.lit (.bool false)], args := [d1, d2] }
  | _ => none }
def FnExactOverloadOfWrongFalsely : Prop := fnExactOverloadOfRow.holds Try.pinned (OpenSpec.ofChange fnExactOverloadOfWrong)

/-- 'laws.FnExactRoomFor': WHATEVER THE INPUT: true; the input reads as it did. -/
def fnExactRoomForSpec : ChangeSpec := { name := "fnExactRoomFor", fn := fun _ => fun
  | [d1, d2, d3] => { results := [.lit (.bool true)], args := [d1, d2, d3] }
  | _ => none }
def fnExactRoomForRow : OpenClaim := { program := "yteaojbmfjlmggaa", sum := "dc6a5b0a0ed2938252f4219e6b5d92e22f55fe7fab78789f287c3cb3dd5e51ac", func := "loop.example/g01042/laws.FnExactRoomFor", spec := "fnExactRoomFor", unfollowed := true, recurses := true, apart := false }
def FnExactRoomForSaid : Prop := fnExactRoomForRow.holds Try.pinned (OpenSpec.ofChange fnExactRoomForSpec)

/-- ITS FALSE NEIGHBOUR: 'it returns false'. Refute it at one input. -/
def fnExactRoomForWrong : ChangeSpec := { name := "fnExactRoomFor", fn := fun _ => fun
  | [d1, d2, d3] => { results := [.lit (.bool false)], args := [d1, d2, d3] }
  | _ => none }
def FnExactRoomForWrongFalsely : Prop := fnExactRoomForRow.holds Try.pinned (OpenSpec.ofChange fnExactRoomForWrong)

/- THE SECOND FORM. 'bulk': how many values and letters a reading holds, each counted each time it is reached (what is shared counts as often as it is met; a slice's spare places count too). A statement '..UptoSaid' is the law's where the arguments, and the package variables that the reading takes, are together of bulk at most 1048576: NARROWER than '..Said'. Prove '..Said' where nothing that the law and all that it calls make is longer than what came in: it says more and counts as full. Else prove '..UptoSaid'. A law counts once. -/
mutual
def uptoBulk {H : Type} : DataW H → Nat
  | .lit (.string bytes) => bytes.length + 1
  | .lit _ => 1
  | .nil => 1
  | .ptr d => uptoBulk d + 1
  | .slice elems spare => uptoBulkAll elems + uptoBulkAll spare + 1
  | .agg parts => uptoBulkAll parts + 1
  | .iface _ d => uptoBulk d + 1
  | .map entries => uptoBulkEntries entries + 1
  | .held _ => 1
def uptoBulkAll {H : Type} : List (DataW H) → Nat
  | [] => 0
  | d :: r => uptoBulk d + uptoBulkAll r
def uptoBulkEntries {H : Type} : List (Lit × DataW H) → Nat
  | [] => 0
  | x :: r => uptoBulkEntry x + uptoBulkEntries r
def uptoBulkEntry {H : Type} : Lit × DataW H → Nat
  | (.string bytes, d) => bytes.length + uptoBulk d + 1
  | (_, d) => uptoBulk d + 1
 end
def uptoSmall : (H : Type) → List (DataW H) → Bool := fun _ ds => decide (uptoBulkAll ds ≤ 1048576)
def OpenSpec.upto (s : _root_.Go.ChangeSpec) : _root_.Go.OpenSpec := { _root_.Go.OpenSpec.ofChange s with cond := some uptoSmall }

/-- 'laws.FnExactSameScaffold', WHERE WHAT IT READS IS OF BULK AT MOST 1048576: true; the input reads as it did. -/
def fnExactSameScaffoldUptoRow : OpenClaim := { program := "yteaojbmfjlmggaa", sum := "dc6a5b0a0ed2938252f4219e6b5d92e22f55fe7fab78789f287c3cb3dd5e51ac", func := "loop.example/g01042/laws.FnExactSameScaffold", spec := "fnExactSameScaffold", apart := false, narrowed := true }
def FnExactSameScaffoldUptoSaid : Prop := fnExactSameScaffoldUptoRow.holds Try.pinned (OpenSpec.upto fnExactSameScaffoldSpec)

/-- 'laws.FnExactValidScaffold', WHERE WHAT IT READS IS OF BULK AT MOST 1048576: true; the input reads as it did. -/
def fnExactValidScaffoldUptoRow : OpenClaim := { program := "yteaojbmfjlmggaa", sum := "dc6a5b0a0ed2938252f4219e6b5d92e22f55fe7fab78789f287c3cb3dd5e51ac", func := "loop.example/g01042/laws.FnExactValidScaffold", spec := "fnExactValidScaffold", unfollowed := true, recurses := true, apart := false, narrowed := true }
def FnExactValidScaffoldUptoSaid : Prop := fnExactValidScaffoldUptoRow.holds Try.pinned (OpenSpec.upto fnExactValidScaffoldSpec)

/-- 'laws.FnExactPolesOf', WHERE WHAT IT READS IS OF BULK AT MOST 1048576: true; the input reads as it did. -/
def fnExactPolesOfUptoRow : OpenClaim := { program := "yteaojbmfjlmggaa", sum := "dc6a5b0a0ed2938252f4219e6b5d92e22f55fe7fab78789f287c3cb3dd5e51ac", func := "loop.example/g01042/laws.FnExactPolesOf", spec := "fnExactPolesOf", unfollowed := true, recurses := true, apart := false, narrowed := true }
def FnExactPolesOfUptoSaid : Prop := fnExactPolesOfUptoRow.holds Try.pinned (OpenSpec.upto fnExactPolesOfSpec)

/-- 'laws.FnExactLengthOfBays', WHERE WHAT IT READS IS OF BULK AT MOST 1048576: true; the input reads as it did. -/
def fnExactLengthOfBaysUptoRow : OpenClaim := { program := "yteaojbmfjlmggaa", sum := "dc6a5b0a0ed2938252f4219e6b5d92e22f55fe7fab78789f287c3cb3dd5e51ac", func := "loop.example/g01042/laws.FnExactLengthOfBays", spec := "fnExactLengthOfBays", unfollowed := true, recurses := true, apart := false, narrowed := true }
def FnExactLengthOfBaysUptoSaid : Prop := fnExactLengthOfBaysUptoRow.holds Try.pinned (OpenSpec.upto fnExactLengthOfBaysSpec)

/-- 'laws.FnExactTierFor', WHERE WHAT IT READS IS OF BULK AT MOST 1048576: true; the input reads as it did. -/
def fnExactTierForUptoRow : OpenClaim := { program := "yteaojbmfjlmggaa", sum := "dc6a5b0a0ed2938252f4219e6b5d92e22f55fe7fab78789f287c3cb3dd5e51ac", func := "loop.example/g01042/laws.FnExactTierFor", spec := "fnExactTierFor", unfollowed := true, recurses := true, apart := false, narrowed := true }
def FnExactTierForUptoSaid : Prop := fnExactTierForUptoRow.holds Try.pinned (OpenSpec.upto fnExactTierForSpec)

/-- 'laws.FnExactBayAt', WHERE WHAT IT READS IS OF BULK AT MOST 1048576: true; the input reads as it did. -/
def fnExactBayAtUptoRow : OpenClaim := { program := "yteaojbmfjlmggaa", sum := "dc6a5b0a0ed2938252f4219e6b5d92e22f55fe7fab78789f287c3cb3dd5e51ac", func := "loop.example/g01042/laws.FnExactBayAt", spec := "fnExactBayAt", unfollowed := true, recurses := true, apart := false, narrowed := true }
def FnExactBayAtUptoSaid : Prop := fnExactBayAtUptoRow.holds Try.pinned (OpenSpec.upto fnExactBayAtSpec)

/-- 'laws.FnExactBoardsFor', WHERE WHAT IT READS IS OF BULK AT MOST 1048576: true; the input reads as it did. -/
def fnExactBoardsForUptoRow : OpenClaim := { program := "yteaojbmfjlmggaa", sum := "dc6a5b0a0ed2938252f4219e6b5d92e22f55fe7fab78789f287c3cb3dd5e51ac", func := "loop.example/g01042/laws.FnExactBoardsFor", spec := "fnExactBoardsFor", unfollowed := true, recurses := true, apart := false, narrowed := true }
def FnExactBoardsForUptoSaid : Prop := fnExactBoardsForUptoRow.holds Try.pinned (OpenSpec.upto fnExactBoardsForSpec)

/-- 'laws.FnExactBaysFor', WHERE WHAT IT READS IS OF BULK AT MOST 1048576: true; the input reads as it did. -/
def fnExactBaysForUptoRow : OpenClaim := { program := "yteaojbmfjlmggaa", sum := "dc6a5b0a0ed2938252f4219e6b5d92e22f55fe7fab78789f287c3cb3dd5e51ac", func := "loop.example/g01042/laws.FnExactBaysFor", spec := "fnExactBaysFor", unfollowed := true, recurses := true, apart := false, narrowed := true }
def FnExactBaysForUptoSaid : Prop := fnExactBaysForUptoRow.holds Try.pinned (OpenSpec.upto fnExactBaysForSpec)

/-- 'laws.FnExactTiesOf', WHERE WHAT IT READS IS OF BULK AT MOST 1048576: true; the input reads as it did. -/
def fnExactTiesOfUptoRow : OpenClaim := { program := "yteaojbmfjlmggaa", sum := "dc6a5b0a0ed2938252f4219e6b5d92e22f55fe7fab78789f287c3cb3dd5e51ac", func := "loop.example/g01042/laws.FnExactTiesOf", spec := "fnExactTiesOf", unfollowed := true, recurses := true, apart := false, narrowed := true }
def FnExactTiesOfUptoSaid : Prop := fnExactTiesOfUptoRow.holds Try.pinned (OpenSpec.upto fnExactTiesOfSpec)

/-- 'laws.FnExactOverloadOf', WHERE WHAT IT READS IS OF BULK AT MOST 1048576: true; the input reads as it did. -/
def fnExactOverloadOfUptoRow : OpenClaim := { program := "yteaojbmfjlmggaa", sum := "dc6a5b0a0ed2938252f4219e6b5d92e22f55fe7fab78789f287c3cb3dd5e51ac", func := "loop.example/g01042/laws.FnExactOverloadOf", spec := "fnExactOverloadOf", unfollowed := true, recurses := true, apart := false, narrowed := true }
def FnExactOverloadOfUptoSaid : Prop := fnExactOverloadOfUptoRow.holds Try.pinned (OpenSpec.upto fnExactOverloadOfSpec)

/-- 'laws.FnExactRoomFor', WHERE WHAT IT READS IS OF BULK AT MOST 1048576: true; the input reads as it did. -/
def fnExactRoomForUptoRow : OpenClaim := { program := "yteaojbmfjlmggaa", sum := "dc6a5b0a0ed2938252f4219e6b5d92e22f55fe7fab78789f287c3cb3dd5e51ac", func := "loop.example/g01042/laws.FnExactRoomFor", spec := "fnExactRoomFor", unfollowed := true, recurses := true, apart := false, narrowed := true }
def FnExactRoomForUptoSaid : Prop := fnExactRoomForUptoRow.holds Try.pinned (OpenSpec.upto fnExactRoomForSpec)

end Rows
end Go.Proofs.Yteaojbmfjlmggaa
