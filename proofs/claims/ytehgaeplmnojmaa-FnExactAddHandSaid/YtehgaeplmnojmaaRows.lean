/-
  No cell of these rows narrows 'for every input' (looked for: loops, veiled, ifaces, maps, wideKeys, modest, calm, conditions, laid).
  DERIVED. THE GIVEN ROWS OF THIS SEAT. 11 by the template 'for every input the law returns true; each argument reads behind the call as it read before'; 0 by the template 'total and deterministic' (their statements: YtehgaeplmnojmaaTotals.lean).
  GIVEN WITH THE SEED: the statements are not yours to turn. If you find one false, say at which input.
  Laid BY PROGRAM, IN A SANDBOX (cutbox-rows.mjs): the forced cells as the released guide's own fill.sh prints them over the translation e404202097bbb11d… (all of the seat's roots in one cut). By AI agents, Wed Nov 11 2026. No macro, syntax, notation, axiom, sorry.
-/
import Derived.Test.YtehgaeplmnojmaaChecked
import GoSem.Claim
import GoSem.ClaimJoined
import GoSem.ClaimMapViews
import Derived.JoinedTies
import Derived.KernelRfl
namespace Go.Proofs.Ytehgaeplmnojmaa
/- THE CELL 'sum', in the pinned program and in every row, IS THE sha256 OF THE DUMP (.gsa) THAT YtehgaeplmnojmaaProg.lean LOADS. Nothing in Lean hashes anything: it is a label: what it is worth is what the hold of that sum in a sandbox is worth. -/
noncomputable def Try.pinned : Pinned := { name := "ytehgaeplmnojmaa", sum := "e404202097bbb11d69b2aed49665ad39445ebf20c03c8a69da80916ba71d9573", checked := Try.checked }
namespace Rows
def none {H : Type} : Left H := { results := [], args := [] }

/-- 'laws.FnExactSameGang': WHATEVER THE INPUT: true; the input reads as it did. -/
def fnExactSameGangSpec : ChangeSpec := { name := "fnExactSameGang", fn := fun _ => fun
  | [d1, d2] => { results := [.lit (.bool true)], args := [d1, d2] }
  | _ => none }
def fnExactSameGangRow : OpenClaim := { program := "ytehgaeplmnojmaa", sum := "e404202097bbb11d69b2aed49665ad39445ebf20c03c8a69da80916ba71d9573", func := "loop.example/g01042/laws.FnExactSameGang", spec := "fnExactSameGang", apart := false }
def FnExactSameGangSaid : Prop := fnExactSameGangRow.holds Try.pinned (OpenSpec.ofChange fnExactSameGangSpec)

/-- ITS FALSE NEIGHBOUR: 'it returns false'. Refute it at one input. -/
def fnExactSameGangWrong : ChangeSpec := { name := "fnExactSameGang", fn := fun _ => fun
  | [d1, d2] => { results := [.lit (.bool false)], args := [d1, d2] }
  | _ => none }
def FnExactSameGangWrongFalsely : Prop := fnExactSameGangRow.holds Try.pinned (OpenSpec.ofChange fnExactSameGangWrong)

/-- 'laws.FnExactValidGang': WHATEVER THE INPUT: true; the input reads as it did. -/
def fnExactValidGangSpec : ChangeSpec := { name := "fnExactValidGang", fn := fun _ => fun
  | [d] => { results := [.lit (.bool true)], args := [d] }
  | _ => none }
def fnExactValidGangRow : OpenClaim := { program := "ytehgaeplmnojmaa", sum := "e404202097bbb11d69b2aed49665ad39445ebf20c03c8a69da80916ba71d9573", func := "loop.example/g01042/laws.FnExactValidGang", spec := "fnExactValidGang", unfollowed := true, recurses := true, apart := false }
def FnExactValidGangSaid : Prop := fnExactValidGangRow.holds Try.pinned (OpenSpec.ofChange fnExactValidGangSpec)

/-- ITS FALSE NEIGHBOUR: 'it returns false'. Refute it at one input. -/
def fnExactValidGangWrong : ChangeSpec := { name := "fnExactValidGang", fn := fun _ => fun
  | [d] => { results := [.lit (.bool false)], args := [d] }
  | _ => none }
def FnExactValidGangWrongFalsely : Prop := fnExactValidGangRow.holds Try.pinned (OpenSpec.ofChange fnExactValidGangWrong)

/-- 'laws.FnExactCarriersFor': WHATEVER THE INPUT: true; the input reads as it did. -/
def fnExactCarriersForSpec : ChangeSpec := { name := "fnExactCarriersFor", fn := fun _ => fun
  | [d1, d2] => { results := [.lit (.bool true)], args := [d1, d2] }
  | _ => none }
def fnExactCarriersForRow : OpenClaim := { program := "ytehgaeplmnojmaa", sum := "e404202097bbb11d69b2aed49665ad39445ebf20c03c8a69da80916ba71d9573", func := "loop.example/g01042/laws.FnExactCarriersFor", spec := "fnExactCarriersFor", unfollowed := true, recurses := true, apart := false }
def FnExactCarriersForSaid : Prop := fnExactCarriersForRow.holds Try.pinned (OpenSpec.ofChange fnExactCarriersForSpec)

/-- ITS FALSE NEIGHBOUR: 'it returns false'. Refute it at one input. -/
def fnExactCarriersForWrong : ChangeSpec := { name := "fnExactCarriersFor", fn := fun _ => fun
  | [d1, d2] => { results := [.lit (.bool false)], args := [d1, d2] }
  | _ => none }
def FnExactCarriersForWrongFalsely : Prop := fnExactCarriersForRow.holds Try.pinned (OpenSpec.ofChange fnExactCarriersForWrong)

/-- 'laws.FnExactDaysFor': WHATEVER THE INPUT: true; the input reads as it did. -/
def fnExactDaysForSpec : ChangeSpec := { name := "fnExactDaysFor", fn := fun _ => fun
  | [d1, d2, d3] => { results := [.lit (.bool true)], args := [d1, d2, d3] }
  | _ => none }
def fnExactDaysForRow : OpenClaim := { program := "ytehgaeplmnojmaa", sum := "e404202097bbb11d69b2aed49665ad39445ebf20c03c8a69da80916ba71d9573", func := "loop.example/g01042/laws.FnExactDaysFor", spec := "fnExactDaysFor", unfollowed := true, recurses := true, apart := false }
def FnExactDaysForSaid : Prop := fnExactDaysForRow.holds Try.pinned (OpenSpec.ofChange fnExactDaysForSpec)

/-- ITS FALSE NEIGHBOUR: 'it returns false'. Refute it at one input. -/
def fnExactDaysForWrong : ChangeSpec := { name := "fnExactDaysFor", fn := fun _ => fun
  | [d1, d2, d3] => { results := [.lit (.bool false)], args := [d1, d2, d3] }
  | _ => none }
def FnExactDaysForWrongFalsely : Prop := fnExactDaysForRow.holds Try.pinned (OpenSpec.ofChange fnExactDaysForWrong)

/-- 'laws.FnExactValidWork': WHATEVER THE INPUT: true; the input reads as it did. -/
def fnExactValidWorkSpec : ChangeSpec := { name := "fnExactValidWork", fn := fun _ => fun
  | [d1, d2] => { results := [.lit (.bool true)], args := [d1, d2] }
  | _ => none }
def fnExactValidWorkRow : OpenClaim := { program := "ytehgaeplmnojmaa", sum := "e404202097bbb11d69b2aed49665ad39445ebf20c03c8a69da80916ba71d9573", func := "loop.example/g01042/laws.FnExactValidWork", spec := "fnExactValidWork", unfollowed := true, recurses := true, apart := false }
def FnExactValidWorkSaid : Prop := fnExactValidWorkRow.holds Try.pinned (OpenSpec.ofChange fnExactValidWorkSpec)

/-- ITS FALSE NEIGHBOUR: 'it returns false'. Refute it at one input. -/
def fnExactValidWorkWrong : ChangeSpec := { name := "fnExactValidWork", fn := fun _ => fun
  | [d1, d2] => { results := [.lit (.bool false)], args := [d1, d2] }
  | _ => none }
def FnExactValidWorkWrongFalsely : Prop := fnExactValidWorkRow.holds Try.pinned (OpenSpec.ofChange fnExactValidWorkWrong)

/-- 'laws.FnExactAddHand': WHATEVER THE INPUT: true; the input reads as it did. -/
def fnExactAddHandSpec : ChangeSpec := { name := "fnExactAddHand", fn := fun _ => fun
  | [d1, d2] => { results := [.lit (.bool true)], args := [d1, d2] }
  | _ => none }
def fnExactAddHandRow : OpenClaim := { program := "ytehgaeplmnojmaa", sum := "e404202097bbb11d69b2aed49665ad39445ebf20c03c8a69da80916ba71d9573", func := "loop.example/g01042/laws.FnExactAddHand", spec := "fnExactAddHand", unfollowed := true, recurses := true, apart := false }
def FnExactAddHandSaid : Prop := fnExactAddHandRow.holds Try.pinned (OpenSpec.ofChange fnExactAddHandSpec)

/-- ITS FALSE NEIGHBOUR: 'it returns false'. Refute it at one input. -/
def fnExactAddHandWrong : ChangeSpec := { name := "fnExactAddHand", fn := fun _ => fun
  | [d1, d2] => { results := [.lit (.bool false)], args := [d1, d2] }
  | _ => none }
def FnExactAddHandWrongFalsely : Prop := fnExactAddHandRow.holds Try.pinned (OpenSpec.ofChange fnExactAddHandWrong)

/-- 'laws.FnExactBestDay': WHATEVER THE INPUT: true; the input reads as it did. -/
def fnExactBestDaySpec : ChangeSpec := { name := "fnExactBestDay", fn := fun _ => fun
  | [d1, d2] => { results := [.lit (.bool true)], args := [d1, d2] }
  | _ => none }
def fnExactBestDayRow : OpenClaim := { program := "ytehgaeplmnojmaa", sum := "e404202097bbb11d69b2aed49665ad39445ebf20c03c8a69da80916ba71d9573", func := "loop.example/g01042/laws.FnExactBestDay", spec := "fnExactBestDay", unfollowed := true, recurses := true, apart := false }
def FnExactBestDaySaid : Prop := fnExactBestDayRow.holds Try.pinned (OpenSpec.ofChange fnExactBestDaySpec)

/-- ITS FALSE NEIGHBOUR: 'it returns false'. Refute it at one input. -/
def fnExactBestDayWrong : ChangeSpec := { name := "fnExactBestDay", fn := fun _ => fun
  | [d1, d2] => { results := [.lit (.bool false)], args := [d1, d2] }
  | _ => none }
def FnExactBestDayWrongFalsely : Prop := fnExactBestDayRow.holds Try.pinned (OpenSpec.ofChange fnExactBestDayWrong)

/-- 'laws.FnExactPayFor': WHATEVER THE INPUT: true; the input reads as it did. -/
def fnExactPayForSpec : ChangeSpec := { name := "fnExactPayFor", fn := fun _ => fun
  | [d1, d2, d3] => { results := [.lit (.bool true)], args := [d1, d2, d3] }
  | _ => none }
def fnExactPayForRow : OpenClaim := { program := "ytehgaeplmnojmaa", sum := "e404202097bbb11d69b2aed49665ad39445ebf20c03c8a69da80916ba71d9573", func := "loop.example/g01042/laws.FnExactPayFor", spec := "fnExactPayFor", unfollowed := true, recurses := true, apart := false }
def FnExactPayForSaid : Prop := fnExactPayForRow.holds Try.pinned (OpenSpec.ofChange fnExactPayForSpec)

/-- ITS FALSE NEIGHBOUR: 'it returns false'. Refute it at one input. -/
def fnExactPayForWrong : ChangeSpec := { name := "fnExactPayFor", fn := fun _ => fun
  | [d1, d2, d3] => { results := [.lit (.bool false)], args := [d1, d2, d3] }
  | _ => none }
def FnExactPayForWrongFalsely : Prop := fnExactPayForRow.holds Try.pinned (OpenSpec.ofChange fnExactPayForWrong)

/-- 'laws.FnExactHoursBy': WHATEVER THE INPUT: true; the input reads as it did. -/
def fnExactHoursBySpec : ChangeSpec := { name := "fnExactHoursBy", fn := fun _ => fun
  | [d1, d2] => { results := [.lit (.bool true)], args := [d1, d2] }
  | _ => none }
def fnExactHoursByRow : OpenClaim := { program := "ytehgaeplmnojmaa", sum := "e404202097bbb11d69b2aed49665ad39445ebf20c03c8a69da80916ba71d9573", func := "loop.example/g01042/laws.FnExactHoursBy", spec := "fnExactHoursBy", unfollowed := true, recurses := true, apart := false }
def FnExactHoursBySaid : Prop := fnExactHoursByRow.holds Try.pinned (OpenSpec.ofChange fnExactHoursBySpec)

/-- ITS FALSE NEIGHBOUR: 'it returns false'. Refute it at one input. -/
def fnExactHoursByWrong : ChangeSpec := { name := "fnExactHoursBy", fn := fun _ => fun
  | [d1, d2] => { results := [.lit (.bool false)], args := [d1, d2] }
  | _ => none }
def FnExactHoursByWrongFalsely : Prop := fnExactHoursByRow.holds Try.pinned (OpenSpec.ofChange fnExactHoursByWrong)

/-- 'laws.FnExactLaidBy': WHATEVER THE INPUT: true; the input reads as it did. -/
def fnExactLaidBySpec : ChangeSpec := { name := "fnExactLaidBy", fn := fun _ => fun
  | [d1, d2] => { results := [.lit (.bool true)], args := [d1, d2] }
  | _ => none }
def fnExactLaidByRow : OpenClaim := { program := "ytehgaeplmnojmaa", sum := "e404202097bbb11d69b2aed49665ad39445ebf20c03c8a69da80916ba71d9573", func := "loop.example/g01042/laws.FnExactLaidBy", spec := "fnExactLaidBy", unfollowed := true, recurses := true, apart := false }
def FnExactLaidBySaid : Prop := fnExactLaidByRow.holds Try.pinned (OpenSpec.ofChange fnExactLaidBySpec)

/-- ITS FALSE NEIGHBOUR: 'it returns false'. Refute it at one input. -/
def fnExactLaidByWrong : ChangeSpec := { name := "fnExactLaidBy", fn := fun _ => fun
  | [d1, d2] => { results := [.lit (.bool false)], args := [d1, d2] }
  | _ => none }
def FnExactLaidByWrongFalsely : Prop := fnExactLaidByRow.holds Try.pinned (OpenSpec.ofChange fnExactLaidByWrong)

/-- 'laws.FnExactLaidEachHour': WHATEVER THE INPUT: true; the input reads as it did. -/
def fnExactLaidEachHourSpec : ChangeSpec := { name := "fnExactLaidEachHour", fn := fun _ => fun
  | [d1, d2, d3] => { results := [.lit (.bool true)], args := [d1, d2, d3] }
  | _ => none }
def fnExactLaidEachHourRow : OpenClaim := { program := "ytehgaeplmnojmaa", sum := "e404202097bbb11d69b2aed49665ad39445ebf20c03c8a69da80916ba71d9573", func := "loop.example/g01042/laws.FnExactLaidEachHour", spec := "fnExactLaidEachHour", unfollowed := true, recurses := true, apart := false }
def FnExactLaidEachHourSaid : Prop := fnExactLaidEachHourRow.holds Try.pinned (OpenSpec.ofChange fnExactLaidEachHourSpec)

/-- ITS FALSE NEIGHBOUR: 'it returns false'. Refute it at one input. -/
def fnExactLaidEachHourWrong : ChangeSpec := { name := "fnExactLaidEachHour", fn := fun _ => fun
  | [d1, d2, d3] => { results := [.lit (.bool false)], args := [d1, d2, d3] }
  | _ => none }
def FnExactLaidEachHourWrongFalsely : Prop := fnExactLaidEachHourRow.holds Try.pinned (OpenSpec.ofChange fnExactLaidEachHourWrong)

/- THE SECOND FORM. 'bulk': how many values and letters a reading holds, each counted each time it is reached (what is shared counts as often as it is met; a slice's spare places count too). A statement '..UptoSaid' is the law's where the arguments, and the package variables that the reading takes, are together of bulk at most 1048576: NARROWER than '..Said'. Prove '..Said' where nothing that the law and all that it calls make is longer than what came in: it says more and counts as full. Else prove '..UptoSaid'. A law counts once. -/
mutual
def uptoBulk {H : Type} : DataW H → Nat
  | .lit (.string bytes) => bytes.length + 1
  | .lit _ => 1
  | .nil => 1
  | .ptr d => uptoBulk d + 1
  | .slice elems spare => uptoBulkAll elems + uptoBulkAll spare + 1
  | .agg parts => uptoBulkAll parts + 1
  | .iface _ d => uptoBulk d + 1
  | .map entries => uptoBulkEntries entries + 1
  | .held _ => 1
def uptoBulkAll {H : Type} : List (DataW H) → Nat
  | [] => 0
  | d :: r => uptoBulk d + uptoBulkAll r
def uptoBulkEntries {H : Type} : List (Lit × DataW H) → Nat
  | [] => 0
  | x :: r => uptoBulkEntry x + uptoBulkEntries r
def uptoBulkEntry {H : Type} : Lit × DataW H → Nat
  | (.string bytes, d) => bytes.length + uptoBulk d + 1
  | (_, d) => uptoBulk d + 1
 end
def uptoSmall : (H : Type) → List (DataW H) → Bool := fun _ ds => decide (uptoBulkAll ds ≤ 1048576)
def OpenSpec.upto (s : _root_.Go.ChangeSpec) : _root_.Go.OpenSpec := { _root_.Go.OpenSpec.ofChange s with cond := some uptoSmall }

/-- 'laws.FnExactSameGang', WHERE WHAT IT READS IS OF BULK AT MOST 1048576: true; the input reads as it did. -/
def fnExactSameGangUptoRow : OpenClaim := { program := "ytehgaeplmnojmaa", sum := "e404202097bbb11d69b2aed49665ad39445ebf20c03c8a69da80916ba71d9573", func := "loop.example/g01042/laws.FnExactSameGang", spec := "fnExactSameGang", apart := false, narrowed := true }
def FnExactSameGangUptoSaid : Prop := fnExactSameGangUptoRow.holds Try.pinned (OpenSpec.upto fnExactSameGangSpec)

/-- 'laws.FnExactValidGang', WHERE WHAT IT READS IS OF BULK AT MOST 1048576: true; the input reads as it did. -/
def fnExactValidGangUptoRow : OpenClaim := { program := "ytehgaeplmnojmaa", sum := "e404202097bbb11d69b2aed49665ad39445ebf20c03c8a69da80916ba71d9573", func := "loop.example/g01042/laws.FnExactValidGang", spec := "fnExactValidGang", unfollowed := true, recurses := true, apart := false, narrowed := true }
def FnExactValidGangUptoSaid : Prop := fnExactValidGangUptoRow.holds Try.pinned (OpenSpec.upto fnExactValidGangSpec)

/-- 'laws.FnExactCarriersFor', WHERE WHAT IT READS IS OF BULK AT MOST 1048576: true; the input reads as it did. -/
def fnExactCarriersForUptoRow : OpenClaim := { program := "ytehgaeplmnojmaa", sum := "e404202097bbb11d69b2aed49665ad39445ebf20c03c8a69da80916ba71d9573", func := "loop.example/g01042/laws.FnExactCarriersFor", spec := "fnExactCarriersFor", unfollowed := true, recurses := true, apart := false, narrowed := true }
def FnExactCarriersForUptoSaid : Prop := fnExactCarriersForUptoRow.holds Try.pinned (OpenSpec.upto fnExactCarriersForSpec)

/-- 'laws.FnExactDaysFor', WHERE WHAT IT READS IS OF BULK AT MOST 1048576: true; the input reads as it did. -/
def fnExactDaysForUptoRow : OpenClaim := { program := "ytehgaeplmnojmaa", sum := "e404202097bbb11d69b2aed49665ad39445ebf20c03c8a69da80916ba71d9573", func := "loop.example/g01042/laws.FnExactDaysFor", spec := "fnExactDaysFor", unfollowed := true, recurses := true, apart := false, narrowed := true }
def FnExactDaysForUptoSaid : Prop := fnExactDaysForUptoRow.holds Try.pinned (OpenSpec.upto fnExactDaysForSpec)

/-- 'laws.FnExactValidWork', WHERE WHAT IT READS IS OF BULK AT MOST 1048576: true; the input reads as it did. -/
def fnExactValidWorkUptoRow : OpenClaim := { program := "ytehgaeplmnojmaa", sum := "e404202097bbb11d69b2aed49665ad39445ebf20c03c8a69da80916ba71d9573", func := "loop.example/g01042/laws.FnExactValidWork", spec := "fnExactValidWork", unfollowed := true, recurses := true, apart := false, narrowed := true }
def FnExactValidWorkUptoSaid : Prop := fnExactValidWorkUptoRow.holds Try.pinned (OpenSpec.upto fnExactValidWorkSpec)

/-- 'laws.FnExactAddHand', WHERE WHAT IT READS IS OF BULK AT MOST 1048576: true; the input reads as it did. -/
def fnExactAddHandUptoRow : OpenClaim := { program := "ytehgaeplmnojmaa", sum := "e404202097bbb11d69b2aed49665ad39445ebf20c03c8a69da80916ba71d9573", func := "loop.example/g01042/laws.FnExactAddHand", spec := "fnExactAddHand", unfollowed := true, recurses := true, apart := false, narrowed := true }
def FnExactAddHandUptoSaid : Prop := fnExactAddHandUptoRow.holds Try.pinned (OpenSpec.upto fnExactAddHandSpec)

/-- 'laws.FnExactBestDay', WHERE WHAT IT READS IS OF BULK AT MOST 1048576: true; the input reads as it did. -/
def fnExactBestDayUptoRow : OpenClaim := { program := "ytehgaeplmnojmaa", sum := "e404202097bbb11d69b2aed49665ad39445ebf20c03c8a69da80916ba71d9573", func := "loop.example/g01042/laws.FnExactBestDay", spec := "fnExactBestDay", unfollowed := true, recurses := true, apart := false, narrowed := true }
def FnExactBestDayUptoSaid : Prop := fnExactBestDayUptoRow.holds Try.pinned (OpenSpec.upto fnExactBestDaySpec)

/-- 'laws.FnExactPayFor', WHERE WHAT IT READS IS OF BULK AT MOST 1048576: true; the input reads as it did. -/
def fnExactPayForUptoRow : OpenClaim := { program := "ytehgaeplmnojmaa", sum := "e404202097bbb11d69b2aed49665ad39445ebf20c03c8a69da80916ba71d9573", func := "loop.example/g01042/laws.FnExactPayFor", spec := "fnExactPayFor", unfollowed := true, recurses := true, apart := false, narrowed := true }
def FnExactPayForUptoSaid : Prop := fnExactPayForUptoRow.holds Try.pinned (OpenSpec.upto fnExactPayForSpec)

/-- 'laws.FnExactHoursBy', WHERE WHAT IT READS IS OF BULK AT MOST 1048576: true; the input reads as it did. -/
def fnExactHoursByUptoRow : OpenClaim := { program := "ytehgaeplmnojmaa", sum := "e404202097bbb11d69b2aed49665ad39445ebf20c03c8a69da80916ba71d9573", func := "loop.example/g01042/laws.FnExactHoursBy", spec := "fnExactHoursBy", unfollowed := true, recurses := true, apart := false, narrowed := true }
def FnExactHoursByUptoSaid : Prop := fnExactHoursByUptoRow.holds Try.pinned (OpenSpec.upto fnExactHoursBySpec)

/-- 'laws.FnExactLaidBy', WHERE WHAT IT READS IS OF BULK AT MOST 1048576: true; the input reads as it did. -/
def fnExactLaidByUptoRow : OpenClaim := { program := "ytehgaeplmnojmaa", sum := "e404202097bbb11d69b2aed49665ad39445ebf20c03c8a69da80916ba71d9573", func := "loop.example/g01042/laws.FnExactLaidBy", spec := "fnExactLaidBy", unfollowed := true, recurses := true, apart := false, narrowed := true }
def FnExactLaidByUptoSaid : Prop := fnExactLaidByUptoRow.holds Try.pinned (OpenSpec.upto fnExactLaidBySpec)

/-- 'laws.FnExactLaidEachHour', WHERE WHAT IT READS IS OF BULK AT MOST 1048576: true; the input reads as it did. -/
def fnExactLaidEachHourUptoRow : OpenClaim := { program := "ytehgaeplmnojmaa", sum := "e404202097bbb11d69b2aed49665ad39445ebf20c03c8a69da80916ba71d9573", func := "loop.example/g01042/laws.FnExactLaidEachHour", spec := "fnExactLaidEachHour", unfollowed := true, recurses := true, apart := false, narrowed := true }
def FnExactLaidEachHourUptoSaid : Prop := fnExactLaidEachHourUptoRow.holds Try.pinned (OpenSpec.upto fnExactLaidEachHourSpec)

end Rows
end Go.Proofs.Ytehgaeplmnojmaa
