/-
  No cell of these rows narrows 'for every input' (looked for: loops, veiled, ifaces, maps, wideKeys, modest, calm, conditions, laid).
  DERIVED. THE GIVEN ROWS OF THIS SEAT. 12 by the template 'for every input the law returns true; each argument reads behind the call as it read before'; 0 by the template 'total and deterministic' (their statements: YtabapkbfolncoaaTotals.lean).
  GIVEN WITH THE SEED: the statements are not yours to turn. If you find one false, say at which input.
  Laid BY PROGRAM, IN A SANDBOX (cutbox-rows.mjs): the forced cells as the released guide's own fill.sh prints them over the translation a3cdc53bea76e8fe… (all of the seat's roots in one cut). By AI agents, Wed Nov 11 2026. No macro, syntax, notation, axiom, sorry.
-/
import Derived.Test.YtabapkbfolncoaaChecked
import GoSem.Claim
import GoSem.ClaimJoined
import GoSem.ClaimMapViews
import Derived.JoinedTies
import Derived.KernelRfl
namespace Go.Proofs.Ytabapkbfolncoaa
/- THE CELL 'sum', in the pinned program and in every row, IS THE sha256 OF THE DUMP (.gsa) THAT YtabapkbfolncoaaProg.lean LOADS. Nothing in Lean hashes anything: it is a label: what it is worth is what the hold of that sum in a sandbox is worth. -/
noncomputable def Try.pinned : Pinned := { name := "ytabapkbfolncoaa", sum := "a3cdc53bea76e8fef2664c5edf52a464a0500388f6474883c4e9e61a61bea081", checked := Try.checked }
namespace Rows
def none {H : Type} : Left H := { results := [], args := [] }

/-- 'laws.FnExactJoinParts': WHATEVER THE INPUT: true; the input reads as it did. -/
def fnExactJoinPartsSpec : ChangeSpec := { name := "fnExactJoinParts", fn := fun _ => fun
  | [d] => { results := [.lit (.bool true)], args := [d] }
  | _ => none }
def fnExactJoinPartsRow : OpenClaim := { program := "ytabapkbfolncoaa", sum := "a3cdc53bea76e8fef2664c5edf52a464a0500388f6474883c4e9e61a61bea081", func := "loop.example/portmapper/laws.FnExactJoinParts", spec := "fnExactJoinParts", unfollowed := true, recurses := true, apart := false }
def FnExactJoinPartsSaid : Prop := fnExactJoinPartsRow.holds Try.pinned (OpenSpec.ofChange fnExactJoinPartsSpec)

/-- ITS FALSE NEIGHBOUR: 'it returns false'. Refute it at one input. -/
def fnExactJoinPartsWrong : ChangeSpec := { name := "fnExactJoinParts", fn := fun _ => fun
  | [d] => { results := [.lit (.bool false)], args := [d] }
  | _ => none }
def FnExactJoinPartsWrongFalsely : Prop := fnExactJoinPartsRow.holds Try.pinned (OpenSpec.ofChange fnExactJoinPartsWrong)

/-- 'laws.FnJoinPartsCut': WHATEVER THE INPUT: true; the input reads as it did. -/
def fnJoinPartsCutSpec : ChangeSpec := { name := "fnJoinPartsCut", fn := fun _ => fun
  | [d] => { results := [.lit (.bool true)], args := [d] }
  | _ => none }
def fnJoinPartsCutRow : OpenClaim := { program := "ytabapkbfolncoaa", sum := "a3cdc53bea76e8fef2664c5edf52a464a0500388f6474883c4e9e61a61bea081", func := "loop.example/portmapper/laws.FnJoinPartsCut", spec := "fnJoinPartsCut", unfollowed := true, recurses := true, apart := false }
def FnJoinPartsCutSaid : Prop := fnJoinPartsCutRow.holds Try.pinned (OpenSpec.ofChange fnJoinPartsCutSpec)

/-- ITS FALSE NEIGHBOUR: 'it returns false'. Refute it at one input. -/
def fnJoinPartsCutWrong : ChangeSpec := { name := "fnJoinPartsCut", fn := fun _ => fun
  | [d] => { results := [.lit (.bool false)], args := [d] }
  | _ => none }
def FnJoinPartsCutWrongFalsely : Prop := fnJoinPartsCutRow.holds Try.pinned (OpenSpec.ofChange fnJoinPartsCutWrong)

/-- 'laws.FnMissingFromJoin': WHATEVER THE INPUT: true; the input reads as it did. -/
def fnMissingFromJoinSpec : ChangeSpec := { name := "fnMissingFromJoin", fn := fun _ => fun
  | [d] => { results := [.lit (.bool true)], args := [d] }
  | _ => none }
def fnMissingFromJoinRow : OpenClaim := { program := "ytabapkbfolncoaa", sum := "a3cdc53bea76e8fef2664c5edf52a464a0500388f6474883c4e9e61a61bea081", func := "loop.example/portmapper/laws.FnMissingFromJoin", spec := "fnMissingFromJoin", unfollowed := true, recurses := true, apart := false }
def FnMissingFromJoinSaid : Prop := fnMissingFromJoinRow.holds Try.pinned (OpenSpec.ofChange fnMissingFromJoinSpec)

/-- ITS FALSE NEIGHBOUR: 'it returns false'. Refute it at one input. -/
def fnMissingFromJoinWrong : ChangeSpec := { name := "fnMissingFromJoin", fn := fun _ => fun
  | [d] => { results := [.lit (.bool false)], args := [d] }
  | _ => none }
def FnMissingFromJoinWrongFalsely : Prop := fnMissingFromJoinRow.holds Try.pinned (OpenSpec.ofChange fnMissingFromJoinWrong)

/-- 'laws.FnValidParts': WHATEVER THE INPUT: true; the input reads as it did. -/
def fnValidPartsSpec : ChangeSpec := { name := "fnValidParts", fn := fun _ => fun
  | [d] => { results := [.lit (.bool true)], args := [d] }
  | _ => none }
def fnValidPartsRow : OpenClaim := { program := "ytabapkbfolncoaa", sum := "a3cdc53bea76e8fef2664c5edf52a464a0500388f6474883c4e9e61a61bea081", func := "loop.example/portmapper/laws.FnValidParts", spec := "fnValidParts", apart := false }
def FnValidPartsSaid : Prop := fnValidPartsRow.holds Try.pinned (OpenSpec.ofChange fnValidPartsSpec)

/-- ITS FALSE NEIGHBOUR: 'it returns false'. Refute it at one input. -/
def fnValidPartsWrong : ChangeSpec := { name := "fnValidParts", fn := fun _ => fun
  | [d] => { results := [.lit (.bool false)], args := [d] }
  | _ => none }
def FnValidPartsWrongFalsely : Prop := fnValidPartsRow.holds Try.pinned (OpenSpec.ofChange fnValidPartsWrong)

/-- 'laws.FnValidPartsMore': WHATEVER THE INPUT: true; the input reads as it did. -/
def fnValidPartsMoreSpec : ChangeSpec := { name := "fnValidPartsMore", fn := fun _ => fun
  | [d] => { results := [.lit (.bool true)], args := [d] }
  | _ => none }
def fnValidPartsMoreRow : OpenClaim := { program := "ytabapkbfolncoaa", sum := "a3cdc53bea76e8fef2664c5edf52a464a0500388f6474883c4e9e61a61bea081", func := "loop.example/portmapper/laws.FnValidPartsMore", spec := "fnValidPartsMore", apart := false }
def FnValidPartsMoreSaid : Prop := fnValidPartsMoreRow.holds Try.pinned (OpenSpec.ofChange fnValidPartsMoreSpec)

/-- ITS FALSE NEIGHBOUR: 'it returns false'. Refute it at one input. -/
def fnValidPartsMoreWrong : ChangeSpec := { name := "fnValidPartsMore", fn := fun _ => fun
  | [d] => { results := [.lit (.bool false)], args := [d] }
  | _ => none }
def FnValidPartsMoreWrongFalsely : Prop := fnValidPartsMoreRow.holds Try.pinned (OpenSpec.ofChange fnValidPartsMoreWrong)

/-- 'laws.FnCutDataCount': WHATEVER THE INPUT: true; the input reads as it did. -/
def fnCutDataCountSpec : ChangeSpec := { name := "fnCutDataCount", fn := fun _ => fun
  | [d] => { results := [.lit (.bool true)], args := [d] }
  | _ => none }
def fnCutDataCountRow : OpenClaim := { program := "ytabapkbfolncoaa", sum := "a3cdc53bea76e8fef2664c5edf52a464a0500388f6474883c4e9e61a61bea081", func := "loop.example/portmapper/laws.FnCutDataCount", spec := "fnCutDataCount", apart := false }
def FnCutDataCountSaid : Prop := fnCutDataCountRow.holds Try.pinned (OpenSpec.ofChange fnCutDataCountSpec)

/-- ITS FALSE NEIGHBOUR: 'it returns false'. Refute it at one input. -/
def fnCutDataCountWrong : ChangeSpec := { name := "fnCutDataCount", fn := fun _ => fun
  | [d] => { results := [.lit (.bool false)], args := [d] }
  | _ => none }
def FnCutDataCountWrongFalsely : Prop := fnCutDataCountRow.holds Try.pinned (OpenSpec.ofChange fnCutDataCountWrong)

/-- 'laws.FnOverlapOf': WHATEVER THE INPUT: true; the input reads as it did. -/
def fnOverlapOfSpec : ChangeSpec := { name := "fnOverlapOf", fn := fun _ => fun
  | [d] => { results := [.lit (.bool true)], args := [d] }
  | _ => none }
def fnOverlapOfRow : OpenClaim := { program := "ytabapkbfolncoaa", sum := "a3cdc53bea76e8fef2664c5edf52a464a0500388f6474883c4e9e61a61bea081", func := "loop.example/portmapper/laws.FnOverlapOf", spec := "fnOverlapOf", apart := false }
def FnOverlapOfSaid : Prop := fnOverlapOfRow.holds Try.pinned (OpenSpec.ofChange fnOverlapOfSpec)

/-- ITS FALSE NEIGHBOUR: 'it returns false'. Refute it at one input. -/
def fnOverlapOfWrong : ChangeSpec := { name := "fnOverlapOf", fn := fun _ => fun
  | [d] => { results := [.lit (.bool false)], args := [d] }
  | _ => none }
def FnOverlapOfWrongFalsely : Prop := fnOverlapOfRow.holds Try.pinned (OpenSpec.ofChange fnOverlapOfWrong)

/-- 'laws.FnCutData': WHATEVER THE INPUT: true; the input reads as it did. -/
def fnCutDataSpec : ChangeSpec := { name := "fnCutData", fn := fun _ => fun
  | [d] => { results := [.lit (.bool true)], args := [d] }
  | _ => none }
def fnCutDataRow : OpenClaim := { program := "ytabapkbfolncoaa", sum := "a3cdc53bea76e8fef2664c5edf52a464a0500388f6474883c4e9e61a61bea081", func := "loop.example/portmapper/laws.FnCutData", spec := "fnCutData", unfollowed := true, recurses := true, apart := false }
def FnCutDataSaid : Prop := fnCutDataRow.holds Try.pinned (OpenSpec.ofChange fnCutDataSpec)

/-- ITS FALSE NEIGHBOUR: 'it returns false'. Refute it at one input. -/
def fnCutDataWrong : ChangeSpec := { name := "fnCutData", fn := fun _ => fun
  | [d] => { results := [.lit (.bool false)], args := [d] }
  | _ => none }
def FnCutDataWrongFalsely : Prop := fnCutDataRow.holds Try.pinned (OpenSpec.ofChange fnCutDataWrong)

/-- 'laws.FnCutDataOrder': WHATEVER THE INPUT: true; the input reads as it did. -/
def fnCutDataOrderSpec : ChangeSpec := { name := "fnCutDataOrder", fn := fun _ => fun
  | [d] => { results := [.lit (.bool true)], args := [d] }
  | _ => none }
def fnCutDataOrderRow : OpenClaim := { program := "ytabapkbfolncoaa", sum := "a3cdc53bea76e8fef2664c5edf52a464a0500388f6474883c4e9e61a61bea081", func := "loop.example/portmapper/laws.FnCutDataOrder", spec := "fnCutDataOrder", unfollowed := true, recurses := true, apart := false }
def FnCutDataOrderSaid : Prop := fnCutDataOrderRow.holds Try.pinned (OpenSpec.ofChange fnCutDataOrderSpec)

/-- ITS FALSE NEIGHBOUR: 'it returns false'. Refute it at one input. -/
def fnCutDataOrderWrong : ChangeSpec := { name := "fnCutDataOrder", fn := fun _ => fun
  | [d] => { results := [.lit (.bool false)], args := [d] }
  | _ => none }
def FnCutDataOrderWrongFalsely : Prop := fnCutDataOrderRow.holds Try.pinned (OpenSpec.ofChange fnCutDataOrderWrong)

/-- 'laws.FnOverlapOfTwice': WHATEVER THE INPUT: true; the input reads as it did. -/
def fnOverlapOfTwiceSpec : ChangeSpec := { name := "fnOverlapOfTwice", fn := fun _ => fun
  | [d] => { results := [.lit (.bool true)], args := [d] }
  | _ => none }
def fnOverlapOfTwiceRow : OpenClaim := { program := "ytabapkbfolncoaa", sum := "a3cdc53bea76e8fef2664c5edf52a464a0500388f6474883c4e9e61a61bea081", func := "loop.example/portmapper/laws.FnOverlapOfTwice", spec := "fnOverlapOfTwice", unfollowed := true, recurses := true, apart := false }
def FnOverlapOfTwiceSaid : Prop := fnOverlapOfTwiceRow.holds Try.pinned (OpenSpec.ofChange fnOverlapOfTwiceSpec)

/-- ITS FALSE NEIGHBOUR: 'it returns false'. Refute it at one input. -/
def fnOverlapOfTwiceWrong : ChangeSpec := { name := "fnOverlapOfTwice", fn := fun _ => fun
  | [d] => { results := [.lit (.bool false)], args := [d] }
  | _ => none }
def FnOverlapOfTwiceWrongFalsely : Prop := fnOverlapOfTwiceRow.holds Try.pinned (OpenSpec.ofChange fnOverlapOfTwiceWrong)

/-- 'laws.FnCutDataMissing': WHATEVER THE INPUT: true; the input reads as it did. -/
def fnCutDataMissingSpec : ChangeSpec := { name := "fnCutDataMissing", fn := fun _ => fun
  | [d] => { results := [.lit (.bool true)], args := [d] }
  | _ => none }
def fnCutDataMissingRow : OpenClaim := { program := "ytabapkbfolncoaa", sum := "a3cdc53bea76e8fef2664c5edf52a464a0500388f6474883c4e9e61a61bea081", func := "loop.example/portmapper/laws.FnCutDataMissing", spec := "fnCutDataMissing", unfollowed := true, recurses := true, apart := false }
def FnCutDataMissingSaid : Prop := fnCutDataMissingRow.holds Try.pinned (OpenSpec.ofChange fnCutDataMissingSpec)

/-- ITS FALSE NEIGHBOUR: 'it returns false'. Refute it at one input. -/
def fnCutDataMissingWrong : ChangeSpec := { name := "fnCutDataMissing", fn := fun _ => fun
  | [d] => { results := [.lit (.bool false)], args := [d] }
  | _ => none }
def FnCutDataMissingWrongFalsely : Prop := fnCutDataMissingRow.holds Try.pinned (OpenSpec.ofChange fnCutDataMissingWrong)

/-- 'laws.FnJoinParts': WHATEVER THE INPUT: true; the input reads as it did. -/
def fnJoinPartsSpec : ChangeSpec := { name := "fnJoinParts", fn := fun _ => fun
  | [d] => { results := [.lit (.bool true)], args := [d] }
  | _ => none }
def fnJoinPartsRow : OpenClaim := { program := "ytabapkbfolncoaa", sum := "a3cdc53bea76e8fef2664c5edf52a464a0500388f6474883c4e9e61a61bea081", func := "loop.example/portmapper/laws.FnJoinParts", spec := "fnJoinParts", unfollowed := true, recurses := true, apart := false }
def FnJoinPartsSaid : Prop := fnJoinPartsRow.holds Try.pinned (OpenSpec.ofChange fnJoinPartsSpec)

/-- ITS FALSE NEIGHBOUR: 'it returns false'. Refute it at one input. -/
def fnJoinPartsWrong : ChangeSpec := { name := "fnJoinParts", fn := fun _ => fun
  | [d] => { results := [.lit (.bool false)], args := [d] }
  | _ => none }
def FnJoinPartsWrongFalsely : Prop := fnJoinPartsRow.holds Try.pinned (OpenSpec.ofChange fnJoinPartsWrong)

/- THE SECOND FORM. 'bulk': how many values and letters a reading holds, each counted each time it is reached (what is shared counts as often as it is met; a slice's spare places count too). A statement '..UptoSaid' is the law's where the arguments, and the package variables that the reading takes, are together of bulk at most 1048576: NARROWER than '..Said'. Prove '..Said' where nothing that the law and all that it calls make is longer than what came in: it says more and counts as full. Else prove '..UptoSaid'. A law counts once. -/
mutual
def uptoBulk {H : Type} : DataW H → Nat
  | .lit (.string bytes) => bytes.length + 1
  | .lit _ => 1
  | .nil => 1
  | .ptr d => uptoBulk d + 1
  | .slice elems spare => uptoBulkAll elems + uptoBulkAll spare + 1
  | .agg parts => uptoBulkAll parts + 1
  | .iface _ d => uptoBulk d + 1
  | .map entries => uptoBulkEntries entries + 1
  | .held _ => 1
def uptoBulkAll {H : Type} : List (DataW H) → Nat
  | [] => 0
  | d :: r => uptoBulk d + uptoBulkAll r
def uptoBulkEntries {H : Type} : List (Lit × DataW H) → Nat
  | [] => 0
  | x :: r => uptoBulkEntry x + uptoBulkEntries r
def uptoBulkEntry {H : Type} : Lit × DataW H → Nat
  | (.string bytes, d) => bytes.length + uptoBulk d + 1
  | (_, d) => uptoBulk d + 1
 end
def uptoSmall : (H : Type) → List (DataW H) → Bool := fun _ ds => decide (uptoBulkAll ds ≤ 1048576)
def OpenSpec.upto (s : _root_.Go.ChangeSpec) : _root_.Go.OpenSpec := { _root_.Go.OpenSpec.ofChange s with cond := some uptoSmall }

/-- 'laws.FnExactJoinParts', WHERE WHAT IT READS IS OF BULK AT MOST 1048576: true; the input reads as it did. -/
def fnExactJoinPartsUptoRow : OpenClaim := { program := "ytabapkbfolncoaa", sum := "a3cdc53bea76e8fef2664c5edf52a464a0500388f6474883c4e9e61a61bea081", func := "loop.example/portmapper/laws.FnExactJoinParts", spec := "fnExactJoinParts", unfollowed := true, recurses := true, apart := false, narrowed := true }
def FnExactJoinPartsUptoSaid : Prop := fnExactJoinPartsUptoRow.holds Try.pinned (OpenSpec.upto fnExactJoinPartsSpec)

/-- 'laws.FnJoinPartsCut', WHERE WHAT IT READS IS OF BULK AT MOST 1048576: true; the input reads as it did. -/
def fnJoinPartsCutUptoRow : OpenClaim := { program := "ytabapkbfolncoaa", sum := "a3cdc53bea76e8fef2664c5edf52a464a0500388f6474883c4e9e61a61bea081", func := "loop.example/portmapper/laws.FnJoinPartsCut", spec := "fnJoinPartsCut", unfollowed := true, recurses := true, apart := false, narrowed := true }
def FnJoinPartsCutUptoSaid : Prop := fnJoinPartsCutUptoRow.holds Try.pinned (OpenSpec.upto fnJoinPartsCutSpec)

/-- 'laws.FnMissingFromJoin', WHERE WHAT IT READS IS OF BULK AT MOST 1048576: true; the input reads as it did. -/
def fnMissingFromJoinUptoRow : OpenClaim := { program := "ytabapkbfolncoaa", sum := "a3cdc53bea76e8fef2664c5edf52a464a0500388f6474883c4e9e61a61bea081", func := "loop.example/portmapper/laws.FnMissingFromJoin", spec := "fnMissingFromJoin", unfollowed := true, recurses := true, apart := false, narrowed := true }
def FnMissingFromJoinUptoSaid : Prop := fnMissingFromJoinUptoRow.holds Try.pinned (OpenSpec.upto fnMissingFromJoinSpec)

/-- 'laws.FnValidParts', WHERE WHAT IT READS IS OF BULK AT MOST 1048576: true; the input reads as it did. -/
def fnValidPartsUptoRow : OpenClaim := { program := "ytabapkbfolncoaa", sum := "a3cdc53bea76e8fef2664c5edf52a464a0500388f6474883c4e9e61a61bea081", func := "loop.example/portmapper/laws.FnValidParts", spec := "fnValidParts", apart := false, narrowed := true }
def FnValidPartsUptoSaid : Prop := fnValidPartsUptoRow.holds Try.pinned (OpenSpec.upto fnValidPartsSpec)

/-- 'laws.FnValidPartsMore', WHERE WHAT IT READS IS OF BULK AT MOST 1048576: true; the input reads as it did. -/
def fnValidPartsMoreUptoRow : OpenClaim := { program := "ytabapkbfolncoaa", sum := "a3cdc53bea76e8fef2664c5edf52a464a0500388f6474883c4e9e61a61bea081", func := "loop.example/portmapper/laws.FnValidPartsMore", spec := "fnValidPartsMore", apart := false, narrowed := true }
def FnValidPartsMoreUptoSaid : Prop := fnValidPartsMoreUptoRow.holds Try.pinned (OpenSpec.upto fnValidPartsMoreSpec)

/-- 'laws.FnCutDataCount', WHERE WHAT IT READS IS OF BULK AT MOST 1048576: true; the input reads as it did. -/
def fnCutDataCountUptoRow : OpenClaim := { program := "ytabapkbfolncoaa", sum := "a3cdc53bea76e8fef2664c5edf52a464a0500388f6474883c4e9e61a61bea081", func := "loop.example/portmapper/laws.FnCutDataCount", spec := "fnCutDataCount", apart := false, narrowed := true }
def FnCutDataCountUptoSaid : Prop := fnCutDataCountUptoRow.holds Try.pinned (OpenSpec.upto fnCutDataCountSpec)

/-- 'laws.FnOverlapOf', WHERE WHAT IT READS IS OF BULK AT MOST 1048576: true; the input reads as it did. -/
def fnOverlapOfUptoRow : OpenClaim := { program := "ytabapkbfolncoaa", sum := "a3cdc53bea76e8fef2664c5edf52a464a0500388f6474883c4e9e61a61bea081", func := "loop.example/portmapper/laws.FnOverlapOf", spec := "fnOverlapOf", apart := false, narrowed := true }
def FnOverlapOfUptoSaid : Prop := fnOverlapOfUptoRow.holds Try.pinned (OpenSpec.upto fnOverlapOfSpec)

/-- 'laws.FnCutData', WHERE WHAT IT READS IS OF BULK AT MOST 1048576: true; the input reads as it did. -/
def fnCutDataUptoRow : OpenClaim := { program := "ytabapkbfolncoaa", sum := "a3cdc53bea76e8fef2664c5edf52a464a0500388f6474883c4e9e61a61bea081", func := "loop.example/portmapper/laws.FnCutData", spec := "fnCutData", unfollowed := true, recurses := true, apart := false, narrowed := true }
def FnCutDataUptoSaid : Prop := fnCutDataUptoRow.holds Try.pinned (OpenSpec.upto fnCutDataSpec)

/-- 'laws.FnCutDataOrder', WHERE WHAT IT READS IS OF BULK AT MOST 1048576: true; the input reads as it did. -/
def fnCutDataOrderUptoRow : OpenClaim := { program := "ytabapkbfolncoaa", sum := "a3cdc53bea76e8fef2664c5edf52a464a0500388f6474883c4e9e61a61bea081", func := "loop.example/portmapper/laws.FnCutDataOrder", spec := "fnCutDataOrder", unfollowed := true, recurses := true, apart := false, narrowed := true }
def FnCutDataOrderUptoSaid : Prop := fnCutDataOrderUptoRow.holds Try.pinned (OpenSpec.upto fnCutDataOrderSpec)

/-- 'laws.FnOverlapOfTwice', WHERE WHAT IT READS IS OF BULK AT MOST 1048576: true; the input reads as it did. -/
def fnOverlapOfTwiceUptoRow : OpenClaim := { program := "ytabapkbfolncoaa", sum := "a3cdc53bea76e8fef2664c5edf52a464a0500388f6474883c4e9e61a61bea081", func := "loop.example/portmapper/laws.FnOverlapOfTwice", spec := "fnOverlapOfTwice", unfollowed := true, recurses := true, apart := false, narrowed := true }
def FnOverlapOfTwiceUptoSaid : Prop := fnOverlapOfTwiceUptoRow.holds Try.pinned (OpenSpec.upto fnOverlapOfTwiceSpec)

/-- 'laws.FnCutDataMissing', WHERE WHAT IT READS IS OF BULK AT MOST 1048576: true; the input reads as it did. -/
def fnCutDataMissingUptoRow : OpenClaim := { program := "ytabapkbfolncoaa", sum := "a3cdc53bea76e8fef2664c5edf52a464a0500388f6474883c4e9e61a61bea081", func := "loop.example/portmapper/laws.FnCutDataMissing", spec := "fnCutDataMissing", unfollowed := true, recurses := true, apart := false, narrowed := true }
def FnCutDataMissingUptoSaid : Prop := fnCutDataMissingUptoRow.holds Try.pinned (OpenSpec.upto fnCutDataMissingSpec)

/-- 'laws.FnJoinParts', WHERE WHAT IT READS IS OF BULK AT MOST 1048576: true; the input reads as it did. -/
def fnJoinPartsUptoRow : OpenClaim := { program := "ytabapkbfolncoaa", sum := "a3cdc53bea76e8fef2664c5edf52a464a0500388f6474883c4e9e61a61bea081", func := "loop.example/portmapper/laws.FnJoinParts", spec := "fnJoinParts", unfollowed := true, recurses := true, apart := false, narrowed := true }
def FnJoinPartsUptoSaid : Prop := fnJoinPartsUptoRow.holds Try.pinned (OpenSpec.upto fnJoinPartsSpec)

end Rows
end Go.Proofs.Ytabapkbfolncoaa
