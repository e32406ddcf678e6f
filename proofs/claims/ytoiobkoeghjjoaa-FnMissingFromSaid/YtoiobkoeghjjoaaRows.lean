/-
  No cell of these rows narrows 'for every input' (looked for: loops, veiled, ifaces, maps, wideKeys, modest, calm, conditions, laid).
  DERIVED. THE GIVEN ROWS OF THIS SEAT. 11 by the template 'for every input the law returns true; each argument reads behind the call as it read before'; 0 by the template 'total and deterministic' (their statements: YtoiobkoeghjjoaaTotals.lean).
  GIVEN WITH THE SEED: the statements are not yours to turn. If you find one false, say at which input.
  Laid BY PROGRAM, IN A SANDBOX (cutbox-rows.mjs): the forced cells as the released guide's own fill.sh prints them over the translation b039761675db66b0… (all of the seat's roots in one cut). By AI agents, Wed Nov 11 2026. No macro, syntax, notation, axiom, sorry.
-/
import Derived.Test.YtoiobkoeghjjoaaChecked
import GoSem.Claim
import GoSem.ClaimJoined
import GoSem.ClaimMapViews
import Derived.JoinedTies
import Derived.KernelRfl
namespace Go.Proofs.Ytoiobkoeghjjoaa
/- THE CELL 'sum', in the pinned program and in every row, IS THE sha256 OF THE DUMP (.gsa) THAT YtoiobkoeghjjoaaProg.lean LOADS. Nothing in Lean hashes anything: it is a label: what it is worth is what the hold of that sum in a sandbox is worth. -/
noncomputable def Try.pinned : Pinned := { name := "ytoiobkoeghjjoaa", sum := "b039761675db66b011852c64eca9ab94b3de444e694815bf7acef4400c0181a5", checked := Try.checked }
namespace Rows
def none {H : Type} : Left H := { results := [], args := [] }

/-- 'laws.FnExactValidParts': WHATEVER THE INPUT: true; the input reads as it did. -/
def fnExactValidPartsSpec : ChangeSpec := { name := "fnExactValidParts", fn := fun _ => fun
  | [d] => { results := [.lit (.bool true)], args := [d] }
  | _ => none }
def fnExactValidPartsRow : OpenClaim := { program := "ytoiobkoeghjjoaa", sum := "b039761675db66b011852c64eca9ab94b3de444e694815bf7acef4400c0181a5", func := "loop.example/portmapper/laws.FnExactValidParts", spec := "fnExactValidParts", apart := false }
def FnExactValidPartsSaid : Prop := fnExactValidPartsRow.holds Try.pinned (OpenSpec.ofChange fnExactValidPartsSpec)

/-- ITS FALSE NEIGHBOUR: 'it returns false'. Refute it at one input. -/
def fnExactValidPartsWrong : ChangeSpec := { name := "fnExactValidParts", fn := fun _ => fun
  | [d] => { results := [.lit (.bool false)], args := [d] }
  | _ => none }
def FnExactValidPartsWrongFalsely : Prop := fnExactValidPartsRow.holds Try.pinned (OpenSpec.ofChange fnExactValidPartsWrong)

/-- 'laws.FnValidParts': WHATEVER THE INPUT: true; the input reads as it did. -/
def fnValidPartsSpec : ChangeSpec := { name := "fnValidParts", fn := fun _ => fun
  | [d] => { results := [.lit (.bool true)], args := [d] }
  | _ => none }
def fnValidPartsRow : OpenClaim := { program := "ytoiobkoeghjjoaa", sum := "b039761675db66b011852c64eca9ab94b3de444e694815bf7acef4400c0181a5", func := "loop.example/portmapper/laws.FnValidParts", spec := "fnValidParts", apart := false }
def FnValidPartsSaid : Prop := fnValidPartsRow.holds Try.pinned (OpenSpec.ofChange fnValidPartsSpec)

/-- ITS FALSE NEIGHBOUR: 'it returns false'. Refute it at one input. -/
def fnValidPartsWrong : ChangeSpec := { name := "fnValidParts", fn := fun _ => fun
  | [d] => { results := [.lit (.bool false)], args := [d] }
  | _ => none }
def FnValidPartsWrongFalsely : Prop := fnValidPartsRow.holds Try.pinned (OpenSpec.ofChange fnValidPartsWrong)

/-- 'laws.FnValidPartsMore': WHATEVER THE INPUT: true; the input reads as it did. -/
def fnValidPartsMoreSpec : ChangeSpec := { name := "fnValidPartsMore", fn := fun _ => fun
  | [d] => { results := [.lit (.bool true)], args := [d] }
  | _ => none }
def fnValidPartsMoreRow : OpenClaim := { program := "ytoiobkoeghjjoaa", sum := "b039761675db66b011852c64eca9ab94b3de444e694815bf7acef4400c0181a5", func := "loop.example/portmapper/laws.FnValidPartsMore", spec := "fnValidPartsMore", apart := false }
def FnValidPartsMoreSaid : Prop := fnValidPartsMoreRow.holds Try.pinned (OpenSpec.ofChange fnValidPartsMoreSpec)

/-- ITS FALSE NEIGHBOUR: 'it returns false'. Refute it at one input. -/
def fnValidPartsMoreWrong : ChangeSpec := { name := "fnValidPartsMore", fn := fun _ => fun
  | [d] => { results := [.lit (.bool false)], args := [d] }
  | _ => none }
def FnValidPartsMoreWrongFalsely : Prop := fnValidPartsMoreRow.holds Try.pinned (OpenSpec.ofChange fnValidPartsMoreWrong)

/-- 'laws.FnCutDataCount': WHATEVER THE INPUT: true; the input reads as it did. -/
def fnCutDataCountSpec : ChangeSpec := { name := "fnCutDataCount", fn := fun _ => fun
  | [d] => { results := [.lit (.bool true)], args := [d] }
  | _ => none }
def fnCutDataCountRow : OpenClaim := { program := "ytoiobkoeghjjoaa", sum := "b039761675db66b011852c64eca9ab94b3de444e694815bf7acef4400c0181a5", func := "loop.example/portmapper/laws.FnCutDataCount", spec := "fnCutDataCount", apart := false }
def FnCutDataCountSaid : Prop := fnCutDataCountRow.holds Try.pinned (OpenSpec.ofChange fnCutDataCountSpec)

/-- ITS FALSE NEIGHBOUR: 'it returns false'. Refute it at one input. -/
def fnCutDataCountWrong : ChangeSpec := { name := "fnCutDataCount", fn := fun _ => fun
  | [d] => { results := [.lit (.bool false)], args := [d] }
  | _ => none }
def FnCutDataCountWrongFalsely : Prop := fnCutDataCountRow.holds Try.pinned (OpenSpec.ofChange fnCutDataCountWrong)

/-- 'laws.FnExactCutData': WHATEVER THE INPUT: true; the input reads as it did. -/
def fnExactCutDataSpec : ChangeSpec := { name := "fnExactCutData", fn := fun _ => fun
  | [d1, d2] => { results := [.lit (.bool true)], args := [d1, d2] }
  | _ => none }
def fnExactCutDataRow : OpenClaim := { program := "ytoiobkoeghjjoaa", sum := "b039761675db66b011852c64eca9ab94b3de444e694815bf7acef4400c0181a5", func := "loop.example/portmapper/laws.FnExactCutData", spec := "fnExactCutData", apart := false }
def FnExactCutDataSaid : Prop := fnExactCutDataRow.holds Try.pinned (OpenSpec.ofChange fnExactCutDataSpec)

/-- ITS FALSE NEIGHBOUR: 'it returns false'. Refute it at one input. -/
def fnExactCutDataWrong : ChangeSpec := { name := "fnExactCutData", fn := fun _ => fun
  | [d1, d2] => { results := [.lit (.bool false)], args := [d1, d2] }
  | _ => none }
def FnExactCutDataWrongFalsely : Prop := fnExactCutDataRow.holds Try.pinned (OpenSpec.ofChange fnExactCutDataWrong)

/-- 'laws.FnExactOverlapOf': WHATEVER THE INPUT: true; the input reads as it did. -/
def fnExactOverlapOfSpec : ChangeSpec := { name := "fnExactOverlapOf", fn := fun _ => fun
  | [d] => { results := [.lit (.bool true)], args := [d] }
  | _ => none }
def fnExactOverlapOfRow : OpenClaim := { program := "ytoiobkoeghjjoaa", sum := "b039761675db66b011852c64eca9ab94b3de444e694815bf7acef4400c0181a5", func := "loop.example/portmapper/laws.FnExactOverlapOf", spec := "fnExactOverlapOf", apart := false }
def FnExactOverlapOfSaid : Prop := fnExactOverlapOfRow.holds Try.pinned (OpenSpec.ofChange fnExactOverlapOfSpec)

/-- ITS FALSE NEIGHBOUR: 'it returns false'. Refute it at one input. -/
def fnExactOverlapOfWrong : ChangeSpec := { name := "fnExactOverlapOf", fn := fun _ => fun
  | [d] => { results := [.lit (.bool false)], args := [d] }
  | _ => none }
def FnExactOverlapOfWrongFalsely : Prop := fnExactOverlapOfRow.holds Try.pinned (OpenSpec.ofChange fnExactOverlapOfWrong)

/-- 'laws.FnOverlapOf': WHATEVER THE INPUT: true; the input reads as it did. -/
def fnOverlapOfSpec : ChangeSpec := { name := "fnOverlapOf", fn := fun _ => fun
  | [d] => { results := [.lit (.bool true)], args := [d] }
  | _ => none }
def fnOverlapOfRow : OpenClaim := { program := "ytoiobkoeghjjoaa", sum := "b039761675db66b011852c64eca9ab94b3de444e694815bf7acef4400c0181a5", func := "loop.example/portmapper/laws.FnOverlapOf", spec := "fnOverlapOf", apart := false }
def FnOverlapOfSaid : Prop := fnOverlapOfRow.holds Try.pinned (OpenSpec.ofChange fnOverlapOfSpec)

/-- ITS FALSE NEIGHBOUR: 'it returns false'. Refute it at one input. -/
def fnOverlapOfWrong : ChangeSpec := { name := "fnOverlapOf", fn := fun _ => fun
  | [d] => { results := [.lit (.bool false)], args := [d] }
  | _ => none }
def FnOverlapOfWrongFalsely : Prop := fnOverlapOfRow.holds Try.pinned (OpenSpec.ofChange fnOverlapOfWrong)

/-- 'laws.FnOverlapOfShort': WHATEVER THE INPUT: true; the input reads as it did. -/
def fnOverlapOfShortSpec : ChangeSpec := { name := "fnOverlapOfShort", fn := fun _ => fun
  | [d] => { results := [.lit (.bool true)], args := [d] }
  | _ => none }
def fnOverlapOfShortRow : OpenClaim := { program := "ytoiobkoeghjjoaa", sum := "b039761675db66b011852c64eca9ab94b3de444e694815bf7acef4400c0181a5", func := "loop.example/portmapper/laws.FnOverlapOfShort", spec := "fnOverlapOfShort", apart := false }
def FnOverlapOfShortSaid : Prop := fnOverlapOfShortRow.holds Try.pinned (OpenSpec.ofChange fnOverlapOfShortSpec)

/-- ITS FALSE NEIGHBOUR: 'it returns false'. Refute it at one input. -/
def fnOverlapOfShortWrong : ChangeSpec := { name := "fnOverlapOfShort", fn := fun _ => fun
  | [d] => { results := [.lit (.bool false)], args := [d] }
  | _ => none }
def FnOverlapOfShortWrongFalsely : Prop := fnOverlapOfShortRow.holds Try.pinned (OpenSpec.ofChange fnOverlapOfShortWrong)

/-- 'laws.FnExactMissingFrom': WHATEVER THE INPUT: true; the input reads as it did. -/
def fnExactMissingFromSpec : ChangeSpec := { name := "fnExactMissingFrom", fn := fun _ => fun
  | [d] => { results := [.lit (.bool true)], args := [d] }
  | _ => none }
def fnExactMissingFromRow : OpenClaim := { program := "ytoiobkoeghjjoaa", sum := "b039761675db66b011852c64eca9ab94b3de444e694815bf7acef4400c0181a5", func := "loop.example/portmapper/laws.FnExactMissingFrom", spec := "fnExactMissingFrom", unfollowed := true, recurses := true, apart := false }
def FnExactMissingFromSaid : Prop := fnExactMissingFromRow.holds Try.pinned (OpenSpec.ofChange fnExactMissingFromSpec)

/-- ITS FALSE NEIGHBOUR: 'it returns false'. Refute it at one input. -/
def fnExactMissingFromWrong : ChangeSpec := { name := "fnExactMissingFrom", fn := fun _ => fun
  | [d] => { results := [.lit (.bool false)], args := [d] }
  | _ => none }
def FnExactMissingFromWrongFalsely : Prop := fnExactMissingFromRow.holds Try.pinned (OpenSpec.ofChange fnExactMissingFromWrong)

/-- 'laws.FnMissingFrom': WHATEVER THE INPUT: true; the input reads as it did. -/
def fnMissingFromSpec : ChangeSpec := { name := "fnMissingFrom", fn := fun _ => fun
  | [d] => { results := [.lit (.bool true)], args := [d] }
  | _ => none }
def fnMissingFromRow : OpenClaim := { program := "ytoiobkoeghjjoaa", sum := "b039761675db66b011852c64eca9ab94b3de444e694815bf7acef4400c0181a5", func := "loop.example/portmapper/laws.FnMissingFrom", spec := "fnMissingFrom", unfollowed := true, recurses := true, apart := false }
def FnMissingFromSaid : Prop := fnMissingFromRow.holds Try.pinned (OpenSpec.ofChange fnMissingFromSpec)

/-- ITS FALSE NEIGHBOUR: 'it returns false'. Refute it at one input. -/
def fnMissingFromWrong : ChangeSpec := { name := "fnMissingFrom", fn := fun _ => fun
  | [d] => { results := [.lit (.bool false)], args := [d] }
  | _ => none }
def FnMissingFromWrongFalsely : Prop := fnMissingFromRow.holds Try.pinned (OpenSpec.ofChange fnMissingFromWrong)

/-- 'laws.FnMissingFromMore': WHATEVER THE INPUT: true; the input reads as it did. -/
def fnMissingFromMoreSpec : ChangeSpec := { name := "fnMissingFromMore", fn := fun _ => fun
  | [d] => { results := [.lit (.bool true)], args := [d] }
  | _ => none }
def fnMissingFromMoreRow : OpenClaim := { program := "ytoiobkoeghjjoaa", sum := "b039761675db66b011852c64eca9ab94b3de444e694815bf7acef4400c0181a5", func := "loop.example/portmapper/laws.FnMissingFromMore", spec := "fnMissingFromMore", unfollowed := true, recurses := true, apart := false }
def FnMissingFromMoreSaid : Prop := fnMissingFromMoreRow.holds Try.pinned (OpenSpec.ofChange fnMissingFromMoreSpec)

/-- ITS FALSE NEIGHBOUR: 'it returns false'. Refute it at one input. -/
def fnMissingFromMoreWrong : ChangeSpec := { name := "fnMissingFromMore", fn := fun _ => fun
  | [d] => { results := [.lit (.bool false)], args := [d] }
  | _ => none }
def FnMissingFromMoreWrongFalsely : Prop := fnMissingFromMoreRow.holds Try.pinned (OpenSpec.ofChange fnMissingFromMoreWrong)

/- THE SECOND FORM. 'bulk': how many values and letters a reading holds, each counted each time it is reached (what is shared counts as often as it is met; a slice's spare places count too). A statement '..UptoSaid' is the law's where the arguments, and the package variables that the reading takes, are together of bulk at most 1048576: NARROWER than '..Said'. Prove '..Said' where nothing that the law and all that it calls make is longer than what came in: it says more and counts as full. Else prove '..UptoSaid'. A law counts once. -/
mutual
def uptoBulk {H : Type} : DataW H → Nat
  | .lit (.string bytes) => bytes.length + 1
  | .lit _ => 1
  | .nil => 1
  | .ptr d => uptoBulk d + 1
  | .slice elems spare => uptoBulkAll elems + uptoBulkAll spare + 1
  | .agg parts => uptoBulkAll parts + 1
  | .iface _ d => uptoBulk d + 1
  | .map entries => uptoBulkEntries entries + 1
  | .held _ => 1
def uptoBulkAll {H : Type} : List (DataW H) → Nat
  | [] => 0
  | d :: r => uptoBulk d + uptoBulkAll r
def uptoBulkEntries {H : Type} : List (Lit × DataW H) → Nat
  | [] => 0
  | x :: r => uptoBulkEntry x + uptoBulkEntries r
def uptoBulkEntry {H : Type} : Lit × DataW H → Nat
  | (.string bytes, d) => bytes.length + uptoBulk d + 1
  | (_, d) => uptoBulk d + 1
 end
def uptoSmall : (H : Type) → List (DataW H) → Bool := fun _ ds => decide (uptoBulkAll ds ≤ 1048576)
def OpenSpec.upto (s : _root_.Go.ChangeSpec) : _root_.Go.OpenSpec := { _root_.Go.OpenSpec.ofChange s with cond := some uptoSmall }

/-- 'laws.FnExactValidParts', WHERE WHAT IT READS IS OF BULK AT MOST 1048576: true; the input reads as it did. -/
def fnExactValidPartsUptoRow : OpenClaim := { program := "ytoiobkoeghjjoaa", sum := "b039761675db66b011852c64eca9ab94b3de444e694815bf7acef4400c0181a5", func := "loop.example/portmapper/laws.FnExactValidParts", spec := "fnExactValidParts", apart := false, narrowed := true }
def FnExactValidPartsUptoSaid : Prop := fnExactValidPartsUptoRow.holds Try.pinned (OpenSpec.upto fnExactValidPartsSpec)

/-- 'laws.FnValidParts', WHERE WHAT IT READS IS OF BULK AT MOST 1048576: true; the input reads as it did. -/
def fnValidPartsUptoRow : OpenClaim := { program := "ytoiobkoeghjjoaa", sum := "b039761675db66b011852c64eca9ab94b3de444e694815bf7acef4400c0181a5", func := "loop.example/portmapper/laws.FnValidParts", spec := "fnValidParts", apart := false, narrowed := true }
def FnValidPartsUptoSaid : Prop := fnValidPartsUptoRow.holds Try.pinned (OpenSpec.upto fnValidPartsSpec)

/-- 'laws.FnValidPartsMore', WHERE WHAT IT READS IS OF BULK AT MOST 1048576: true; the input reads as it did. -/
def fnValidPartsMoreUptoRow : OpenClaim := { program := "ytoiobkoeghjjoaa", sum := "b039761675db66b011852c64eca9ab94b3de444e694815bf7acef4400c0181a5", func := "loop.example/portmapper/laws.FnValidPartsMore", spec := "fnValidPartsMore", apart := false, narrowed := true }
def FnValidPartsMoreUptoSaid : Prop := fnValidPartsMoreUptoRow.holds Try.pinned (OpenSpec.upto fnValidPartsMoreSpec)

/-- 'laws.FnCutDataCount', WHERE WHAT IT READS IS OF BULK AT MOST 1048576: true; the input reads as it did. -/
def fnCutDataCountUptoRow : OpenClaim := { program := "ytoiobkoeghjjoaa", sum := "b039761675db66b011852c64eca9ab94b3de444e694815bf7acef4400c0181a5", func := "loop.example/portmapper/laws.FnCutDataCount", spec := "fnCutDataCount", apart := false, narrowed := true }
def FnCutDataCountUptoSaid : Prop := fnCutDataCountUptoRow.holds Try.pinned (OpenSpec.upto fnCutDataCountSpec)

/-- 'laws.FnExactCutData', WHERE WHAT IT READS IS OF BULK AT MOST 1048576: true; the input reads as it did. -/
def fnExactCutDataUptoRow : OpenClaim := { program := "ytoiobkoeghjjoaa", sum := "b039761675db66b011852c64eca9ab94b3de444e694815bf7acef4400c0181a5", func := "loop.example/portmapper/laws.FnExactCutData", spec := "fnExactCutData", apart := false, narrowed := true }
def FnExactCutDataUptoSaid : Prop := fnExactCutDataUptoRow.holds Try.pinned (OpenSpec.upto fnExactCutDataSpec)

/-- 'laws.FnExactOverlapOf', WHERE WHAT IT READS IS OF BULK AT MOST 1048576: true; the input reads as it did. -/
def fnExactOverlapOfUptoRow : OpenClaim := { program := "ytoiobkoeghjjoaa", sum := "b039761675db66b011852c64eca9ab94b3de444e694815bf7acef4400c0181a5", func := "loop.example/portmapper/laws.FnExactOverlapOf", spec := "fnExactOverlapOf", apart := false, narrowed := true }
def FnExactOverlapOfUptoSaid : Prop := fnExactOverlapOfUptoRow.holds Try.pinned (OpenSpec.upto fnExactOverlapOfSpec)

/-- 'laws.FnOverlapOf', WHERE WHAT IT READS IS OF BULK AT MOST 1048576: true; the input reads as it did. -/
def fnOverlapOfUptoRow : OpenClaim := { program := "ytoiobkoeghjjoaa", sum := "b039761675db66b011852c64eca9ab94b3de444e694815bf7acef4400c0181a5", func := "loop.example/portmapper/laws.FnOverlapOf", spec := "fnOverlapOf", apart := false, narrowed := true }
def FnOverlapOfUptoSaid : Prop := fnOverlapOfUptoRow.holds Try.pinned (OpenSpec.upto fnOverlapOfSpec)

/-- 'laws.FnOverlapOfShort', WHERE WHAT IT READS IS OF BULK AT MOST 1048576: true; the input reads as it did. -/
def fnOverlapOfShortUptoRow : OpenClaim := { program := "ytoiobkoeghjjoaa", sum := "b039761675db66b011852c64eca9ab94b3de444e694815bf7acef4400c0181a5", func := "loop.example/portmapper/laws.FnOverlapOfShort", spec := "fnOverlapOfShort", apart := false, narrowed := true }
def FnOverlapOfShortUptoSaid : Prop := fnOverlapOfShortUptoRow.holds Try.pinned (OpenSpec.upto fnOverlapOfShortSpec)

/-- 'laws.FnExactMissingFrom', WHERE WHAT IT READS IS OF BULK AT MOST 1048576: true; the input reads as it did. -/
def fnExactMissingFromUptoRow : OpenClaim := { program := "ytoiobkoeghjjoaa", sum := "b039761675db66b011852c64eca9ab94b3de444e694815bf7acef4400c0181a5", func := "loop.example/portmapper/laws.FnExactMissingFrom", spec := "fnExactMissingFrom", unfollowed := true, recurses := true, apart := false, narrowed := true }
def FnExactMissingFromUptoSaid : Prop := fnExactMissingFromUptoRow.holds Try.pinned (OpenSpec.upto fnExactMissingFromSpec)

/-- 'laws.FnMissingFrom', WHERE WHAT IT READS IS OF BULK AT MOST 1048576: true; the input reads as it did. -/
def fnMissingFromUptoRow : OpenClaim := { program := "ytoiobkoeghjjoaa", sum := "b039761675db66b011852c64eca9ab94b3de444e694815bf7acef4400c0181a5", func := "loop.example/portmapper/laws.FnMissingFrom", spec := "fnMissingFrom", unfollowed := true, recurses := true, apart := false, narrowed := true }
def FnMissingFromUptoSaid : Prop := fnMissingFromUptoRow.holds Try.pinned (OpenSpec.upto fnMissingFromSpec)

/-- 'laws.FnMissingFromMore', WHERE WHAT IT READS IS OF BULK AT MOST 1048576: true; the input reads as it did. -/
def fnMissingFromMoreUptoRow : OpenClaim := { program := "ytoiobkoeghjjoaa", sum := "b039761675db66b011852c64eca9ab94b3de444e694815bf7acef4400c0181a5", func := "loop.example/portmapper/laws.FnMissingFromMore", spec := "fnMissingFromMore", unfollowed := true, recurses := true, apart := false, narrowed := true }
def FnMissingFromMoreUptoSaid : Prop := fnMissingFromMoreUptoRow.holds Try.pinned (OpenSpec.upto fnMissingFromMoreSpec)

end Rows
end Go.Proofs.Ytoiobkoeghjjoaa
