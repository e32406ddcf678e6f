/-
  No cell of these rows narrows 'for every input' (looked for: loops, veiled, ifaces, maps, wideKeys, modest, calm, conditions, laid).
  DERIVED. THE GIVEN ROWS OF THIS SEAT. 9 by the template 'for every input the law returns true; each argument reads behind the call as it read before'; 0 by the template 'total and deterministic' (their statements: YtmaecadflilbgaaTotals.lean).
  GIVEN WITH THE SEED: the statements are not yours to turn. If you find one false, say at which input.
  Laid BY PROGRAM, IN A SANDBOX (cutbox-rows.mjs): the forced cells as the released guide's own fill.sh prints them over the translation d4d1338b44de2ad3… (all of the seat's roots in one cut). By AI agents, Wed Nov 11 2026. No macro, syntax, notation, axiom, sorry.
-/
import Derived.Test.YtmaecadflilbgaaChecked
import GoSem.Claim
import GoSem.ClaimJoined
import GoSem.ClaimMapViews
import Derived.JoinedTies
import Derived.KernelRfl
namespace Go.Proofs.Ytmaecadflilbgaa
/- THE CELL 'sum', in the pinned program and in every row, IS THE sha256 OF THE DUMP (.gsa) THAT YtmaecadflilbgaaProg.lean LOADS. Nothing in Lean hashes anything: it is a label: what it is worth is what the hold of that sum in a sandbox is worth. -/
noncomputable def Try.pinned : Pinned := { name := "ytmaecadflilbgaa", sum := "d4d1338b44de2ad3c84066c4736a7c8dec079d5c1a9d381d2d68924ff9058bd3", checked := Try.checked }
namespace Rows
def none {H : Type} : Left H := { results := [], args := [] }

/-- 'laws.FnHoldsNetIn': WHATEVER THE INPUT: true; the input reads as it did. -/
def fnHoldsNetInSpec : ChangeSpec := { name := "fnHoldsNetIn", fn := fun _ => fun
  | [d] => { results := [.lit (.bool true)], args := [d] }
  | _ => none }
def fnHoldsNetInRow : OpenClaim := { program := "ytmaecadflilbgaa", sum := "d4d1338b44de2ad3c84066c4736a7c8dec079d5c1a9d381d2d68924ff9058bd3", func := "loop.example/portmapper/laws.FnHoldsNetIn", spec := "fnHoldsNetIn", apart := false }
def FnHoldsNetInSaid : Prop := fnHoldsNetInRow.holds Try.pinned (OpenSpec.ofChange fnHoldsNetInSpec)

/-- ITS FALSE NEIGHBOUR: 'it returns false'. Refute it at one input. -/
def fnHoldsNetInWrong : ChangeSpec := { name := "fnHoldsNetIn", fn := fun _ => fun
  | [d] => { results := [.lit (.bool false)], args := [d] }
  | _ => none }
def FnHoldsNetInWrongFalsely : Prop := fnHoldsNetInRow.holds Try.pinned (OpenSpec.ofChange fnHoldsNetInWrong)

/-- 'laws.FnInNetHolds': WHATEVER THE INPUT: true; the input reads as it did. -/
def fnInNetHoldsSpec : ChangeSpec := { name := "fnInNetHolds", fn := fun _ => fun
  | [d] => { results := [.lit (.bool true)], args := [d] }
  | _ => none }
def fnInNetHoldsRow : OpenClaim := { program := "ytmaecadflilbgaa", sum := "d4d1338b44de2ad3c84066c4736a7c8dec079d5c1a9d381d2d68924ff9058bd3", func := "loop.example/portmapper/laws.FnInNetHolds", spec := "fnInNetHolds", apart := false }
def FnInNetHoldsSaid : Prop := fnInNetHoldsRow.holds Try.pinned (OpenSpec.ofChange fnInNetHoldsSpec)

/-- ITS FALSE NEIGHBOUR: 'it returns false'. Refute it at one input. -/
def fnInNetHoldsWrong : ChangeSpec := { name := "fnInNetHolds", fn := fun _ => fun
  | [d] => { results := [.lit (.bool false)], args := [d] }
  | _ => none }
def FnInNetHoldsWrongFalsely : Prop := fnInNetHoldsRow.holds Try.pinned (OpenSpec.ofChange fnInNetHoldsWrong)

/-- 'laws.FnInNetSplit': WHATEVER THE INPUT: true; the input reads as it did. -/
def fnInNetSplitSpec : ChangeSpec := { name := "fnInNetSplit", fn := fun _ => fun
  | [d] => { results := [.lit (.bool true)], args := [d] }
  | _ => none }
def fnInNetSplitRow : OpenClaim := { program := "ytmaecadflilbgaa", sum := "d4d1338b44de2ad3c84066c4736a7c8dec079d5c1a9d381d2d68924ff9058bd3", func := "loop.example/portmapper/laws.FnInNetSplit", spec := "fnInNetSplit", apart := false }
def FnInNetSplitSaid : Prop := fnInNetSplitRow.holds Try.pinned (OpenSpec.ofChange fnInNetSplitSpec)

/-- ITS FALSE NEIGHBOUR: 'it returns false'. Refute it at one input. -/
def fnInNetSplitWrong : ChangeSpec := { name := "fnInNetSplit", fn := fun _ => fun
  | [d] => { results := [.lit (.bool false)], args := [d] }
  | _ => none }
def FnInNetSplitWrongFalsely : Prop := fnInNetSplitRow.holds Try.pinned (OpenSpec.ofChange fnInNetSplitWrong)

/-- 'laws.FnHoldsNet': WHATEVER THE INPUT: true; the input reads as it did. -/
def fnHoldsNetSpec : ChangeSpec := { name := "fnHoldsNet", fn := fun _ => fun
  | [d] => { results := [.lit (.bool true)], args := [d] }
  | _ => none }
def fnHoldsNetRow : OpenClaim := { program := "ytmaecadflilbgaa", sum := "d4d1338b44de2ad3c84066c4736a7c8dec079d5c1a9d381d2d68924ff9058bd3", func := "loop.example/portmapper/laws.FnHoldsNet", spec := "fnHoldsNet", apart := false }
def FnHoldsNetSaid : Prop := fnHoldsNetRow.holds Try.pinned (OpenSpec.ofChange fnHoldsNetSpec)

/-- ITS FALSE NEIGHBOUR: 'it returns false'. Refute it at one input. -/
def fnHoldsNetWrong : ChangeSpec := { name := "fnHoldsNet", fn := fun _ => fun
  | [d] => { results := [.lit (.bool false)], args := [d] }
  | _ => none }
def FnHoldsNetWrongFalsely : Prop := fnHoldsNetRow.holds Try.pinned (OpenSpec.ofChange fnHoldsNetWrong)

/-- 'laws.FnHoldsNetThree': WHATEVER THE INPUT: true; the input reads as it did. -/
def fnHoldsNetThreeSpec : ChangeSpec := { name := "fnHoldsNetThree", fn := fun _ => fun
  | [d] => { results := [.lit (.bool true)], args := [d] }
  | _ => none }
def fnHoldsNetThreeRow : OpenClaim := { program := "ytmaecadflilbgaa", sum := "d4d1338b44de2ad3c84066c4736a7c8dec079d5c1a9d381d2d68924ff9058bd3", func := "loop.example/portmapper/laws.FnHoldsNetThree", spec := "fnHoldsNetThree", apart := false }
def FnHoldsNetThreeSaid : Prop := fnHoldsNetThreeRow.holds Try.pinned (OpenSpec.ofChange fnHoldsNetThreeSpec)

/-- ITS FALSE NEIGHBOUR: 'it returns false'. Refute it at one input. -/
def fnHoldsNetThreeWrong : ChangeSpec := { name := "fnHoldsNetThree", fn := fun _ => fun
  | [d] => { results := [.lit (.bool false)], args := [d] }
  | _ => none }
def FnHoldsNetThreeWrongFalsely : Prop := fnHoldsNetThreeRow.holds Try.pinned (OpenSpec.ofChange fnHoldsNetThreeWrong)

/-- 'laws.FnSplitNet': WHATEVER THE INPUT: true; the input reads as it did. -/
def fnSplitNetSpec : ChangeSpec := { name := "fnSplitNet", fn := fun _ => fun
  | [d] => { results := [.lit (.bool true)], args := [d] }
  | _ => none }
def fnSplitNetRow : OpenClaim := { program := "ytmaecadflilbgaa", sum := "d4d1338b44de2ad3c84066c4736a7c8dec079d5c1a9d381d2d68924ff9058bd3", func := "loop.example/portmapper/laws.FnSplitNet", spec := "fnSplitNet", apart := false }
def FnSplitNetSaid : Prop := fnSplitNetRow.holds Try.pinned (OpenSpec.ofChange fnSplitNetSpec)

/-- ITS FALSE NEIGHBOUR: 'it returns false'. Refute it at one input. -/
def fnSplitNetWrong : ChangeSpec := { name := "fnSplitNet", fn := fun _ => fun
  | [d] => { results := [.lit (.bool false)], args := [d] }
  | _ => none }
def FnSplitNetWrongFalsely : Prop := fnSplitNetRow.holds Try.pinned (OpenSpec.ofChange fnSplitNetWrong)

/-- 'laws.FnBestNetMore': WHATEVER THE INPUT: true; the input reads as it did. -/
def fnBestNetMoreSpec : ChangeSpec := { name := "fnBestNetMore", fn := fun _ => fun
  | [d] => { results := [.lit (.bool true)], args := [d] }
  | _ => none }
def fnBestNetMoreRow : OpenClaim := { program := "ytmaecadflilbgaa", sum := "d4d1338b44de2ad3c84066c4736a7c8dec079d5c1a9d381d2d68924ff9058bd3", func := "loop.example/portmapper/laws.FnBestNetMore", spec := "fnBestNetMore", apart := false }
def FnBestNetMoreSaid : Prop := fnBestNetMoreRow.holds Try.pinned (OpenSpec.ofChange fnBestNetMoreSpec)

/-- ITS FALSE NEIGHBOUR: 'it returns false'. Refute it at one input. -/
def fnBestNetMoreWrong : ChangeSpec := { name := "fnBestNetMore", fn := fun _ => fun
  | [d] => { results := [.lit (.bool false)], args := [d] }
  | _ => none }
def FnBestNetMoreWrongFalsely : Prop := fnBestNetMoreRow.holds Try.pinned (OpenSpec.ofChange fnBestNetMoreWrong)

/-- 'laws.FnBestNet': WHATEVER THE INPUT: true; the input reads as it did. -/
def fnBestNetSpec : ChangeSpec := { name := "fnBestNet", fn := fun _ => fun
  | [d] => { results := [.lit (.bool true)], args := [d] }
  | _ => none }
def fnBestNetRow : OpenClaim := { program := "ytmaecadflilbgaa", sum := "d4d1338b44de2ad3c84066c4736a7c8dec079d5c1a9d381d2d68924ff9058bd3", func := "loop.example/portmapper/laws.FnBestNet", spec := "fnBestNet", apart := false }
def FnBestNetSaid : Prop := fnBestNetRow.holds Try.pinned (OpenSpec.ofChange fnBestNetSpec)

/-- ITS FALSE NEIGHBOUR: 'it returns false'. Refute it at one input. -/
def fnBestNetWrong : ChangeSpec := { name := "fnBestNet", fn := fun _ => fun
  | [d] => { results := [.lit (.bool false)], args := [d] }
  | _ => none }
def FnBestNetWrongFalsely : Prop := fnBestNetRow.holds Try.pinned (OpenSpec.ofChange fnBestNetWrong)

/-- 'laws.FnBestNetOne': WHATEVER THE INPUT: true; the input reads as it did. -/
def fnBestNetOneSpec : ChangeSpec := { name := "fnBestNetOne", fn := fun _ => fun
  | [d] => { results := [.lit (.bool true)], args := [d] }
  | _ => none }
def fnBestNetOneRow : OpenClaim := { program := "ytmaecadflilbgaa", sum := "d4d1338b44de2ad3c84066c4736a7c8dec079d5c1a9d381d2d68924ff9058bd3", func := "loop.example/portmapper/laws.FnBestNetOne", spec := "fnBestNetOne", apart := false }
def FnBestNetOneSaid : Prop := fnBestNetOneRow.holds Try.pinned (OpenSpec.ofChange fnBestNetOneSpec)

/-- ITS FALSE NEIGHBOUR: 'it returns false'. Refute it at one input. -/
def fnBestNetOneWrong : ChangeSpec := { name := "fnBestNetOne", fn := fun _ => fun
  | [d] => { results := [.lit (.bool false)], args := [d] }
  | _ => none }
def FnBestNetOneWrongFalsely : Prop := fnBestNetOneRow.holds Try.pinned (OpenSpec.ofChange fnBestNetOneWrong)

/- THE SECOND FORM. 'bulk': how many values and letters a reading holds, each counted each time it is reached (what is shared counts as often as it is met; a slice's spare places count too). A statement '..UptoSaid' is the law's where the arguments, and the package variables that the reading takes, are together of bulk at most 1048576: NARROWER than '..Said'. Prove '..Said' where nothing that the law and all that it calls make is longer than what came in: it says more and counts as full. Else prove '..UptoSaid'. A law counts once. -/
mutual
def uptoBulk {H : Type} : DataW H → Nat
  | .lit (.string bytes) => bytes.length + 1
  | .lit _ => 1
  | .nil => 1
  | .ptr d => uptoBulk d + 1
  | .slice elems spare => uptoBulkAll elems + uptoBulkAll spare + 1
  | .agg parts => uptoBulkAll parts + 1
  | .iface _ d => uptoBulk d + 1
  | .map entries => uptoBulkEntries entries + 1
  | .held _ => 1
def uptoBulkAll {H : Type} : List (DataW H) → Nat
  | [] => 0
  | d :: r => uptoBulk d + uptoBulkAll r
def uptoBulkEntries {H : Type} : List (Lit × DataW H) → Nat
  | [] => 0
  | x :: r => uptoBulkEntry x + uptoBulkEntries r
def uptoBulkEntry {H : Type} : Lit × DataW H → Nat
  | (.string bytes, d) => bytes.length + uptoBulk d + 1
  | (_, d) => uptoBulk d + 1
 end
def uptoSmall : (H : Type) → List (DataW H) → Bool := fun _ ds => decide (uptoBulkAll ds ≤ 1048576)
def OpenSpec.upto (s : _root_.Go.ChangeSpec) : _root_.Go.OpenSpec := { _root_.Go.OpenSpec.ofChange s with cond := some uptoSmall }

/-- 'laws.FnHoldsNetIn', WHERE WHAT IT READS IS OF BULK AT MOST 1048576: true; the input reads as it did. -/
def fnHoldsNetInUptoRow : OpenClaim := { program := "ytmaecadflilbgaa", sum := "d4d1338b44de2ad3c84066c4736a7c8dec079d5c1a9d381d2d68924ff9058bd3", func := "loop.example/portmapper/laws.FnHoldsNetIn", spec := "fnHoldsNetIn", apart := false, narrowed := true }
def FnHoldsNetInUptoSaid : Prop := fnHoldsNetInUptoRow.holds Try.pinned (OpenSpec.upto fnHoldsNetInSpec)

/-- 'laws.FnInNetHolds', WHERE WHAT IT READS IS OF BULK AT MOST 1048576: true; the input reads as it did. -/
def fnInNetHoldsUptoRow : OpenClaim := { program := "ytmaecadflilbgaa", sum := "d4d1338b44de2ad3c84066c4736a7c8dec079d5c1a9d381d2d68924ff9058bd3", func := "loop.example/portmapper/laws.FnInNetHolds", spec := "fnInNetHolds", apart := false, narrowed := true }
def FnInNetHoldsUptoSaid : Prop := fnInNetHoldsUptoRow.holds Try.pinned (OpenSpec.upto fnInNetHoldsSpec)

/-- 'laws.FnInNetSplit', WHERE WHAT IT READS IS OF BULK AT MOST 1048576: true; the input reads as it did. -/
def fnInNetSplitUptoRow : OpenClaim := { program := "ytmaecadflilbgaa", sum := "d4d1338b44de2ad3c84066c4736a7c8dec079d5c1a9d381d2d68924ff9058bd3", func := "loop.example/portmapper/laws.FnInNetSplit", spec := "fnInNetSplit", apart := false, narrowed := true }
def FnInNetSplitUptoSaid : Prop := fnInNetSplitUptoRow.holds Try.pinned (OpenSpec.upto fnInNetSplitSpec)

/-- 'laws.FnHoldsNet', WHERE WHAT IT READS IS OF BULK AT MOST 1048576: true; the input reads as it did. -/
def fnHoldsNetUptoRow : OpenClaim := { program := "ytmaecadflilbgaa", sum := "d4d1338b44de2ad3c84066c4736a7c8dec079d5c1a9d381d2d68924ff9058bd3", func := "loop.example/portmapper/laws.FnHoldsNet", spec := "fnHoldsNet", apart := false, narrowed := true }
def FnHoldsNetUptoSaid : Prop := fnHoldsNetUptoRow.holds Try.pinned (OpenSpec.upto fnHoldsNetSpec)

/-- 'laws.FnHoldsNetThree', WHERE WHAT IT READS IS OF BULK AT MOST 1048576: true; the input reads as it did. -/
def fnHoldsNetThreeUptoRow : OpenClaim := { program := "ytmaecadflilbgaa", sum := "d4d1338b44de2ad3c84066c4736a7c8dec079d5c1a9d381d2d68924ff9058bd3", func := "loop.example/portmapper/laws.FnHoldsNetThree", spec := "fnHoldsNetThree", apart := false, narrowed := true }
def FnHoldsNetThreeUptoSaid : Prop := fnHoldsNetThreeUptoRow.holds Try.pinned (OpenSpec.upto fnHoldsNetThreeSpec)

/-- 'laws.FnSplitNet', WHERE WHAT IT READS IS OF BULK AT MOST 1048576: true; the input reads as it did. -/
def fnSplitNetUptoRow : OpenClaim := { program := "ytmaecadflilbgaa", sum := "d4d1338b44de2ad3c84066c4736a7c8dec079d5c1a9d381d2d68924ff9058bd3", func := "loop.example/portmapper/laws.FnSplitNet", spec := "fnSplitNet", apart := false, narrowed := true }
def FnSplitNetUptoSaid : Prop := fnSplitNetUptoRow.holds Try.pinned (OpenSpec.upto fnSplitNetSpec)

/-- 'laws.FnBestNetMore', WHERE WHAT IT READS IS OF BULK AT MOST 1048576: true; the input reads as it did. -/
def fnBestNetMoreUptoRow : OpenClaim := { program := "ytmaecadflilbgaa", sum := "d4d1338b44de2ad3c84066c4736a7c8dec079d5c1a9d381d2d68924ff9058bd3", func := "loop.example/portmapper/laws.FnBestNetMore", spec := "fnBestNetMore", apart := false, narrowed := true }
def FnBestNetMoreUptoSaid : Prop := fnBestNetMoreUptoRow.holds Try.pinned (OpenSpec.upto fnBestNetMoreSpec)

/-- 'laws.FnBestNet', WHERE WHAT IT READS IS OF BULK AT MOST 1048576: true; the input reads as it did. -/
def fnBestNetUptoRow : OpenClaim := { program := "ytmaecadflilbgaa", sum := "d4d1338b44de2ad3c84066c4736a7c8dec079d5c1a9d381d2d68924ff9058bd3", func := "loop.example/portmapper/laws.FnBestNet", spec := "fnBestNet", apart := false, narrowed := true }
def FnBestNetUptoSaid : Prop := fnBestNetUptoRow.holds Try.pinned (OpenSpec.upto fnBestNetSpec)

/-- 'laws.FnBestNetOne', WHERE WHAT IT READS IS OF BULK AT MOST 1048576: true; the input reads as it did. -/
def fnBestNetOneUptoRow : OpenClaim := { program := "ytmaecadflilbgaa", sum := "d4d1338b44de2ad3c84066c4736a7c8dec079d5c1a9d381d2d68924ff9058bd3", func := "loop.example/portmapper/laws.FnBestNetOne", spec := "fnBestNetOne", apart := false, narrowed := true }
def FnBestNetOneUptoSaid : Prop := fnBestNetOneUptoRow.holds Try.pinned (OpenSpec.upto fnBestNetOneSpec)

end Rows
end Go.Proofs.Ytmaecadflilbgaa
