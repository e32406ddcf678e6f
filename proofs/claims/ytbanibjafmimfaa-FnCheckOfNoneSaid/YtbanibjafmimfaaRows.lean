/-
  No cell of these rows narrows 'for every input' (looked for: loops, veiled, ifaces, maps, wideKeys, modest, calm, conditions, laid).
  DERIVED. THE GIVEN ROWS OF THIS SEAT. 6 by the template 'for every input the law returns true; each argument reads behind the call as it read before'; 0 by the template 'total and deterministic' (their statements: YtbanibjafmimfaaTotals.lean).
  GIVEN WITH THE SEED: the statements are not yours to turn. If you find one false, say at which input.
  Laid BY PROGRAM, IN A SANDBOX (cutbox-rows.mjs): the forced cells as the released guide's own fill.sh prints them over the translation a6e4621096e3e5da… (all of the seat's roots in one cut). By AI agents, Wed Nov 11 2026. No macro, syntax, notation, axiom, sorry.
-/
import Derived.Test.YtbanibjafmimfaaChecked
import GoSem.Claim
import GoSem.ClaimJoined
import GoSem.ClaimMapViews
import Derived.JoinedTies
import Derived.KernelRfl
namespace Go.Proofs.Ytbanibjafmimfaa
/- THE CELL 'sum', in the pinned program and in every row, IS THE sha256 OF THE DUMP (.gsa) THAT YtbanibjafmimfaaProg.lean LOADS. Nothing in Lean hashes anything: it is a label: what it is worth is what the hold of that sum in a sandbox is worth. -/
noncomputable def Try.pinned : Pinned := { name := "ytbanibjafmimfaa", sum := "a6e4621096e3e5da8e29c07fc3adcb053aadffe87bd1275a1f1cb3595ddb75e7", checked := Try.checked }
namespace Rows
def none {H : Type} : Left H := { results := [], args := [] }

/-- 'laws.FnCheckOfNone': WHATEVER THE INPUT: true; the input reads as it did. -/
def fnCheckOfNoneSpec : ChangeSpec := { name := "fnCheckOfNone", fn := fun _ => fun
  | [d] => { results := [.lit (.bool true)], args := [d] }
  | _ => none }
def fnCheckOfNoneRow : OpenClaim := { program := "ytbanibjafmimfaa", sum := "a6e4621096e3e5da8e29c07fc3adcb053aadffe87bd1275a1f1cb3595ddb75e7", func := "loop.example/portmapper/laws.FnCheckOfNone", spec := "fnCheckOfNone", apart := false }
def FnCheckOfNoneSaid : Prop := fnCheckOfNoneRow.holds Try.pinned (OpenSpec.ofChange fnCheckOfNoneSpec)

/-- ITS FALSE NEIGHBOUR: 'it returns false'. Refute it at one input. -/
def fnCheckOfNoneWrong : ChangeSpec := { name := "fnCheckOfNone", fn := fun _ => fun
  | [d] => { results := [.lit (.bool false)], args := [d] }
  | _ => none }
def FnCheckOfNoneWrongFalsely : Prop := fnCheckOfNoneRow.holds Try.pinned (OpenSpec.ofChange fnCheckOfNoneWrong)

/-- 'laws.FnCheckOf': WHATEVER THE INPUT: true; the input reads as it did. -/
def fnCheckOfSpec : ChangeSpec := { name := "fnCheckOf", fn := fun _ => fun
  | [d] => { results := [.lit (.bool true)], args := [d] }
  | _ => none }
def fnCheckOfRow : OpenClaim := { program := "ytbanibjafmimfaa", sum := "a6e4621096e3e5da8e29c07fc3adcb053aadffe87bd1275a1f1cb3595ddb75e7", func := "loop.example/portmapper/laws.FnCheckOf", spec := "fnCheckOf", apart := false }
def FnCheckOfSaid : Prop := fnCheckOfRow.holds Try.pinned (OpenSpec.ofChange fnCheckOfSpec)

/-- ITS FALSE NEIGHBOUR: 'it returns false'. Refute it at one input. -/
def fnCheckOfWrong : ChangeSpec := { name := "fnCheckOf", fn := fun _ => fun
  | [d] => { results := [.lit (.bool false)], args := [d] }
  | _ => none }
def FnCheckOfWrongFalsely : Prop := fnCheckOfRow.holds Try.pinned (OpenSpec.ofChange fnCheckOfWrong)

/-- 'laws.FnCheckOfOther': WHATEVER THE INPUT: true; the input reads as it did. -/
def fnCheckOfOtherSpec : ChangeSpec := { name := "fnCheckOfOther", fn := fun _ => fun
  | [d] => { results := [.lit (.bool true)], args := [d] }
  | _ => none }
def fnCheckOfOtherRow : OpenClaim := { program := "ytbanibjafmimfaa", sum := "a6e4621096e3e5da8e29c07fc3adcb053aadffe87bd1275a1f1cb3595ddb75e7", func := "loop.example/portmapper/laws.FnCheckOfOther", spec := "fnCheckOfOther", apart := false }
def FnCheckOfOtherSaid : Prop := fnCheckOfOtherRow.holds Try.pinned (OpenSpec.ofChange fnCheckOfOtherSpec)

/-- ITS FALSE NEIGHBOUR: 'it returns false'. Refute it at one input. -/
def fnCheckOfOtherWrong : ChangeSpec := { name := "fnCheckOfOther", fn := fun _ => fun
  | [d] => { results := [.lit (.bool false)], args := [d] }
  | _ => none }
def FnCheckOfOtherWrongFalsely : Prop := fnCheckOfOtherRow.holds Try.pinned (OpenSpec.ofChange fnCheckOfOtherWrong)

/-- 'laws.FnIsRight': WHATEVER THE INPUT: true; the input reads as it did. -/
def fnIsRightSpec : ChangeSpec := { name := "fnIsRight", fn := fun _ => fun
  | [d] => { results := [.lit (.bool true)], args := [d] }
  | _ => none }
def fnIsRightRow : OpenClaim := { program := "ytbanibjafmimfaa", sum := "a6e4621096e3e5da8e29c07fc3adcb053aadffe87bd1275a1f1cb3595ddb75e7", func := "loop.example/portmapper/laws.FnIsRight", spec := "fnIsRight", apart := false }
def FnIsRightSaid : Prop := fnIsRightRow.holds Try.pinned (OpenSpec.ofChange fnIsRightSpec)

/-- ITS FALSE NEIGHBOUR: 'it returns false'. Refute it at one input. -/
def fnIsRightWrong : ChangeSpec := { name := "fnIsRight", fn := fun _ => fun
  | [d] => { results := [.lit (.bool false)], args := [d] }
  | _ => none }
def FnIsRightWrongFalsely : Prop := fnIsRightRow.holds Try.pinned (OpenSpec.ofChange fnIsRightWrong)

/-- 'laws.FnIsRightOther': WHATEVER THE INPUT: true; the input reads as it did. -/
def fnIsRightOtherSpec : ChangeSpec := { name := "fnIsRightOther", fn := fun _ => fun
  | [d] => { results := [.lit (.bool true)], args := [d] }
  | _ => none }
def fnIsRightOtherRow : OpenClaim := { program := "ytbanibjafmimfaa", sum := "a6e4621096e3e5da8e29c07fc3adcb053aadffe87bd1275a1f1cb3595ddb75e7", func := "loop.example/portmapper/laws.FnIsRightOther", spec := "fnIsRightOther", apart := false }
def FnIsRightOtherSaid : Prop := fnIsRightOtherRow.holds Try.pinned (OpenSpec.ofChange fnIsRightOtherSpec)

/-- ITS FALSE NEIGHBOUR: 'it returns false'. Refute it at one input. -/
def fnIsRightOtherWrong : ChangeSpec := { name := "fnIsRightOther", fn := fun _ => fun
  | [d] => { results := [.lit (.bool false)], args := [d] }
  | _ => none }
def FnIsRightOtherWrongFalsely : Prop := fnIsRightOtherRow.holds Try.pinned (OpenSpec.ofChange fnIsRightOtherWrong)

/-- 'laws.FnUpdateCheck': WHATEVER THE INPUT: true; the input reads as it did. -/
def fnUpdateCheckSpec : ChangeSpec := { name := "fnUpdateCheck", fn := fun _ => fun
  | [d] => { results := [.lit (.bool true)], args := [d] }
  | _ => none }
def fnUpdateCheckRow : OpenClaim := { program := "ytbanibjafmimfaa", sum := "a6e4621096e3e5da8e29c07fc3adcb053aadffe87bd1275a1f1cb3595ddb75e7", func := "loop.example/portmapper/laws.FnUpdateCheck", spec := "fnUpdateCheck", apart := false }
def FnUpdateCheckSaid : Prop := fnUpdateCheckRow.holds Try.pinned (OpenSpec.ofChange fnUpdateCheckSpec)

/-- ITS FALSE NEIGHBOUR: 'it returns false'. Refute it at one input. -/
def fnUpdateCheckWrong : ChangeSpec := { name := "fnUpdateCheck", fn := fun _ => fun
  | [d] => { results := [.lit (.bool false)], args := [d] }
  | _ => none }
def FnUpdateCheckWrongFalsely : Prop := fnUpdateCheckRow.holds Try.pinned (OpenSpec.ofChange fnUpdateCheckWrong)

/- THE SECOND FORM. 'bulk': how many values and letters a reading holds, each counted each time it is reached (what is shared counts as often as it is met; a slice's spare places count too). A statement '..UptoSaid' is the law's where the arguments, and the package variables that the reading takes, are together of bulk at most 1048576: NARROWER than '..Said'. Prove '..Said' where nothing that the law and all that it calls make is longer than what came in: it says more and counts as full. Else prove '..UptoSaid'. A law counts once. -/
mutual
def uptoBulk {H : Type} : DataW H → Nat
  | .lit (.string bytes) => bytes.length + 1
  | .lit _ => 1
  | .nil => 1
  | .ptr d => uptoBulk d + 1
  | .slice elems spare => uptoBulkAll elems + uptoBulkAll spare + 1
  | .agg parts => uptoBulkAll parts + 1
  | .iface _ d => uptoBulk d + 1
  | .map entries => uptoBulkEntries entries + 1
  | .held _ => 1
def uptoBulkAll {H : Type} : List (DataW H) → Nat
  | [] => 0
  | d :: r => uptoBulk d + uptoBulkAll r
def uptoBulkEntries {H : Type} : List (Lit × DataW H) → Nat
  | [] => 0
  | x :: r => uptoBulkEntry x + uptoBulkEntries r
def uptoBulkEntry {H : Type} : Lit × DataW H → Nat
  | (.string bytes, d) => bytes.length + uptoBulk d + 1
  | (_, d) => uptoBulk d + 1
 end
def uptoSmall : (H : Type) → List (DataW H) → Bool := fun _ ds => decide (uptoBulkAll ds ≤ 1048576)
def OpenSpec.upto (s : _root_.Go.ChangeSpec) : _root_.Go.OpenSpec := { _root_.Go.OpenSpec.ofChange s with cond := some uptoSmall }

/-- 'laws.FnCheckOfNone', WHERE WHAT IT READS IS OF BULK AT MOST 1048576: true; the input reads as it did. -/
def fnCheckOfNoneUptoRow : OpenClaim := { program := "ytbanibjafmimfaa", sum := "a6e4621096e3e5da8e29c07fc3adcb053aadffe87bd1275a1f1cb3595ddb75e7", func := "loop.example/portmapper/laws.FnCheckOfNone", spec := "fnCheckOfNone", apart := false, narrowed := true }
def FnCheckOfNoneUptoSaid : Prop := fnCheckOfNoneUptoRow.holds Try.pinned (OpenSpec.upto fnCheckOfNoneSpec)

/-- 'laws.FnCheckOf', WHERE WHAT IT READS IS OF BULK AT MOST 1048576: true; the input reads as it did. -/
def fnCheckOfUptoRow : OpenClaim := { program := "ytbanibjafmimfaa", sum := "a6e4621096e3e5da8e29c07fc3adcb053aadffe87bd1275a1f1cb3595ddb75e7", func := "loop.example/portmapper/laws.FnCheckOf", spec := "fnCheckOf", apart := false, narrowed := true }
def FnCheckOfUptoSaid : Prop := fnCheckOfUptoRow.holds Try.pinned (OpenSpec.upto fnCheckOfSpec)

/-- 'laws.FnCheckOfOther', WHERE WHAT IT READS IS OF BULK AT MOST 1048576: true; the input reads as it did. -/
def fnCheckOfOtherUptoRow : OpenClaim := { program := "ytbanibjafmimfaa", sum := "a6e4621096e3e5da8e29c07fc3adcb053aadffe87bd1275a1f1cb3595ddb75e7", func := "loop.example/portmapper/laws.FnCheckOfOther", spec := "fnCheckOfOther", apart := false, narrowed := true }
def FnCheckOfOtherUptoSaid : Prop := fnCheckOfOtherUptoRow.holds Try.pinned (OpenSpec.upto fnCheckOfOtherSpec)

/-- 'laws.FnIsRight', WHERE WHAT IT READS IS OF BULK AT MOST 1048576: true; the input reads as it did. -/
def fnIsRightUptoRow : OpenClaim := { program := "ytbanibjafmimfaa", sum := "a6e4621096e3e5da8e29c07fc3adcb053aadffe87bd1275a1f1cb3595ddb75e7", func := "loop.example/portmapper/laws.FnIsRight", spec := "fnIsRight", apart := false, narrowed := true }
def FnIsRightUptoSaid : Prop := fnIsRightUptoRow.holds Try.pinned (OpenSpec.upto fnIsRightSpec)

/-- 'laws.FnIsRightOther', WHERE WHAT IT READS IS OF BULK AT MOST 1048576: true; the input reads as it did. -/
def fnIsRightOtherUptoRow : OpenClaim := { program := "ytbanibjafmimfaa", sum := "a6e4621096e3e5da8e29c07fc3adcb053aadffe87bd1275a1f1cb3595ddb75e7", func := "loop.example/portmapper/laws.FnIsRightOther", spec := "fnIsRightOther", apart := false, narrowed := true }
def FnIsRightOtherUptoSaid : Prop := fnIsRightOtherUptoRow.holds Try.pinned (OpenSpec.upto fnIsRightOtherSpec)

/-- 'laws.FnUpdateCheck', WHERE WHAT IT READS IS OF BULK AT MOST 1048576: true; the input reads as it did. -/
def fnUpdateCheckUptoRow : OpenClaim := { program := "ytbanibjafmimfaa", sum := "a6e4621096e3e5da8e29c07fc3adcb053aadffe87bd1275a1f1cb3595ddb75e7", func := "loop.example/portmapper/laws.FnUpdateCheck", spec := "fnUpdateCheck", apart := false, narrowed := true }
def FnUpdateCheckUptoSaid : Prop := fnUpdateCheckUptoRow.holds Try.pinned (OpenSpec.upto fnUpdateCheckSpec)

end Rows
end Go.Proofs.Ytbanibjafmimfaa
