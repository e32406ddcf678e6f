/-
  No cell of these rows narrows 'for every input' (looked for: loops, veiled, ifaces, maps, wideKeys, modest, calm, conditions, laid).
  DERIVED. THE GIVEN ROWS OF THIS SEAT. 9 by the template 'for every input the law returns true; each argument reads behind the call as it read before'; 0 by the template 'total and deterministic' (their statements: YtbbloignifgodaaTotals.lean).
  GIVEN WITH THE SEED: the statements are not yours to turn. If you find one false, say at which input.
  Laid BY PROGRAM, IN A SANDBOX (cutbox-rows.mjs): the forced cells as the released guide's own fill.sh prints them over the translation 6fb7ecd318e48264… (all of the seat's roots in one cut). By AI agents, Wed Nov 11 2026. No macro, syntax, notation, axiom, sorry.
-/
import Derived.Test.YtbbloignifgodaaChecked
import GoSem.Claim
import GoSem.ClaimJoined
import GoSem.ClaimMapViews
import Derived.JoinedTies
import Derived.KernelRfl
namespace Go.Proofs.Ytbbloignifgodaa
/- THE CELL 'sum', in the pinned program and in every row, IS THE sha256 OF THE DUMP (.gsa) THAT YtbbloignifgodaaProg.lean LOADS. Nothing in Lean hashes anything: it is a label: what it is worth is what the hold of that sum in a sandbox is worth. -/
noncomputable def Try.pinned : Pinned := { name := "ytbbloignifgodaa", sum := "6fb7ecd318e4826409067a5ed923d72ce487431b7b9b2c228ebe749cf3dc6306", checked := Try.checked }
namespace Rows
def none {H : Type} : Left H := { results := [], args := [] }

/-- 'laws.FnExactConstants': WHATEVER THE INPUT: true; the input reads as it did. -/
def fnExactConstantsSpec : ChangeSpec := { name := "fnExactConstants", fn := fun _ => fun
  | [] => { results := [.lit (.bool true)], args := [] }
  | _ => none }
def fnExactConstantsRow : OpenClaim := { program := "ytbbloignifgodaa", sum := "6fb7ecd318e4826409067a5ed923d72ce487431b7b9b2c228ebe749cf3dc6306", func := "loop.example/portmapper/laws.FnExactConstants", spec := "fnExactConstants", apart := false }
def FnExactConstantsSaid : Prop := fnExactConstantsRow.holds Try.pinned (OpenSpec.ofChange fnExactConstantsSpec)

/-- ITS FALSE NEIGHBOUR: 'it returns false'. Refute it at one input. -/
def fnExactConstantsWrong : ChangeSpec := { name := "fnExactConstants", fn := fun _ => fun
  | [] => { results := [.lit (.bool false)], args := [] }
  | _ => none }
def FnExactConstantsWrongFalsely : Prop := fnExactConstantsRow.holds Try.pinned (OpenSpec.ofChange fnExactConstantsWrong)

/-- 'laws.FnExactAddWords': WHATEVER THE INPUT: true; the input reads as it did. -/
def fnExactAddWordsSpec : ChangeSpec := { name := "fnExactAddWords", fn := fun _ => fun
  | [d1, d2] => { results := [.lit (.bool true)], args := [d1, d2] }
  | _ => none }
def fnExactAddWordsRow : OpenClaim := { program := "ytbbloignifgodaa", sum := "6fb7ecd318e4826409067a5ed923d72ce487431b7b9b2c228ebe749cf3dc6306", func := "loop.example/portmapper/laws.FnExactAddWords", spec := "fnExactAddWords", apart := false }
def FnExactAddWordsSaid : Prop := fnExactAddWordsRow.holds Try.pinned (OpenSpec.ofChange fnExactAddWordsSpec)

/-- ITS FALSE NEIGHBOUR: 'it returns false'. Refute it at one input. -/
def fnExactAddWordsWrong : ChangeSpec := { name := "fnExactAddWords", fn := fun _ => fun
  | [d1, d2] => { results := [.lit (.bool false)], args := [d1, d2] }
  | _ => none }
def FnExactAddWordsWrongFalsely : Prop := fnExactAddWordsRow.holds Try.pinned (OpenSpec.ofChange fnExactAddWordsWrong)

/-- 'laws.FnExactUpdateCheck': WHATEVER THE INPUT: true; the input reads as it did. -/
def fnExactUpdateCheckSpec : ChangeSpec := { name := "fnExactUpdateCheck", fn := fun _ => fun
  | [d1, d2, d3] => { results := [.lit (.bool true)], args := [d1, d2, d3] }
  | _ => none }
def fnExactUpdateCheckRow : OpenClaim := { program := "ytbbloignifgodaa", sum := "6fb7ecd318e4826409067a5ed923d72ce487431b7b9b2c228ebe749cf3dc6306", func := "loop.example/portmapper/laws.FnExactUpdateCheck", spec := "fnExactUpdateCheck", apart := false }
def FnExactUpdateCheckSaid : Prop := fnExactUpdateCheckRow.holds Try.pinned (OpenSpec.ofChange fnExactUpdateCheckSpec)

/-- ITS FALSE NEIGHBOUR: 'it returns false'. Refute it at one input. -/
def fnExactUpdateCheckWrong : ChangeSpec := { name := "fnExactUpdateCheck", fn := fun _ => fun
  | [d1, d2, d3] => { results := [.lit (.bool false)], args := [d1, d2, d3] }
  | _ => none }
def FnExactUpdateCheckWrongFalsely : Prop := fnExactUpdateCheckRow.holds Try.pinned (OpenSpec.ofChange fnExactUpdateCheckWrong)

/-- 'laws.FnAddWords': WHATEVER THE INPUT: true; the input reads as it did. -/
def fnAddWordsSpec : ChangeSpec := { name := "fnAddWords", fn := fun _ => fun
  | [d] => { results := [.lit (.bool true)], args := [d] }
  | _ => none }
def fnAddWordsRow : OpenClaim := { program := "ytbbloignifgodaa", sum := "6fb7ecd318e4826409067a5ed923d72ce487431b7b9b2c228ebe749cf3dc6306", func := "loop.example/portmapper/laws.FnAddWords", spec := "fnAddWords", apart := false }
def FnAddWordsSaid : Prop := fnAddWordsRow.holds Try.pinned (OpenSpec.ofChange fnAddWordsSpec)

/-- ITS FALSE NEIGHBOUR: 'it returns false'. Refute it at one input. -/
def fnAddWordsWrong : ChangeSpec := { name := "fnAddWords", fn := fun _ => fun
  | [d] => { results := [.lit (.bool false)], args := [d] }
  | _ => none }
def FnAddWordsWrongFalsely : Prop := fnAddWordsRow.holds Try.pinned (OpenSpec.ofChange fnAddWordsWrong)

/-- 'laws.FnAddWordsOther': WHATEVER THE INPUT: true; the input reads as it did. -/
def fnAddWordsOtherSpec : ChangeSpec := { name := "fnAddWordsOther", fn := fun _ => fun
  | [d] => { results := [.lit (.bool true)], args := [d] }
  | _ => none }
def fnAddWordsOtherRow : OpenClaim := { program := "ytbbloignifgodaa", sum := "6fb7ecd318e4826409067a5ed923d72ce487431b7b9b2c228ebe749cf3dc6306", func := "loop.example/portmapper/laws.FnAddWordsOther", spec := "fnAddWordsOther", apart := false }
def FnAddWordsOtherSaid : Prop := fnAddWordsOtherRow.holds Try.pinned (OpenSpec.ofChange fnAddWordsOtherSpec)

/-- ITS FALSE NEIGHBOUR: 'it returns false'. Refute it at one input. -/
def fnAddWordsOtherWrong : ChangeSpec := { name := "fnAddWordsOther", fn := fun _ => fun
  | [d] => { results := [.lit (.bool false)], args := [d] }
  | _ => none }
def FnAddWordsOtherWrongFalsely : Prop := fnAddWordsOtherRow.holds Try.pinned (OpenSpec.ofChange fnAddWordsOtherWrong)

/-- 'laws.FnAddWordsThree': WHATEVER THE INPUT: true; the input reads as it did. -/
def fnAddWordsThreeSpec : ChangeSpec := { name := "fnAddWordsThree", fn := fun _ => fun
  | [d] => { results := [.lit (.bool true)], args := [d] }
  | _ => none }
def fnAddWordsThreeRow : OpenClaim := { program := "ytbbloignifgodaa", sum := "6fb7ecd318e4826409067a5ed923d72ce487431b7b9b2c228ebe749cf3dc6306", func := "loop.example/portmapper/laws.FnAddWordsThree", spec := "fnAddWordsThree", apart := false }
def FnAddWordsThreeSaid : Prop := fnAddWordsThreeRow.holds Try.pinned (OpenSpec.ofChange fnAddWordsThreeSpec)

/-- ITS FALSE NEIGHBOUR: 'it returns false'. Refute it at one input. -/
def fnAddWordsThreeWrong : ChangeSpec := { name := "fnAddWordsThree", fn := fun _ => fun
  | [d] => { results := [.lit (.bool false)], args := [d] }
  | _ => none }
def FnAddWordsThreeWrongFalsely : Prop := fnAddWordsThreeRow.holds Try.pinned (OpenSpec.ofChange fnAddWordsThreeWrong)

/-- 'laws.FnUpdateCheckBack': WHATEVER THE INPUT: true; the input reads as it did. -/
def fnUpdateCheckBackSpec : ChangeSpec := { name := "fnUpdateCheckBack", fn := fun _ => fun
  | [d] => { results := [.lit (.bool true)], args := [d] }
  | _ => none }
def fnUpdateCheckBackRow : OpenClaim := { program := "ytbbloignifgodaa", sum := "6fb7ecd318e4826409067a5ed923d72ce487431b7b9b2c228ebe749cf3dc6306", func := "loop.example/portmapper/laws.FnUpdateCheckBack", spec := "fnUpdateCheckBack", apart := false }
def FnUpdateCheckBackSaid : Prop := fnUpdateCheckBackRow.holds Try.pinned (OpenSpec.ofChange fnUpdateCheckBackSpec)

/-- ITS FALSE NEIGHBOUR: 'it returns false'. Refute it at one input. -/
def fnUpdateCheckBackWrong : ChangeSpec := { name := "fnUpdateCheckBack", fn := fun _ => fun
  | [d] => { results := [.lit (.bool false)], args := [d] }
  | _ => none }
def FnUpdateCheckBackWrongFalsely : Prop := fnUpdateCheckBackRow.holds Try.pinned (OpenSpec.ofChange fnUpdateCheckBackWrong)

/-- 'laws.FnUpdateCheckSame': WHATEVER THE INPUT: true; the input reads as it did. -/
def fnUpdateCheckSameSpec : ChangeSpec := { name := "fnUpdateCheckSame", fn := fun _ => fun
  | [d] => { results := [.lit (.bool true)], args := [d] }
  | _ => none }
def fnUpdateCheckSameRow : OpenClaim := { program := "ytbbloignifgodaa", sum := "6fb7ecd318e4826409067a5ed923d72ce487431b7b9b2c228ebe749cf3dc6306", func := "loop.example/portmapper/laws.FnUpdateCheckSame", spec := "fnUpdateCheckSame", apart := false }
def FnUpdateCheckSameSaid : Prop := fnUpdateCheckSameRow.holds Try.pinned (OpenSpec.ofChange fnUpdateCheckSameSpec)

/-- ITS FALSE NEIGHBOUR: 'it returns false'. Refute it at one input. -/
def fnUpdateCheckSameWrong : ChangeSpec := { name := "fnUpdateCheckSame", fn := fun _ => fun
  | [d] => { results := [.lit (.bool false)], args := [d] }
  | _ => none }
def FnUpdateCheckSameWrongFalsely : Prop := fnUpdateCheckSameRow.holds Try.pinned (OpenSpec.ofChange fnUpdateCheckSameWrong)

/-- 'laws.FnUpdateCheckTwice': WHATEVER THE INPUT: true; the input reads as it did. -/
def fnUpdateCheckTwiceSpec : ChangeSpec := { name := "fnUpdateCheckTwice", fn := fun _ => fun
  | [d] => { results := [.lit (.bool true)], args := [d] }
  | _ => none }
def fnUpdateCheckTwiceRow : OpenClaim := { program := "ytbbloignifgodaa", sum := "6fb7ecd318e4826409067a5ed923d72ce487431b7b9b2c228ebe749cf3dc6306", func := "loop.example/portmapper/laws.FnUpdateCheckTwice", spec := "fnUpdateCheckTwice", apart := false }
def FnUpdateCheckTwiceSaid : Prop := fnUpdateCheckTwiceRow.holds Try.pinned (OpenSpec.ofChange fnUpdateCheckTwiceSpec)

/-- ITS FALSE NEIGHBOUR: 'it returns false'. Refute it at one input. -/
def fnUpdateCheckTwiceWrong : ChangeSpec := { name := "fnUpdateCheckTwice", fn := fun _ => fun
  | [d] => { results := [.lit (.bool false)], args := [d] }
  | _ => none }
def FnUpdateCheckTwiceWrongFalsely : Prop := fnUpdateCheckTwiceRow.holds Try.pinned (OpenSpec.ofChange fnUpdateCheckTwiceWrong)

/- THE SECOND FORM. 'bulk': how many values and letters a reading holds, each counted each time it is reached (what is shared counts as often as it is met; a slice's spare places count too). A statement '..UptoSaid' is the law's where the arguments, and the package variables that the reading takes, are together of bulk at most 1048576: NARROWER than '..Said'. Prove '..Said' where nothing that the law and all that it calls make is longer than what came in: it says more and counts as full. Else prove '..UptoSaid'. A law counts once. -/
mutual
def uptoBulk {H : Type} : DataW H → Nat
  | .lit (.string bytes) => bytes.length + 1
  | .lit _ => 1
  | .nil => 1
  | .ptr d => uptoBulk d + 1
  | .slice elems spare => uptoBulkAll elems + uptoBulkAll spare + 1
  | .agg parts => uptoBulkAll parts + 1
  | .iface _ d => uptoBulk d + 1
  | .map entries => uptoBulkEntries entries + 1
  | .held _ => 1
def uptoBulkAll {H : Type} : List (DataW H) → Nat
  | [] => 0
  | d :: r => uptoBulk d + uptoBulkAll r
def uptoBulkEntries {H : Type} : List (Lit × DataW H) → Nat
  | [] => 0
  | x :: r => uptoBulkEntry x + uptoBulkEntries r
def uptoBulkEntry {H : Type} : Lit × DataW H → Nat
  | (.string bytes, d) => bytes.length + uptoBulk d + 1
  | (_, d) => uptoBulk d + 1
 end
def uptoSmall : (H : Type) → List (DataW H) → Bool := fun _ ds => decide (uptoBulkAll ds ≤ 1048576)
def OpenSpec.upto (s : _root_.Go.ChangeSpec) : _root_.Go.OpenSpec := { _root_.Go.OpenSpec.ofChange s with cond := some uptoSmall }

/-- 'laws.FnExactConstants', WHERE WHAT IT READS IS OF BULK AT MOST 1048576: true; the input reads as it did. -/
def fnExactConstantsUptoRow : OpenClaim := { program := "ytbbloignifgodaa", sum := "6fb7ecd318e4826409067a5ed923d72ce487431b7b9b2c228ebe749cf3dc6306", func := "loop.example/portmapper/laws.FnExactConstants", spec := "fnExactConstants", apart := false, narrowed := true }
def FnExactConstantsUptoSaid : Prop := fnExactConstantsUptoRow.holds Try.pinned (OpenSpec.upto fnExactConstantsSpec)

/-- 'laws.FnExactAddWords', WHERE WHAT IT READS IS OF BULK AT MOST 1048576: true; the input reads as it did. -/
def fnExactAddWordsUptoRow : OpenClaim := { program := "ytbbloignifgodaa", sum := "6fb7ecd318e4826409067a5ed923d72ce487431b7b9b2c228ebe749cf3dc6306", func := "loop.example/portmapper/laws.FnExactAddWords", spec := "fnExactAddWords", apart := false, narrowed := true }
def FnExactAddWordsUptoSaid : Prop := fnExactAddWordsUptoRow.holds Try.pinned (OpenSpec.upto fnExactAddWordsSpec)

/-- 'laws.FnExactUpdateCheck', WHERE WHAT IT READS IS OF BULK AT MOST 1048576: true; the input reads as it did. -/
def fnExactUpdateCheckUptoRow : OpenClaim := { program := "ytbbloignifgodaa", sum := "6fb7ecd318e4826409067a5ed923d72ce487431b7b9b2c228ebe749cf3dc6306", func := "loop.example/portmapper/laws.FnExactUpdateCheck", spec := "fnExactUpdateCheck", apart := false, narrowed := true }
def FnExactUpdateCheckUptoSaid : Prop := fnExactUpdateCheckUptoRow.holds Try.pinned (OpenSpec.upto fnExactUpdateCheckSpec)

/-- 'laws.FnAddWords', WHERE WHAT IT READS IS OF BULK AT MOST 1048576: true; the input reads as it did. -/
def fnAddWordsUptoRow : OpenClaim := { program := "ytbbloignifgodaa", sum := "6fb7ecd318e4826409067a5ed923d72ce487431b7b9b2c228ebe749cf3dc6306", func := "loop.example/portmapper/laws.FnAddWords", spec := "fnAddWords", apart := false, narrowed := true }
def FnAddWordsUptoSaid : Prop := fnAddWordsUptoRow.holds Try.pinned (OpenSpec.upto fnAddWordsSpec)

/-- 'laws.FnAddWordsOther', WHERE WHAT IT READS IS OF BULK AT MOST 1048576: true; the input reads as it did. -/
def fnAddWordsOtherUptoRow : OpenClaim := { program := "ytbbloignifgodaa", sum := "6fb7ecd318e4826409067a5ed923d72ce487431b7b9b2c228ebe749cf3dc6306", func := "loop.example/portmapper/laws.FnAddWordsOther", spec := "fnAddWordsOther", apart := false, narrowed := true }
def FnAddWordsOtherUptoSaid : Prop := fnAddWordsOtherUptoRow.holds Try.pinned (OpenSpec.upto fnAddWordsOtherSpec)

/-- 'laws.FnAddWordsThree', WHERE WHAT IT READS IS OF BULK AT MOST 1048576: true; the input reads as it did. -/
def fnAddWordsThreeUptoRow : OpenClaim := { program := "ytbbloignifgodaa", sum := "6fb7ecd318e4826409067a5ed923d72ce487431b7b9b2c228ebe749cf3dc6306", func := "loop.example/portmapper/laws.FnAddWordsThree", spec := "fnAddWordsThree", apart := false, narrowed := true }
def FnAddWordsThreeUptoSaid : Prop := fnAddWordsThreeUptoRow.holds Try.pinned (OpenSpec.upto fnAddWordsThreeSpec)

/-- 'laws.FnUpdateCheckBack', WHERE WHAT IT READS IS OF BULK AT MOST 1048576: true; the input reads as it did. -/
def fnUpdateCheckBackUptoRow : OpenClaim := { program := "ytbbloignifgodaa", sum := "6fb7ecd318e4826409067a5ed923d72ce487431b7b9b2c228ebe749cf3dc6306", func := "loop.example/portmapper/laws.FnUpdateCheckBack", spec := "fnUpdateCheckBack", apart := false, narrowed := true }
def FnUpdateCheckBackUptoSaid : Prop := fnUpdateCheckBackUptoRow.holds Try.pinned (OpenSpec.upto fnUpdateCheckBackSpec)

/-- 'laws.FnUpdateCheckSame', WHERE WHAT IT READS IS OF BULK AT MOST 1048576: true; the input reads as it did. -/
def fnUpdateCheckSameUptoRow : OpenClaim := { program := "ytbbloignifgodaa", sum := "6fb7ecd318e4826409067a5ed923d72ce487431b7b9b2c228ebe749cf3dc6306", func := "loop.example/portmapper/laws.FnUpdateCheckSame", spec := "fnUpdateCheckSame", apart := false, narrowed := true }
def FnUpdateCheckSameUptoSaid : Prop := fnUpdateCheckSameUptoRow.holds Try.pinned (OpenSpec.upto fnUpdateCheckSameSpec)

/-- 'laws.FnUpdateCheckTwice', WHERE WHAT IT READS IS OF BULK AT MOST 1048576: true; the input reads as it did. -/
def fnUpdateCheckTwiceUptoRow : OpenClaim := { program := "ytbbloignifgodaa", sum := "6fb7ecd318e4826409067a5ed923d72ce487431b7b9b2c228ebe749cf3dc6306", func := "loop.example/portmapper/laws.FnUpdateCheckTwice", spec := "fnUpdateCheckTwice", apart := false, narrowed := true }
def FnUpdateCheckTwiceUptoSaid : Prop := fnUpdateCheckTwiceUptoRow.holds Try.pinned (OpenSpec.upto fnUpdateCheckTwiceSpec)

end Rows
end Go.Proofs.Ytbbloignifgodaa
