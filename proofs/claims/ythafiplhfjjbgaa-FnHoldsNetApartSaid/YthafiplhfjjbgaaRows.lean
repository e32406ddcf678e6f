/-
  No cell of these rows narrows 'for every input' (looked for: loops, veiled, ifaces, maps, wideKeys, modest, calm, conditions, laid).
  DERIVED. THE GIVEN ROWS OF THIS SEAT. 9 by the template 'for every input the law returns true; each argument reads behind the call as it read before'; 0 by the template 'total and deterministic' (their statements: YthafiplhfjjbgaaTotals.lean).
  GIVEN WITH THE SEED: the statements are not yours to turn. If you find one false, say at which input.
  Laid BY PROGRAM, IN A SANDBOX (cutbox-rows.mjs): the forced cells as the released guide's own fill.sh prints them over the translation 0a5b0781c4fb4e80… (all of the seat's roots in one cut). By AI agents, Wed Nov 11 2026. No macro, syntax, notation, axiom, sorry.
-/
import Derived.Test.YthafiplhfjjbgaaChecked
import GoSem.Claim
import GoSem.ClaimJoined
import GoSem.ClaimMapViews
import Derived.JoinedTies
import Derived.KernelRfl
namespace Go.Proofs.Ythafiplhfjjbgaa
/- THE CELL 'sum', in the pinned program and in every row, IS THE sha256 OF THE DUMP (.gsa) THAT YthafiplhfjjbgaaProg.lean LOADS. Nothing in Lean hashes anything: it is a label: what it is worth is what the hold of that sum in a sandbox is worth. -/
noncomputable def Try.pinned : Pinned := { name := "ythafiplhfjjbgaa", sum := "0a5b0781c4fb4e80920b81dc13847f980f1341850b87723bf24359c9482ffff3", checked := Try.checked }
namespace Rows
def none {H : Type} : Left H := { results := [], args := [] }

/-- 'laws.FnExactValidNet': WHATEVER THE INPUT: true; the input reads as it did. -/
def fnExactValidNetSpec : ChangeSpec := { name := "fnExactValidNet", fn := fun _ => fun
  | [d] => { results := [.lit (.bool true)], args := [d] }
  | _ => none }
def fnExactValidNetRow : OpenClaim := { program := "ythafiplhfjjbgaa", sum := "0a5b0781c4fb4e80920b81dc13847f980f1341850b87723bf24359c9482ffff3", func := "loop.example/portmapper/laws.FnExactValidNet", spec := "fnExactValidNet", apart := false }
def FnExactValidNetSaid : Prop := fnExactValidNetRow.holds Try.pinned (OpenSpec.ofChange fnExactValidNetSpec)

/-- ITS FALSE NEIGHBOUR: 'it returns false'. Refute it at one input. -/
def fnExactValidNetWrong : ChangeSpec := { name := "fnExactValidNet", fn := fun _ => fun
  | [d] => { results := [.lit (.bool false)], args := [d] }
  | _ => none }
def FnExactValidNetWrongFalsely : Prop := fnExactValidNetRow.holds Try.pinned (OpenSpec.ofChange fnExactValidNetWrong)

/-- 'laws.FnExactInNet': WHATEVER THE INPUT: true; the input reads as it did. -/
def fnExactInNetSpec : ChangeSpec := { name := "fnExactInNet", fn := fun _ => fun
  | [d1, d2] => { results := [.lit (.bool true)], args := [d1, d2] }
  | _ => none }
def fnExactInNetRow : OpenClaim := { program := "ythafiplhfjjbgaa", sum := "0a5b0781c4fb4e80920b81dc13847f980f1341850b87723bf24359c9482ffff3", func := "loop.example/portmapper/laws.FnExactInNet", spec := "fnExactInNet", apart := false }
def FnExactInNetSaid : Prop := fnExactInNetRow.holds Try.pinned (OpenSpec.ofChange fnExactInNetSpec)

/-- ITS FALSE NEIGHBOUR: 'it returns false'. Refute it at one input. -/
def fnExactInNetWrong : ChangeSpec := { name := "fnExactInNet", fn := fun _ => fun
  | [d1, d2] => { results := [.lit (.bool false)], args := [d1, d2] }
  | _ => none }
def FnExactInNetWrongFalsely : Prop := fnExactInNetRow.holds Try.pinned (OpenSpec.ofChange fnExactInNetWrong)

/-- 'laws.FnExactHoldsNet': WHATEVER THE INPUT: true; the input reads as it did. -/
def fnExactHoldsNetSpec : ChangeSpec := { name := "fnExactHoldsNet", fn := fun _ => fun
  | [d1, d2] => { results := [.lit (.bool true)], args := [d1, d2] }
  | _ => none }
def fnExactHoldsNetRow : OpenClaim := { program := "ythafiplhfjjbgaa", sum := "0a5b0781c4fb4e80920b81dc13847f980f1341850b87723bf24359c9482ffff3", func := "loop.example/portmapper/laws.FnExactHoldsNet", spec := "fnExactHoldsNet", apart := false }
def FnExactHoldsNetSaid : Prop := fnExactHoldsNetRow.holds Try.pinned (OpenSpec.ofChange fnExactHoldsNetSpec)

/-- ITS FALSE NEIGHBOUR: 'it returns false'. Refute it at one input. -/
def fnExactHoldsNetWrong : ChangeSpec := { name := "fnExactHoldsNet", fn := fun _ => fun
  | [d1, d2] => { results := [.lit (.bool false)], args := [d1, d2] }
  | _ => none }
def FnExactHoldsNetWrongFalsely : Prop := fnExactHoldsNetRow.holds Try.pinned (OpenSpec.ofChange fnExactHoldsNetWrong)

/-- 'laws.FnValidNet': WHATEVER THE INPUT: true; the input reads as it did. -/
def fnValidNetSpec : ChangeSpec := { name := "fnValidNet", fn := fun _ => fun
  | [d] => { results := [.lit (.bool true)], args := [d] }
  | _ => none }
def fnValidNetRow : OpenClaim := { program := "ythafiplhfjjbgaa", sum := "0a5b0781c4fb4e80920b81dc13847f980f1341850b87723bf24359c9482ffff3", func := "loop.example/portmapper/laws.FnValidNet", spec := "fnValidNet", apart := false }
def FnValidNetSaid : Prop := fnValidNetRow.holds Try.pinned (OpenSpec.ofChange fnValidNetSpec)

/-- ITS FALSE NEIGHBOUR: 'it returns false'. Refute it at one input. -/
def fnValidNetWrong : ChangeSpec := { name := "fnValidNet", fn := fun _ => fun
  | [d] => { results := [.lit (.bool false)], args := [d] }
  | _ => none }
def FnValidNetWrongFalsely : Prop := fnValidNetRow.holds Try.pinned (OpenSpec.ofChange fnValidNetWrong)

/-- 'laws.FnValidNetAll': WHATEVER THE INPUT: true; the input reads as it did. -/
def fnValidNetAllSpec : ChangeSpec := { name := "fnValidNetAll", fn := fun _ => fun
  | [d] => { results := [.lit (.bool true)], args := [d] }
  | _ => none }
def fnValidNetAllRow : OpenClaim := { program := "ythafiplhfjjbgaa", sum := "0a5b0781c4fb4e80920b81dc13847f980f1341850b87723bf24359c9482ffff3", func := "loop.example/portmapper/laws.FnValidNetAll", spec := "fnValidNetAll", apart := false }
def FnValidNetAllSaid : Prop := fnValidNetAllRow.holds Try.pinned (OpenSpec.ofChange fnValidNetAllSpec)

/-- ITS FALSE NEIGHBOUR: 'it returns false'. Refute it at one input. -/
def fnValidNetAllWrong : ChangeSpec := { name := "fnValidNetAll", fn := fun _ => fun
  | [d] => { results := [.lit (.bool false)], args := [d] }
  | _ => none }
def FnValidNetAllWrongFalsely : Prop := fnValidNetAllRow.holds Try.pinned (OpenSpec.ofChange fnValidNetAllWrong)

/-- 'laws.FnInNet': WHATEVER THE INPUT: true; the input reads as it did. -/
def fnInNetSpec : ChangeSpec := { name := "fnInNet", fn := fun _ => fun
  | [d] => { results := [.lit (.bool true)], args := [d] }
  | _ => none }
def fnInNetRow : OpenClaim := { program := "ythafiplhfjjbgaa", sum := "0a5b0781c4fb4e80920b81dc13847f980f1341850b87723bf24359c9482ffff3", func := "loop.example/portmapper/laws.FnInNet", spec := "fnInNet", apart := false }
def FnInNetSaid : Prop := fnInNetRow.holds Try.pinned (OpenSpec.ofChange fnInNetSpec)

/-- ITS FALSE NEIGHBOUR: 'it returns false'. Refute it at one input. -/
def fnInNetWrong : ChangeSpec := { name := "fnInNet", fn := fun _ => fun
  | [d] => { results := [.lit (.bool false)], args := [d] }
  | _ => none }
def FnInNetWrongFalsely : Prop := fnInNetRow.holds Try.pinned (OpenSpec.ofChange fnInNetWrong)

/-- 'laws.FnExactSplitNet': WHATEVER THE INPUT: true; the input reads as it did. -/
def fnExactSplitNetSpec : ChangeSpec := { name := "fnExactSplitNet", fn := fun _ => fun
  | [d] => { results := [.lit (.bool true)], args := [d] }
  | _ => none }
def fnExactSplitNetRow : OpenClaim := { program := "ythafiplhfjjbgaa", sum := "0a5b0781c4fb4e80920b81dc13847f980f1341850b87723bf24359c9482ffff3", func := "loop.example/portmapper/laws.FnExactSplitNet", spec := "fnExactSplitNet", apart := false }
def FnExactSplitNetSaid : Prop := fnExactSplitNetRow.holds Try.pinned (OpenSpec.ofChange fnExactSplitNetSpec)

/-- ITS FALSE NEIGHBOUR: 'it returns false'. Refute it at one input. -/
def fnExactSplitNetWrong : ChangeSpec := { name := "fnExactSplitNet", fn := fun _ => fun
  | [d] => { results := [.lit (.bool false)], args := [d] }
  | _ => none }
def FnExactSplitNetWrongFalsely : Prop := fnExactSplitNetRow.holds Try.pinned (OpenSpec.ofChange fnExactSplitNetWrong)

/-- 'laws.FnHoldsNetApart': WHATEVER THE INPUT: true; the input reads as it did. -/
def fnHoldsNetApartSpec : ChangeSpec := { name := "fnHoldsNetApart", fn := fun _ => fun
  | [d] => { results := [.lit (.bool true)], args := [d] }
  | _ => none }
def fnHoldsNetApartRow : OpenClaim := { program := "ythafiplhfjjbgaa", sum := "0a5b0781c4fb4e80920b81dc13847f980f1341850b87723bf24359c9482ffff3", func := "loop.example/portmapper/laws.FnHoldsNetApart", spec := "fnHoldsNetApart", apart := false }
def FnHoldsNetApartSaid : Prop := fnHoldsNetApartRow.holds Try.pinned (OpenSpec.ofChange fnHoldsNetApartSpec)

/-- ITS FALSE NEIGHBOUR: 'it returns false'. Refute it at one input. -/
def fnHoldsNetApartWrong : ChangeSpec := { name := "fnHoldsNetApart", fn := fun _ => fun
  | [d] => { results := [.lit (.bool false)], args := [d] }
  | _ => none }
def FnHoldsNetApartWrongFalsely : Prop := fnHoldsNetApartRow.holds Try.pinned (OpenSpec.ofChange fnHoldsNetApartWrong)

/-- 'laws.FnExactBestNet': WHATEVER THE INPUT: true; the input reads as it did. -/
def fnExactBestNetSpec : ChangeSpec := { name := "fnExactBestNet", fn := fun _ => fun
  | [d1, d2] => { results := [.lit (.bool true)], args := [d1, d2] }
  | _ => none }
def fnExactBestNetRow : OpenClaim := { program := "ythafiplhfjjbgaa", sum := "0a5b0781c4fb4e80920b81dc13847f980f1341850b87723bf24359c9482ffff3", func := "loop.example/portmapper/laws.FnExactBestNet", spec := "fnExactBestNet", apart := false }
def FnExactBestNetSaid : Prop := fnExactBestNetRow.holds Try.pinned (OpenSpec.ofChange fnExactBestNetSpec)

/-- ITS FALSE NEIGHBOUR: 'it returns false'. Refute it at one input. -/
def fnExactBestNetWrong : ChangeSpec := { name := "fnExactBestNet", fn := fun _ => fun
  | [d1, d2] => { results := [.lit (.bool false)], args := [d1, d2] }
  | _ => none }
def FnExactBestNetWrongFalsely : Prop := fnExactBestNetRow.holds Try.pinned (OpenSpec.ofChange fnExactBestNetWrong)

/- THE SECOND FORM. 'bulk': how many values and letters a reading holds, each counted each time it is reached (what is shared counts as often as it is met; a slice's spare places count too). A statement '..UptoSaid' is the law's where the arguments, and the package variables that the reading takes, are together of bulk at most 1048576: NARROWER than '..Said'. Prove '..Said' where nothing that the law and all that it calls make is longer than what came in: it says more and counts as full. Else prove '..UptoSaid'. A law counts once. -/
mutual
def uptoBulk {H : Type} : DataW H → Nat
  | .lit (.string bytes) => bytes.length + 1
  | .lit _ => 1
  | .nil => 1
  | .ptr d => uptoBulk d + 1
  | .slice elems spare => uptoBulkAll elems + uptoBulkAll spare + 1
  | .agg parts => uptoBulkAll parts + 1
  | .iface _ d => uptoBulk d + 1
  | .map entries => uptoBulkEntries entries + 1
  | .held _ => 1
def uptoBulkAll {H : Type} : List (DataW H) → Nat
  | [] => 0
  | d :: r => uptoBulk d + uptoBulkAll r
def uptoBulkEntries {H : Type} : List (Lit × DataW H) → Nat
  | [] => 0
  | x :: r => uptoBulkEntry x + uptoBulkEntries r
def uptoBulkEntry {H : Type} : Lit × DataW H → Nat
  | (.string bytes, d) => bytes.length + uptoBulk d + 1
  | (_, d) => uptoBulk d + 1
 end
def uptoSmall : (H : Type) → List (DataW H) → Bool := fun _ ds => decide (uptoBulkAll ds ≤ 1048576)
def OpenSpec.upto (s : _root_.Go.ChangeSpec) : _root_.Go.OpenSpec := { _root_.Go.OpenSpec.ofChange s with cond := some uptoSmall }

/-- 'laws.FnExactValidNet', WHERE WHAT IT READS IS OF BULK AT MOST 1048576: true; the input reads as it did. -/
def fnExactValidNetUptoRow : OpenClaim := { program := "ythafiplhfjjbgaa", sum := "0a5b0781c4fb4e80920b81dc13847f980f1341850b87723bf24359c9482ffff3", func := "loop.example/portmapper/laws.FnExactValidNet", spec := "fnExactValidNet", apart := false, narrowed := true }
def FnExactValidNetUptoSaid : Prop := fnExactValidNetUptoRow.holds Try.pinned (OpenSpec.upto fnExactValidNetSpec)

/-- 'laws.FnExactInNet', WHERE WHAT IT READS IS OF BULK AT MOST 1048576: true; the input reads as it did. -/
def fnExactInNetUptoRow : OpenClaim := { program := "ythafiplhfjjbgaa", sum := "0a5b0781c4fb4e80920b81dc13847f980f1341850b87723bf24359c9482ffff3", func := "loop.example/portmapper/laws.FnExactInNet", spec := "fnExactInNet", apart := false, narrowed := true }
def FnExactInNetUptoSaid : Prop := fnExactInNetUptoRow.holds Try.pinned (OpenSpec.upto fnExactInNetSpec)

/-- 'laws.FnExactHoldsNet', WHERE WHAT IT READS IS OF BULK AT MOST 1048576: true; the input reads as it did. -/
def fnExactHoldsNetUptoRow : OpenClaim := { program := "ythafiplhfjjbgaa", sum := "0a5b0781c4fb4e80920b81dc13847f980f1341850b87723bf24359c9482ffff3", func := "loop.example/portmapper/laws.FnExactHoldsNet", spec := "fnExactHoldsNet", apart := false, narrowed := true }
def FnExactHoldsNetUptoSaid : Prop := fnExactHoldsNetUptoRow.holds Try.pinned (OpenSpec.upto fnExactHoldsNetSpec)

/-- 'laws.FnValidNet', WHERE WHAT IT READS IS OF BULK AT MOST 1048576: true; the input reads as it did. -/
def fnValidNetUptoRow : OpenClaim := { program := "ythafiplhfjjbgaa", sum := "0a5b0781c4fb4e80920b81dc13847f980f1341850b87723bf24359c9482ffff3", func := "loop.example/portmapper/laws.FnValidNet", spec := "fnValidNet", apart := false, narrowed := true }
def FnValidNetUptoSaid : Prop := fnValidNetUptoRow.holds Try.pinned (OpenSpec.upto fnValidNetSpec)

/-- 'laws.FnValidNetAll', WHERE WHAT IT READS IS OF BULK AT MOST 1048576: true; the input reads as it did. -/
def fnValidNetAllUptoRow : OpenClaim := { program := "ythafiplhfjjbgaa", sum := "0a5b0781c4fb4e80920b81dc13847f980f1341850b87723bf24359c9482ffff3", func := "loop.example/portmapper/laws.FnValidNetAll", spec := "fnValidNetAll", apart := false, narrowed := true }
def FnValidNetAllUptoSaid : Prop := fnValidNetAllUptoRow.holds Try.pinned (OpenSpec.upto fnValidNetAllSpec)

/-- 'laws.FnInNet', WHERE WHAT IT READS IS OF BULK AT MOST 1048576: true; the input reads as it did. -/
def fnInNetUptoRow : OpenClaim := { program := "ythafiplhfjjbgaa", sum := "0a5b0781c4fb4e80920b81dc13847f980f1341850b87723bf24359c9482ffff3", func := "loop.example/portmapper/laws.FnInNet", spec := "fnInNet", apart := false, narrowed := true }
def FnInNetUptoSaid : Prop := fnInNetUptoRow.holds Try.pinned (OpenSpec.upto fnInNetSpec)

/-- 'laws.FnExactSplitNet', WHERE WHAT IT READS IS OF BULK AT MOST 1048576: true; the input reads as it did. -/
def fnExactSplitNetUptoRow : OpenClaim := { program := "ythafiplhfjjbgaa", sum := "0a5b0781c4fb4e80920b81dc13847f980f1341850b87723bf24359c9482ffff3", func := "loop.example/portmapper/laws.FnExactSplitNet", spec := "fnExactSplitNet", apart := false, narrowed := true }
def FnExactSplitNetUptoSaid : Prop := fnExactSplitNetUptoRow.holds Try.pinned (OpenSpec.upto fnExactSplitNetSpec)

/-- 'laws.FnHoldsNetApart', WHERE WHAT IT READS IS OF BULK AT MOST 1048576: true; the input reads as it did. -/
def fnHoldsNetApartUptoRow : OpenClaim := { program := "ythafiplhfjjbgaa", sum := "0a5b0781c4fb4e80920b81dc13847f980f1341850b87723bf24359c9482ffff3", func := "loop.example/portmapper/laws.FnHoldsNetApart", spec := "fnHoldsNetApart", apart := false, narrowed := true }
def FnHoldsNetApartUptoSaid : Prop := fnHoldsNetApartUptoRow.holds Try.pinned (OpenSpec.upto fnHoldsNetApartSpec)

/-- 'laws.FnExactBestNet', WHERE WHAT IT READS IS OF BULK AT MOST 1048576: true; the input reads as it did. -/
def fnExactBestNetUptoRow : OpenClaim := { program := "ythafiplhfjjbgaa", sum := "0a5b0781c4fb4e80920b81dc13847f980f1341850b87723bf24359c9482ffff3", func := "loop.example/portmapper/laws.FnExactBestNet", spec := "fnExactBestNet", apart := false, narrowed := true }
def FnExactBestNetUptoSaid : Prop := fnExactBestNetUptoRow.holds Try.pinned (OpenSpec.upto fnExactBestNetSpec)

end Rows
end Go.Proofs.Ythafiplhfjjbgaa
