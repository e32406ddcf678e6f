/-
  No cell of these rows narrows 'for every input' (looked for: loops, veiled, ifaces, maps, wideKeys, modest, calm, conditions, laid).
  DERIVED. THE GIVEN ROWS OF THIS SEAT. 6 by the template 'for every input the law returns true; each argument reads behind the call as it read before'; 0 by the template 'total and deterministic' (their statements: YtbmcliaafldkpaaTotals.lean).
  GIVEN WITH THE SEED: the statements are not yours to turn. If you find one false, say at which input.
  Laid BY PROGRAM, IN A SANDBOX (cutbox-rows.mjs): the forced cells as the released guide's own fill.sh prints them over the translation 17fdbdfbb3f9ec84… (all of the seat's roots in one cut). By AI agents, Wed Nov 11 2026. No macro, syntax, notation, axiom, sorry.
-/
import Derived.Test.YtbmcliaafldkpaaChecked
import GoSem.Claim
import GoSem.ClaimJoined
import GoSem.ClaimMapViews
import Derived.JoinedTies
import Derived.KernelRfl
namespace Go.Proofs.Ytbmcliaafldkpaa
/- THE CELL 'sum', in the pinned program and in every row, IS THE sha256 OF THE DUMP (.gsa) THAT YtbmcliaafldkpaaProg.lean LOADS. Nothing in Lean hashes anything: it is a label: what it is worth is what the hold of that sum in a sandbox is worth. -/
noncomputable def Try.pinned : Pinned := { name := "ytbmcliaafldkpaa", sum := "17fdbdfbb3f9ec84edc162ef9a9d80c030a75bf37a58f3705416dd5f3e0ede81", checked := Try.checked }
namespace Rows
def none {H : Type} : Left H := { results := [], args := [] }

/-- 'laws.FnExactIsRight': WHATEVER THE INPUT: true; the input reads as it did. -/
def fnExactIsRightSpec : ChangeSpec := { name := "fnExactIsRight", fn := fun _ => fun
  | [d] => { results := [.lit (.bool true)], args := [d] }
  | _ => none }
def fnExactIsRightRow : OpenClaim := { program := "ytbmcliaafldkpaa", sum := "17fdbdfbb3f9ec84edc162ef9a9d80c030a75bf37a58f3705416dd5f3e0ede81", func := "loop.example/portmapper/laws.FnExactIsRight", spec := "fnExactIsRight", apart := false }
def FnExactIsRightSaid : Prop := fnExactIsRightRow.holds Try.pinned (OpenSpec.ofChange fnExactIsRightSpec)

/-- ITS FALSE NEIGHBOUR: 'it returns false'. Refute it at one input. -/
def fnExactIsRightWrong : ChangeSpec := { name := "fnExactIsRight", fn := fun _ => fun
  | [d] => { results := [.lit (.bool false)], args := [d] }
  | _ => none }
def FnExactIsRightWrongFalsely : Prop := fnExactIsRightRow.holds Try.pinned (OpenSpec.ofChange fnExactIsRightWrong)

/-- 'laws.FnExactSumOf': WHATEVER THE INPUT: true; the input reads as it did. -/
def fnExactSumOfSpec : ChangeSpec := { name := "fnExactSumOf", fn := fun _ => fun
  | [d] => { results := [.lit (.bool true)], args := [d] }
  | _ => none }
def fnExactSumOfRow : OpenClaim := { program := "ytbmcliaafldkpaa", sum := "17fdbdfbb3f9ec84edc162ef9a9d80c030a75bf37a58f3705416dd5f3e0ede81", func := "loop.example/portmapper/laws.FnExactSumOf", spec := "fnExactSumOf", apart := false }
def FnExactSumOfSaid : Prop := fnExactSumOfRow.holds Try.pinned (OpenSpec.ofChange fnExactSumOfSpec)

/-- ITS FALSE NEIGHBOUR: 'it returns false'. Refute it at one input. -/
def fnExactSumOfWrong : ChangeSpec := { name := "fnExactSumOf", fn := fun _ => fun
  | [d] => { results := [.lit (.bool false)], args := [d] }
  | _ => none }
def FnExactSumOfWrongFalsely : Prop := fnExactSumOfRow.holds Try.pinned (OpenSpec.ofChange fnExactSumOfWrong)

/-- 'laws.FnExactCheckOf': WHATEVER THE INPUT: true; the input reads as it did. -/
def fnExactCheckOfSpec : ChangeSpec := { name := "fnExactCheckOf", fn := fun _ => fun
  | [d] => { results := [.lit (.bool true)], args := [d] }
  | _ => none }
def fnExactCheckOfRow : OpenClaim := { program := "ytbmcliaafldkpaa", sum := "17fdbdfbb3f9ec84edc162ef9a9d80c030a75bf37a58f3705416dd5f3e0ede81", func := "loop.example/portmapper/laws.FnExactCheckOf", spec := "fnExactCheckOf", apart := false }
def FnExactCheckOfSaid : Prop := fnExactCheckOfRow.holds Try.pinned (OpenSpec.ofChange fnExactCheckOfSpec)

/-- ITS FALSE NEIGHBOUR: 'it returns false'. Refute it at one input. -/
def fnExactCheckOfWrong : ChangeSpec := { name := "fnExactCheckOf", fn := fun _ => fun
  | [d] => { results := [.lit (.bool false)], args := [d] }
  | _ => none }
def FnExactCheckOfWrongFalsely : Prop := fnExactCheckOfRow.holds Try.pinned (OpenSpec.ofChange fnExactCheckOfWrong)

/-- 'laws.FnSumOfOrder': WHATEVER THE INPUT: true; the input reads as it did. -/
def fnSumOfOrderSpec : ChangeSpec := { name := "fnSumOfOrder", fn := fun _ => fun
  | [d] => { results := [.lit (.bool true)], args := [d] }
  | _ => none }
def fnSumOfOrderRow : OpenClaim := { program := "ytbmcliaafldkpaa", sum := "17fdbdfbb3f9ec84edc162ef9a9d80c030a75bf37a58f3705416dd5f3e0ede81", func := "loop.example/portmapper/laws.FnSumOfOrder", spec := "fnSumOfOrder", apart := false }
def FnSumOfOrderSaid : Prop := fnSumOfOrderRow.holds Try.pinned (OpenSpec.ofChange fnSumOfOrderSpec)

/-- ITS FALSE NEIGHBOUR: 'it returns false'. Refute it at one input. -/
def fnSumOfOrderWrong : ChangeSpec := { name := "fnSumOfOrder", fn := fun _ => fun
  | [d] => { results := [.lit (.bool false)], args := [d] }
  | _ => none }
def FnSumOfOrderWrongFalsely : Prop := fnSumOfOrderRow.holds Try.pinned (OpenSpec.ofChange fnSumOfOrderWrong)

/-- 'laws.FnSumOf': WHATEVER THE INPUT: true; the input reads as it did. -/
def fnSumOfSpec : ChangeSpec := { name := "fnSumOf", fn := fun _ => fun
  | [d] => { results := [.lit (.bool true)], args := [d] }
  | _ => none }
def fnSumOfRow : OpenClaim := { program := "ytbmcliaafldkpaa", sum := "17fdbdfbb3f9ec84edc162ef9a9d80c030a75bf37a58f3705416dd5f3e0ede81", func := "loop.example/portmapper/laws.FnSumOf", spec := "fnSumOf", apart := false }
def FnSumOfSaid : Prop := fnSumOfRow.holds Try.pinned (OpenSpec.ofChange fnSumOfSpec)

/-- ITS FALSE NEIGHBOUR: 'it returns false'. Refute it at one input. -/
def fnSumOfWrong : ChangeSpec := { name := "fnSumOf", fn := fun _ => fun
  | [d] => { results := [.lit (.bool false)], args := [d] }
  | _ => none }
def FnSumOfWrongFalsely : Prop := fnSumOfRow.holds Try.pinned (OpenSpec.ofChange fnSumOfWrong)

/-- 'laws.FnSumOfParts': WHATEVER THE INPUT: true; the input reads as it did. -/
def fnSumOfPartsSpec : ChangeSpec := { name := "fnSumOfParts", fn := fun _ => fun
  | [d] => { results := [.lit (.bool true)], args := [d] }
  | _ => none }
def fnSumOfPartsRow : OpenClaim := { program := "ytbmcliaafldkpaa", sum := "17fdbdfbb3f9ec84edc162ef9a9d80c030a75bf37a58f3705416dd5f3e0ede81", func := "loop.example/portmapper/laws.FnSumOfParts", spec := "fnSumOfParts", apart := false }
def FnSumOfPartsSaid : Prop := fnSumOfPartsRow.holds Try.pinned (OpenSpec.ofChange fnSumOfPartsSpec)

/-- ITS FALSE NEIGHBOUR: 'it returns false'. Refute it at one input. -/
def fnSumOfPartsWrong : ChangeSpec := { name := "fnSumOfParts", fn := fun _ => fun
  | [d] => { results := [.lit (.bool false)], args := [d] }
  | _ => none }
def FnSumOfPartsWrongFalsely : Prop := fnSumOfPartsRow.holds Try.pinned (OpenSpec.ofChange fnSumOfPartsWrong)

/- THE SECOND FORM. 'bulk': how many values and letters a reading holds, each counted each time it is reached (what is shared counts as often as it is met; a slice's spare places count too). A statement '..UptoSaid' is the law's where the arguments, and the package variables that the reading takes, are together of bulk at most 1048576: NARROWER than '..Said'. Prove '..Said' where nothing that the law and all that it calls make is longer than what came in: it says more and counts as full. Else prove '..UptoSaid'. A law counts once. -/
mutual
def uptoBulk {H : Type} : DataW H → Nat
  | .lit (.string bytes) => bytes.length + 1
  | .lit _ => 1
  | .nil => 1
  | .ptr d => uptoBulk d + 1
  | .slice elems spare => uptoBulkAll elems + uptoBulkAll spare + 1
  | .agg parts => uptoBulkAll parts + 1
  | .iface _ d => uptoBulk d + 1
  | .map entries => uptoBulkEntries entries + 1
  | .held _ => 1
def uptoBulkAll {H : Type} : List (DataW H) → Nat
  | [] => 0
  | d :: r => uptoBulk d + uptoBulkAll r
def uptoBulkEntries {H : Type} : List (Lit × DataW H) → Nat
  | [] => 0
  | x :: r => uptoBulkEntry x + uptoBulkEntries r
def uptoBulkEntry {H : Type} : Lit × DataW H → Nat
  | (.string bytes, d) => bytes.length + uptoBulk d + 1
  | (_, d) => uptoBulk d + 1
 end
def uptoSmall : (H : Type) → List (DataW H) → Bool := fun _ ds => decide (uptoBulkAll ds ≤ 1048576)
def OpenSpec.upto (s : _root_.Go.ChangeSpec) : _root_.Go.OpenSpec := { _root_.Go.OpenSpec.ofChange s with cond := some uptoSmall }

/-- 'laws.FnExactIsRight', WHERE WHAT IT READS IS OF BULK AT MOST 1048576: true; the input reads as it did. -/
def fnExactIsRightUptoRow : OpenClaim := { program := "ytbmcliaafldkpaa", sum := "17fdbdfbb3f9ec84edc162ef9a9d80c030a75bf37a58f3705416dd5f3e0ede81", func := "loop.example/portmapper/laws.FnExactIsRight", spec := "fnExactIsRight", apart := false, narrowed := true }
def FnExactIsRightUptoSaid : Prop := fnExactIsRightUptoRow.holds Try.pinned (OpenSpec.upto fnExactIsRightSpec)

/-- 'laws.FnExactSumOf', WHERE WHAT IT READS IS OF BULK AT MOST 1048576: true; the input reads as it did. -/
def fnExactSumOfUptoRow : OpenClaim := { program := "ytbmcliaafldkpaa", sum := "17fdbdfbb3f9ec84edc162ef9a9d80c030a75bf37a58f3705416dd5f3e0ede81", func := "loop.example/portmapper/laws.FnExactSumOf", spec := "fnExactSumOf", apart := false, narrowed := true }
def FnExactSumOfUptoSaid : Prop := fnExactSumOfUptoRow.holds Try.pinned (OpenSpec.upto fnExactSumOfSpec)

/-- 'laws.FnExactCheckOf', WHERE WHAT IT READS IS OF BULK AT MOST 1048576: true; the input reads as it did. -/
def fnExactCheckOfUptoRow : OpenClaim := { program := "ytbmcliaafldkpaa", sum := "17fdbdfbb3f9ec84edc162ef9a9d80c030a75bf37a58f3705416dd5f3e0ede81", func := "loop.example/portmapper/laws.FnExactCheckOf", spec := "fnExactCheckOf", apart := false, narrowed := true }
def FnExactCheckOfUptoSaid : Prop := fnExactCheckOfUptoRow.holds Try.pinned (OpenSpec.upto fnExactCheckOfSpec)

/-- 'laws.FnSumOfOrder', WHERE WHAT IT READS IS OF BULK AT MOST 1048576: true; the input reads as it did. -/
def fnSumOfOrderUptoRow : OpenClaim := { program := "ytbmcliaafldkpaa", sum := "17fdbdfbb3f9ec84edc162ef9a9d80c030a75bf37a58f3705416dd5f3e0ede81", func := "loop.example/portmapper/laws.FnSumOfOrder", spec := "fnSumOfOrder", apart := false, narrowed := true }
def FnSumOfOrderUptoSaid : Prop := fnSumOfOrderUptoRow.holds Try.pinned (OpenSpec.upto fnSumOfOrderSpec)

/-- 'laws.FnSumOf', WHERE WHAT IT READS IS OF BULK AT MOST 1048576: true; the input reads as it did. -/
def fnSumOfUptoRow : OpenClaim := { program := "ytbmcliaafldkpaa", sum := "17fdbdfbb3f9ec84edc162ef9a9d80c030a75bf37a58f3705416dd5f3e0ede81", func := "loop.example/portmapper/laws.FnSumOf", spec := "fnSumOf", apart := false, narrowed := true }
def FnSumOfUptoSaid : Prop := fnSumOfUptoRow.holds Try.pinned (OpenSpec.upto fnSumOfSpec)

/-- 'laws.FnSumOfParts', WHERE WHAT IT READS IS OF BULK AT MOST 1048576: true; the input reads as it did. -/
def fnSumOfPartsUptoRow : OpenClaim := { program := "ytbmcliaafldkpaa", sum := "17fdbdfbb3f9ec84edc162ef9a9d80c030a75bf37a58f3705416dd5f3e0ede81", func := "loop.example/portmapper/laws.FnSumOfParts", spec := "fnSumOfParts", apart := false, narrowed := true }
def FnSumOfPartsUptoSaid : Prop := fnSumOfPartsUptoRow.holds Try.pinned (OpenSpec.upto fnSumOfPartsSpec)

end Rows
end Go.Proofs.Ytbmcliaafldkpaa
