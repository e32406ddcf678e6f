/-
  No cell of these rows narrows 'for every input' (looked for: loops, veiled, ifaces, maps, wideKeys, modest, calm, conditions, laid).
  DERIVED. THE GIVEN ROWS OF THIS SEAT. 4 by the template 'for every input the law returns true; each argument reads behind the call as it read before'; 0 by the template 'total and deterministic' (their statements: YtogoeehkpebhaaaTotals.lean).
  GIVEN WITH THE SEED: the statements are not yours to turn. If you find one false, say at which input.
  Laid BY PROGRAM, IN A SANDBOX (cutbox-rows.mjs): the forced cells as the released guide's own fill.sh prints them over the translation f5464414104b639d… (all of the seat's roots in one cut). By AI agents, Wed Nov 11 2026. No macro, syntax, notation, axiom, sorry.
-/
import Derived.Test.YtogoeehkpebhaaaChecked
import GoSem.Claim
import GoSem.ClaimJoined
import GoSem.ClaimMapViews
import Derived.JoinedTies
import Derived.KernelRfl
namespace Go.Proofs.Ytogoeehkpebhaaa
/- THE CELL 'sum', in the pinned program and in every row, IS THE sha256 OF THE DUMP (.gsa) THAT YtogoeehkpebhaaaProg.lean LOADS. Nothing in Lean hashes anything: it is a label: what it is worth is what the hold of that sum in a sandbox is worth. -/
noncomputable def Try.pinned : Pinned := { name := "ytogoeehkpebhaaa", sum := "f5464414104b639ddf471815dcf3a863cb837fe88c25a3cc0d98e57d55ea5480", checked := Try.checked }
namespace Rows
def none {H : Type} : Left H := { results := [], args := [] }

/-- 'laws.FnValidPacket': WHATEVER THE INPUT: true; the input reads as it did. -/
def fnValidPacketSpec : ChangeSpec := { name := "fnValidPacket", fn := fun _ => fun
  | [d] => { results := [.lit (.bool true)], args := [d] }
  | _ => none }
def fnValidPacketRow : OpenClaim := { program := "ytogoeehkpebhaaa", sum := "f5464414104b639ddf471815dcf3a863cb837fe88c25a3cc0d98e57d55ea5480", func := "loop.example/portmapper/laws.FnValidPacket", spec := "fnValidPacket", apart := false }
def FnValidPacketSaid : Prop := fnValidPacketRow.holds Try.pinned (OpenSpec.ofChange fnValidPacketSpec)

/-- ITS FALSE NEIGHBOUR: 'it returns false'. Refute it at one input. -/
def fnValidPacketWrong : ChangeSpec := { name := "fnValidPacket", fn := fun _ => fun
  | [d] => { results := [.lit (.bool false)], args := [d] }
  | _ => none }
def FnValidPacketWrongFalsely : Prop := fnValidPacketRow.holds Try.pinned (OpenSpec.ofChange fnValidPacketWrong)

/-- 'laws.FnExactValidPacket': WHATEVER THE INPUT: true; the input reads as it did. -/
def fnExactValidPacketSpec : ChangeSpec := { name := "fnExactValidPacket", fn := fun _ => fun
  | [d] => { results := [.lit (.bool true)], args := [d] }
  | _ => none }
def fnExactValidPacketRow : OpenClaim := { program := "ytogoeehkpebhaaa", sum := "f5464414104b639ddf471815dcf3a863cb837fe88c25a3cc0d98e57d55ea5480", func := "loop.example/portmapper/laws.FnExactValidPacket", spec := "fnExactValidPacket", apart := false }
def FnExactValidPacketSaid : Prop := fnExactValidPacketRow.holds Try.pinned (OpenSpec.ofChange fnExactValidPacketSpec)

/-- ITS FALSE NEIGHBOUR: 'it returns false'. Refute it at one input. -/
def fnExactValidPacketWrong : ChangeSpec := { name := "fnExactValidPacket", fn := fun _ => fun
  | [d] => { results := [.lit (.bool false)], args := [d] }
  | _ => none }
def FnExactValidPacketWrongFalsely : Prop := fnExactValidPacketRow.holds Try.pinned (OpenSpec.ofChange fnExactValidPacketWrong)

/-- 'laws.FnExactValidContacts': WHATEVER THE INPUT: true; the input reads as it did. -/
def fnExactValidContactsSpec : ChangeSpec := { name := "fnExactValidContacts", fn := fun _ => fun
  | [d] => { results := [.lit (.bool true)], args := [d] }
  | _ => none }
def fnExactValidContactsRow : OpenClaim := { program := "ytogoeehkpebhaaa", sum := "f5464414104b639ddf471815dcf3a863cb837fe88c25a3cc0d98e57d55ea5480", func := "loop.example/portmapper/laws.FnExactValidContacts", spec := "fnExactValidContacts", apart := false }
def FnExactValidContactsSaid : Prop := fnExactValidContactsRow.holds Try.pinned (OpenSpec.ofChange fnExactValidContactsSpec)

/-- ITS FALSE NEIGHBOUR: 'it returns false'. Refute it at one input. -/
def fnExactValidContactsWrong : ChangeSpec := { name := "fnExactValidContacts", fn := fun _ => fun
  | [d] => { results := [.lit (.bool false)], args := [d] }
  | _ => none }
def FnExactValidContactsWrongFalsely : Prop := fnExactValidContactsRow.holds Try.pinned (OpenSpec.ofChange fnExactValidContactsWrong)

/-- 'laws.FnExactValidTable': WHATEVER THE INPUT: true; the input reads as it did. -/
def fnExactValidTableSpec : ChangeSpec := { name := "fnExactValidTable", fn := fun _ => fun
  | [d] => { results := [.lit (.bool true)], args := [d] }
  | _ => none }
def fnExactValidTableRow : OpenClaim := { program := "ytogoeehkpebhaaa", sum := "f5464414104b639ddf471815dcf3a863cb837fe88c25a3cc0d98e57d55ea5480", func := "loop.example/portmapper/laws.FnExactValidTable", spec := "fnExactValidTable", unfollowed := true, recurses := true, apart := false }
def FnExactValidTableSaid : Prop := fnExactValidTableRow.holds Try.pinned (OpenSpec.ofChange fnExactValidTableSpec)

/-- ITS FALSE NEIGHBOUR: 'it returns false'. Refute it at one input. -/
def fnExactValidTableWrong : ChangeSpec := { name := "fnExactValidTable", fn := fun _ => fun
  | [d] => { results := [.lit (.bool false)], args := [d] }
  | _ => none }
def FnExactValidTableWrongFalsely : Prop := fnExactValidTableRow.holds Try.pinned (OpenSpec.ofChange fnExactValidTableWrong)

/- THE SECOND FORM. 'bulk': how many values and letters a reading holds, each counted each time it is reached (what is shared counts as often as it is met; a slice's spare places count too). A statement '..UptoSaid' is the law's where the arguments, and the package variables that the reading takes, are together of bulk at most 1048576: NARROWER than '..Said'. Prove '..Said' where nothing that the law and all that it calls make is longer than what came in: it says more and counts as full. Else prove '..UptoSaid'. A law counts once. -/
mutual
def uptoBulk {H : Type} : DataW H → Nat
  | .lit (.string bytes) => bytes.length + 1
  | .lit _ => 1
  | .nil => 1
  | .ptr d => uptoBulk d + 1
  | .slice elems spare => uptoBulkAll elems + uptoBulkAll spare + 1
  | .agg parts => uptoBulkAll parts + 1
  | .iface _ d => uptoBulk d + 1
  | .map entries => uptoBulkEntries entries + 1
  | .held _ => 1
def uptoBulkAll {H : Type} : List (DataW H) → Nat
  | [] => 0
  | d :: r => uptoBulk d + uptoBulkAll r
def uptoBulkEntries {H : Type} : List (Lit × DataW H) → Nat
  | [] => 0
  | x :: r => uptoBulkEntry x + uptoBulkEntries r
def uptoBulkEntry {H : Type} : Lit × DataW H → Nat
  | (.string bytes, d) => bytes.length + uptoBulk d + 1
  | (_, d) => uptoBulk d + 1
 end
def uptoSmall : (H : Type) → List (DataW H) → Bool := fun _ ds => decide (uptoBulkAll ds ≤ 1048576)
def OpenSpec.upto (s : _root_.Go.ChangeSpec) : _root_.Go.OpenSpec := { _root_.Go.OpenSpec.ofChange s with cond := some uptoSmall }

/-- 'laws.FnValidPacket', WHERE WHAT IT READS IS OF BULK AT MOST 1048576: true; the input reads as it did. -/
def fnValidPacketUptoRow : OpenClaim := { program := "ytogoeehkpebhaaa", sum := "f5464414104b639ddf471815dcf3a863cb837fe88c25a3cc0d98e57d55ea5480", func := "loop.example/portmapper/laws.FnValidPacket", spec := "fnValidPacket", apart := false, narrowed := true }
def FnValidPacketUptoSaid : Prop := fnValidPacketUptoRow.holds Try.pinned (OpenSpec.upto fnValidPacketSpec)

/-- 'laws.FnExactValidPacket', WHERE WHAT IT READS IS OF BULK AT MOST 1048576: true; the input reads as it did. -/
def fnExactValidPacketUptoRow : OpenClaim := { program := "ytogoeehkpebhaaa", sum := "f5464414104b639ddf471815dcf3a863cb837fe88c25a3cc0d98e57d55ea5480", func := "loop.example/portmapper/laws.FnExactValidPacket", spec := "fnExactValidPacket", apart := false, narrowed := true }
def FnExactValidPacketUptoSaid : Prop := fnExactValidPacketUptoRow.holds Try.pinned (OpenSpec.upto fnExactValidPacketSpec)

/-- 'laws.FnExactValidContacts', WHERE WHAT IT READS IS OF BULK AT MOST 1048576: true; the input reads as it did. -/
def fnExactValidContactsUptoRow : OpenClaim := { program := "ytogoeehkpebhaaa", sum := "f5464414104b639ddf471815dcf3a863cb837fe88c25a3cc0d98e57d55ea5480", func := "loop.example/portmapper/laws.FnExactValidContacts", spec := "fnExactValidContacts", apart := false, narrowed := true }
def FnExactValidContactsUptoSaid : Prop := fnExactValidContactsUptoRow.holds Try.pinned (OpenSpec.upto fnExactValidContactsSpec)

/-- 'laws.FnExactValidTable', WHERE WHAT IT READS IS OF BULK AT MOST 1048576: true; the input reads as it did. -/
def fnExactValidTableUptoRow : OpenClaim := { program := "ytogoeehkpebhaaa", sum := "f5464414104b639ddf471815dcf3a863cb837fe88c25a3cc0d98e57d55ea5480", func := "loop.example/portmapper/laws.FnExactValidTable", spec := "fnExactValidTable", unfollowed := true, recurses := true, apart := false, narrowed := true }
def FnExactValidTableUptoSaid : Prop := fnExactValidTableUptoRow.holds Try.pinned (OpenSpec.upto fnExactValidTableSpec)

end Rows
end Go.Proofs.Ytogoeehkpebhaaa
