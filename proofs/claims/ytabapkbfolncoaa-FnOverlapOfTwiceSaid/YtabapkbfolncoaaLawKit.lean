/-
  From the reading of an argument to the words of the walks: bytes that came in, ints that came in.
-/
import Derived.Test.YtabapkbfolncoaaRows
import Derived.Test.YtabapkbfolncoaaMem
import Derived.ProofKit
import Derived.OpenShut
import Derived.ShutString
import Derived.ChangeOld
import Derived.Below
namespace Go.Proofs.Ytabapkbfolncoaa
open Go.ChangeShapes Go.WideShapes Go.ChangeAt Go.RowKit

theorem own : ownKnob Try.prog.godebug = none := by kernel_rfl
theorem laidOut : laidOutB Try.prog = true := by kernel_rfl

theorem block_lt {w : World} {a : Addr} {v : Value} (h : w.cell? a = some v) : a.block < w.heap.size := by
  rcases Nat.lt_or_ge a.block w.heap.size with hl | hl
  · exact hl
  · unfold World.cell? at h; rw [Array.getElem?_eq_none hl] at h; simp at h

theorem row_of {k : IntKind} {W : World} {x : Addr} {zs : List Int} {len : Nat} (hl : len ≤ zs.length) (hc : ∀ i, i < zs.length → W.cell? (x.add i) = some (.int k (zs.getD i 0))) : Row k W W.heap.size (some x) (zs.take len) := by
  intro h0
  have hlen : (zs.take len).length = len := by simp; omega
  have hlt : 0 < zs.length := by simp at h0; omega
  obtain ⟨b, off, spot⟩ := x
  have h1 := hc 0 hlt
  have hs : spot = none := by simpa [Addr.add] using World.cell?_spot h1
  subst hs
  have hb := block_lt h1
  refine ⟨b, off, rfl, by simpa [Addr.add] using hb, fun i hi => ?_⟩
  rw [hlen] at hi
  have h2 := hc i (by omega)
  have e : (zs.take len).getD i 0 = zs.getD i 0 := by simp [List.getD_eq_getElem?_getD, hi]
  rw [e, ← h2]
  congr 1
  unfold Addr.add
  split
  · subst_vars; rfl
  · rfl

theorem bytes_of {W : World} {x : Addr} {zs : List Int} {len : Nat} (hl : len ≤ zs.length) (hc : ∀ i, i < zs.length → W.cell? (x.add i) = some (.int .u8 (zs.getD i 0))) (hw : ∀ n ∈ zs, (Lit.int .u8 n).wf = true) :
    0 < len → ∃ b o, some x = some (⟨b, o, none⟩ : Addr) ∧ b < W.heap.size ∧ ∀ i, i < len → ∃ z : Int, 0 ≤ z ∧ z ≤ 255 ∧ W.cell? ⟨b, o + i, none⟩ = some (.int .u8 z) := by
  intro h0
  have hlen : (zs.take len).length = len := by simp; omega
  obtain ⟨b, o, e, hb, hi⟩ := row_of hl hc (by omega)
  refine ⟨b, o, e, hb, fun i hil => ?_⟩
  have h1 := hi i (by omega)
  have hr := range_u8 hw i
  refine ⟨_, ?_, ?_, h1⟩
  · simpa [List.getD_eq_getElem?_getD, List.getElem?_take, hil] using hr.1
  · simpa [List.getD_eq_getElem?_getD, List.getElem?_take, hil] using hr.2

end Go.Proofs.Ytabapkbfolncoaa
