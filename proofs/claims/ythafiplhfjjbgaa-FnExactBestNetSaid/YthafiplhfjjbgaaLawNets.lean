/-
  From the reading of an argument to the words of the walks: nets that came in.
-/
import Derived.Test.YthafiplhfjjbgaaLawKit
import Derived.Test.YthafiplhfjjbgaaNetE
import Derived.Deep.SlicePairs
namespace Go.Proofs.Ythafiplhfjjbgaa
open Go.ChangeShapes Go.WideShapes Go.ChangeAt Go.RowKit

theorem nets_of {W : World} {x : Addr} {V0 V1 : Nat → Value} {len : Nat} (h : ∀ i, i < len → W.cell? (x.add (i * 2)) = some (V0 i) ∧ W.cell? (x.add (i * 2 + 1)) = some (V1 i))
    (hv : ∀ i, i < len → ∃ n m, V0 i = .int .i64 n ∧ V1 i = .int .i64 m) : ∃ L : List (Int × Int), NRow W W.heap.size (some x) L ∧ L.length = len := by
  refine ⟨(List.range len).map fun i => (intOf (V0 i), intOf (V1 i)), fun h0 => ?_, by simp⟩
  have hlt : 0 < len := by simpa using h0
  obtain ⟨b, off, spot⟩ := x
  have h1 := (h 0 hlt).1
  have hs : spot = none := by simpa [Addr.add] using World.cell?_spot h1
  subst hs
  have hb := block_lt h1
  have ha : ∀ k, (⟨b, off, none⟩ : Addr).add k = ⟨b, off + k, none⟩ := fun k => by unfold Addr.add; split <;> simp_all
  refine ⟨b, off, rfl, by simpa [ha] using hb, fun i hi => ?_⟩
  have hi : i < len := by simpa using hi
  obtain ⟨n, m, e0, e1⟩ := hv i hi
  have g := h i hi
  rw [ha, ha, e0, e1] at g
  have e : ((List.range len).map fun i => (intOf (V0 i), intOf (V1 i))).getD i (0, 0) = (n, m) := by
    rw [List.getD_eq_getElem?_getD, List.getElem?_map, List.getElem?_range hi]
    simp [e0, e1, intOf]
  rw [e]
  exact g
end Go.Proofs.Ythafiplhfjjbgaa
