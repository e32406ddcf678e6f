/-
  What the statements on nets need beside the contracts: the cells of SplitNet's list; the class of the worlds behind one; '==' on nets.
-/
import Derived.Test.YtmaecadflilbgaaNetBox
import Derived.Test.YtmaecadflilbgaaNetS
import Derived.Test.YtmaecadflilbgaaCls
import Derived.Laws.StructEq
namespace Go.Proofs.Ytmaecadflilbgaa
open Go.RowKit

theorem half_at {w : World} {base g : Nat} {b s : Int} (h : Mine w base 2 (some ⟨g, 0, none⟩) 2 2 (halvesN b s)) :
    w.cell? ⟨g, 0, none⟩ = some (.int .i64 b) ∧ w.cell? ⟨g, 1, none⟩ = some (.int .i64 (s + 1)) ∧ w.cell? ⟨g, 2, none⟩ = some (.int .i64 (b + szN s / 2)) ∧ w.cell? ⟨g, 3, none⟩ = some (.int .i64 (s + 1)) :=
  ⟨h.at0 (j := 0) (by omega), h.at0 (j := 1) (by omega), h.at0 (j := 2) (by omega), h.at0 (j := 3) (by omega)⟩

/-- The class of the worlds that only have more memory. -/
theorem cls_more (w : World) : ∃ (S : Type) (f : S → World), Nonempty S ∧ Hid (∀ x, Below w.heap.size w (f x)) ∧ Hid (∀ w', Below w.heap.size w w' → ∃ x, w' = f x) :=
  cls_of (Below w.heap.size w) (Below.refl _ _)

/-- '==' on two nets. -/
theorem run_eql_net (w : World) (b s b' s' : Int) : (binOp .eql 24 (.agg #[.int .i64 b, .int .i64 s]) (.agg #[.int .i64 b', .int .i64 s'])).run Try.prog w = .ok (.bool (decide (b = b' ∧ s = s'))) w := by
  have u3 := Try.underlying3
  have hS : Try.prog.underlying 24 = some (.struct (Try.prog.fieldsOf 24)) := by kernel_rfl
  have hp : Try.prog.stoodInHeld 24 = false := by kernel_rfl
  rw [run_eql_struct, show (10000 : Nat) = 9999 + 1 from rfl, run_equalIn_agg w 9999 24 _ _ hS hp]
  simp only [Program.fieldsOf, Try.underlying24]
  go_simp
  by_cases h1 : b = b' <;> by_cases h2 : s = s' <;> simp [h1, h2]
end Go.Proofs.Ytmaecadflilbgaa
