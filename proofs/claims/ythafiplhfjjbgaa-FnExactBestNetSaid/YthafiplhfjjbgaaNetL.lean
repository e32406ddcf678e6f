/-
  The statements' own helpers on nets: toNet.
-/
import Derived.Test.YthafiplhfjjbgaaNetR
namespace Go.Proofs.Ythafiplhfjjbgaa
open Go.RowKit

theorem box3 (w : World) (t t' : TypeId) (x y : Value) : (((w.alloc (.cells #[x, y] t)).alloc (.cells #[x, y] t')).alloc (.cells #[x, y] t')).cell? ⟨w.heap.size + 1, 0, none⟩ = some x ∧
    (((w.alloc (.cells #[x, y] t)).alloc (.cells #[x, y] t')).alloc (.cells #[x, y] t')).cell? ⟨w.heap.size + 1, 1, none⟩ = some y := by
  have h := box2 (w.alloc (.cells #[x, y] t)) t' x y
  have hs : (w.alloc (.cells #[x, y] t)).heap.size = w.heap.size + 1 := by simp
  rw [hs] at h
  exact ⟨(World.cell?_alloc_lt _ _ ⟨w.heap.size + 1, 0, none⟩ (by simp)).trans h.1, (World.cell?_alloc_lt _ _ ⟨w.heap.size + 1, 1, none⟩ (by simp)).trans h.2⟩

/-- toNet copies a net. -/
theorem toNet_any (b s : Int) (w : World) : Calls Try.prog 13 #[.agg #[.int .i64 b, .int .i64 s]] w fun e w' => e = .returned (.agg #[.int .i64 b, .int .i64 s]) ∧ Below w.heap.size w w' := by
  have HB := Lib.hid ((((Below.refl w.heap.size w).alloc (Nat.le_refl _) (.cells #[.int .i64 b, .int .i64 s] 23)).alloc (by simp) (.cells #[.int .i64 b, .int .i64 s] 25)).alloc (by simp; omega) (.cells #[.int .i64 b, .int .i64 s] 25))
  go_enter Try.func13, Try.ntmps13
  go_wp2
  have k := box3 w 23 25 (.int .i64 b) (.int .i64 s)
  refine bodyPost_ret (v := .agg #[.int .i64 b, .int .i64 s]) (results_two (g := w.heap.size + 1) rfl _ _ _ _ _ rfl k.1 k.2 Try.underlying25 rfl (by kernel_rfl)) rfl ⟨rfl, HB.out⟩
end Go.Proofs.Ythafiplhfjjbgaa
