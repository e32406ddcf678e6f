/-
  Lists of nets: toNetS, szNetS.
-/
import Derived.Test.YtmaecadflilbgaaNetE
import Derived.Deep.QuietTactic
import Derived.BigQuiet
namespace Go.Proofs.Ytmaecadflilbgaa
open Go.RowKit
attribute [local go_sem ↓] Go.wp_at_zero Go.wp_at_succ

theorem net_info : (Try.prog.info? 24).map (fun i => (i.zero, i.size, i.bytes)) = some (some (.agg #[.int .i64 0, .int .i64 0]), 2, 16) := by kernel_rfl

/-- Cells that show nets, the first k of them. -/
def Shows (ys : List Value) (L : List (Int × Int)) (k : Nat) : Prop := ∀ t, t < k → ys[t * 2]? = some (.int .i64 (L.getD t (0, 0)).1) ∧ ys[t * 2 + 1]? = some (.int .i64 (L.getD t (0, 0)).2)
theorem Shows.step {ys : List Value} {L : List (Int × Int)} {k : Nat} (h : Shows ys L k) (hk : k * 2 + 1 < ys.length) : Shows ((ys.set (k * 2) (.int .i64 (L.getD k (0, 0)).1)).set (k * 2 + 1) (.int .i64 (L.getD k (0, 0)).2)) L (k + 1) := by
  intro t ht
  simp only [List.getElem?_set, List.length_set]
  by_cases e : t = k
  · subst e
    refine ⟨?_, ?_⟩
    · rw [if_neg (by omega), if_pos rfl, if_pos (by omega)]
    · rw [if_pos rfl, if_pos (by omega)]
  · have := h t (by omega)
    refine ⟨?_, ?_⟩
    · rw [if_neg (by omega), if_neg (by omega)]; exact this.1
    · rw [if_neg (by omega), if_neg (by omega)]; exact this.2
theorem Shows.row {w : World} {base g n cap : Nat} {ys : List Value} {L : List (Int × Int)} (hm : Mine w base 2 (some ⟨g, 0, none⟩) n cap ys) (h : Shows ys L n) (hn : L.length = n) : NRow w w.heap.size (some ⟨g, 0, none⟩) L := fun _ => by
  refine ⟨g, 0, rfl, (hm.lt rfl).2, fun i hi => ?_⟩
  rw [Nat.zero_add]
  exact ⟨(hm.at0 (j := i * 2) (by omega)).trans (h i (by omega)).1, (hm.at0 (j := i * 2 + 1) (by omega)).trans (h i (by omega)).2⟩

/-- A copy of a list of nets in a new block. -/
def CopiedN (w : World) (n : Nat) (L : List (Int × Int)) (e : Ending) (w' : World) : Prop :=
  e = .returned (.slice (some ⟨w.heap.size, 0, none⟩) n n) ∧ NRow w' w'.heap.size (some ⟨w.heap.size, 0, none⟩) L ∧ Below w.heap.size w w'


end Go.Proofs.Ytmaecadflilbgaa
