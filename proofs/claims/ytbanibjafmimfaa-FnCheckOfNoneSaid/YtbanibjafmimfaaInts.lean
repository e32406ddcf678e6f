/-
  toIntS and eqIntS, for all lists of ints.
-/
import Derived.Test.YtbanibjafmimfaaOwn
import Derived.Test.YtbanibjafmimfaaPlain
import Derived.Deep.QuietTactic
import Derived.BigQuiet
namespace Go.Proofs.Ytbanibjafmimfaa
open Go.RowKit

theorem int_info : (Try.prog.info? 3).map (fun i => (i.zero, i.size, i.bytes)) = some (some (.int .i64 0), 1, 8) := by kernel_rfl

/-- A copy in a new block. -/
def Copied (w : World) (n : Nat) (xs : List Int) (e : Ending) (w' : World) : Prop :=
  e = .returned (.slice (some ⟨w.heap.size, 0, none⟩) n n) ∧ Mine w' w.heap.size 1 (some ⟨w.heap.size, 0, none⟩) n n (xs.map (Value.int .i64)) ∧ Below w.heap.size w w'

theorem fill_step {ys : List Value} {xs : List Int} {k : Nat} (hk : k < ys.length) (hx : k < xs.length) (h : ys.take k = (xs.take k).map (Value.int .i64)) :
    (ys.set k (.int .i64 (xs.getD k 0))).take (k + 1) = (xs.take (k + 1)).map (Value.int .i64) := by
  rw [List.take_succ_eq_append_getElem hx, List.map_append, ← h, List.take_succ_eq_append_getElem (by simpa using hk)]
  simp [List.getD_eq_getElem?_getD, hx, List.take_set_of_le]



end Go.Proofs.Ytbanibjafmimfaa
