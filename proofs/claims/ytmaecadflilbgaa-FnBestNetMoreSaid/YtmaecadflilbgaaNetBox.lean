/-
  A net in a variable of the statement.
-/
import Derived.Test.YtmaecadflilbgaaNet1
namespace Go.Proofs.Ytmaecadflilbgaa
open Go.RowKit

/-- The cells of a variable that holds a net. -/
def Boxed (w : World) (H : Nat) (b s : Int) : Prop := (w.cell? ⟨H, 0, none⟩ = some (.int .i64 b) ∧ w.cell? ⟨H, 1, none⟩ = some (.int .i64 s)) ∧ H < w.heap.size
theorem Boxed.on {w w' : World} {H : Nat} {b s : Int} (h : Boxed w H b s) (hb : Below w.heap.size w w') : Boxed w' H b s :=
  ⟨⟨(hb.cell (p := ⟨H, 0, none⟩) h.2).trans h.1.1, (hb.cell (p := ⟨H, 1, none⟩) h.2).trans h.1.2⟩, Nat.lt_of_lt_of_le h.2 hb.size⟩
theorem Boxed.new_at (w : World) (H : Nat) (hH : w.heap.size = H) (t : TypeId) (b s : Int) : Boxed (w.alloc (.cells #[.int .i64 b, .int .i64 s] t)) H b s := by
  subst hH; exact ⟨box2 w t _ _, by simp⟩
theorem Boxed.alloc {w : World} {H : Nat} {b s : Int} (h : Boxed w H b s) (o : Obj) : Boxed (w.alloc o) H b s :=
  ⟨⟨(World.cell?_alloc_lt w _ ⟨H, 0, none⟩ h.2).trans h.1.1, (World.cell?_alloc_lt w _ ⟨H, 1, none⟩ h.2).trans h.1.2⟩, by have := h.2; simp; omega⟩
/-- Two variables that hold nets, one behind the other. -/
def Boxes (w : World) (H : Nat) (b s b' s' : Int) : Prop := Boxed w H b s ∧ Boxed w (H + 1) b' s'
theorem Boxes.on {w w' : World} {H : Nat} {b s b' s' : Int} (h : Boxes w H b s b' s') (hb : Below w.heap.size w w') : Boxes w' H b s b' s' := ⟨h.1.on hb, h.2.on hb⟩
theorem Boxes.new_at (w : World) (H : Nat) (hH : w.heap.size = H) (t t' : TypeId) (b s b' s' : Int) : Boxes ((w.alloc (.cells #[.int .i64 b, .int .i64 s] t)).alloc (.cells #[.int .i64 b', .int .i64 s'] t')) H b s b' s' :=
  ⟨(Boxed.new_at w H hH t b s).alloc _, Boxed.new_at _ (H + 1) (by simp; omega) t' b' s'⟩
end Go.Proofs.Ytmaecadflilbgaa
