/-
  The generator's arguments: DrawValidNet, DrawSplitNet, addrNear, DrawInNet, DrawHoldsNet.
-/
import Derived.Test.YtmaecadflilbgaaDrawNet2
namespace Go.Proofs.Ytmaecadflilbgaa
open Go.RowKit
attribute [local go_sem ↓] Go.wp_at_zero Go.wp_at_succ

theorem Bytes.alloc {w : World} {a : Option Addr} {n : Nat} (h : Bytes w a n) (o : Obj) : Bytes (w.alloc o) a n := fun h0 => by
  obtain ⟨b, off, e, hb, hi⟩ := h h0
  refine ⟨b, off, e, by simp; omega, fun i hl => ?_⟩
  obtain ⟨z, z0, z1, hz⟩ := hi i hl
  exact ⟨z, z0, z1, (World.cell?_alloc_lt w _ ⟨b, off + i, none⟩ hb).trans hz⟩

/-- What a generator of one net leaves. -/
def DrewNet (w : World) (Q : Int → Int → Prop) (e : Ending) (w' : World) : Prop :=
  ∃ b s : Int, e = .returned (.agg #[.int .i64 b, .int .i64 s]) ∧ Q b s ∧ Below w.heap.size w w'
/-- The ranges of the nets that anyNet gives. -/
def netR (b s : Int) : Prop := -1 ≤ s ∧ s ≤ 17 ∧ 0 ≤ b ∧ b ≤ 131071

/-- The result's place takes the net, behind all else. -/
theorem drew_end {w w9 : World} {h : Nat} {x y u v : Int} (hh : w.heap.size ≤ h) (T : Two w9 h h u v) (G : Below w.heap.size w w9) :
    (((w9.setCell ⟨h, 0, none⟩ (.int .i64 x)).setCell ⟨h, 1, none⟩ (.int .i64 y)).cell? ⟨h, 0, none⟩ = some (.int .i64 x) ∧ ((w9.setCell ⟨h, 0, none⟩ (.int .i64 x)).setCell ⟨h, 1, none⟩ (.int .i64 y)).cell? ⟨h, 1, none⟩ = some (.int .i64 y)) ∧
    Below w.heap.size w ((w9.setCell ⟨h, 0, none⟩ (.int .i64 x)).setCell ⟨h, 1, none⟩ (.int .i64 y)) := by
  have T' := ((T.set0 x).set1 y).at_
  exact ⟨⟨T'.1, T'.2.1⟩, (G.setCell (p := ⟨h, 0, none⟩) hh (.int .i64 x)).setCell (p := ⟨h, 1, none⟩) hh (.int .i64 y)⟩

end Go.Proofs.Ytmaecadflilbgaa
