/-
  Lists of nets: the statements' helpers eqNet, eqNetS, toNetS, szNetS.
-/
import Derived.Test.YtmaecadflilbgaaNetL
import Derived.Test.YtmaecadflilbgaaNet3
import Derived.Test.YtmaecadflilbgaaOwn
import Derived.Deep.DrawnRows
namespace Go.Proofs.Ytmaecadflilbgaa
open Go.RowKit
attribute [local go_sem ↓] Go.wp_at_zero Go.wp_at_succ

/-- A row of nets that is read: its block lies below B. -/
def NRow (w : World) (B : Nat) (a : Option Addr) (L : List (Int × Int)) : Prop :=
  0 < L.length → ∃ b o, a = some ⟨b, o, none⟩ ∧ b < B ∧ ∀ i, i < L.length → w.cell? ⟨b, o + i * 2, none⟩ = some (.int .i64 (L.getD i (0, 0)).1) ∧ w.cell? ⟨b, o + i * 2 + 1, none⟩ = some (.int .i64 (L.getD i (0, 0)).2)
theorem NRow.nil_ {w : World} {B : Nat} {a : Option Addr} : NRow w B a [] := fun h => absurd h (by simp)
theorem NRow.keep {w w' : World} {B : Nat} {a : Option Addr} {L : List (Int × Int)} (h : NRow w B a L) (hc : ∀ b o, b < B → w'.cell? ⟨b, o, none⟩ = w.cell? ⟨b, o, none⟩) : NRow w' B a L := fun hn => by
  obtain ⟨b, o, e, hb, hi⟩ := h hn
  exact ⟨b, o, e, hb, fun i hl => ⟨(hc b _ hb).trans (hi i hl).1, (hc b _ hb).trans (hi i hl).2⟩⟩
theorem NRow.more {w : World} {B B' : Nat} {a : Option Addr} {L : List (Int × Int)} (h : NRow w B a L) (hB : B ≤ B') : NRow w B' a L := fun hn => by
  obtain ⟨b, o, e, hb, hi⟩ := h hn
  exact ⟨b, o, e, by omega, hi⟩
theorem NRow.below {w w' : World} {B : Nat} {a : Option Addr} {L : List (Int × Int)} (h : NRow w B a L) (hb : Below B w w') : NRow w' B a L := h.keep fun b o hlt => hb.cell (p := ⟨b, o, none⟩) hlt
theorem NRow.on {w w' : World} {a : Option Addr} {L : List (Int × Int)} (h : NRow w w.heap.size a L) (hb : Below w.heap.size w w') : NRow w' w'.heap.size a L := (h.below hb).more hb.size


end Go.Proofs.Ytmaecadflilbgaa
