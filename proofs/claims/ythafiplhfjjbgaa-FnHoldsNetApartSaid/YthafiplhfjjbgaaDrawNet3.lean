/-
  The generator's arguments: DrawValidNet, DrawSplitNet, addrNear, DrawInNet, DrawHoldsNet.
-/
import Derived.Test.YthafiplhfjjbgaaDrawNet2
namespace Go.Proofs.Ythafiplhfjjbgaa
open Go.RowKit
attribute [local go_sem ↓] Go.wp_at_zero Go.wp_at_succ

theorem Bytes.alloc {w : World} {a : Option Addr} {n : Nat} (h : Bytes w a n) (o : Obj) : Bytes (w.alloc o) a n := fun h0 => by
  obtain ⟨b, off, e, hb, hi⟩ := h h0
  refine ⟨b, off, e, by simp; omega, fun i hl => ?_⟩
  obtain ⟨z, z0, z1, hz⟩ := hi i hl
  exact ⟨z, z0, z1, (World.cell?_alloc_lt w _ ⟨b, off + i, none⟩ hb).trans hz⟩

/-- What a generator of one net leaves. -/
def DrewNet (w : World) (Q : Int → Int → Prop) (e : Ending) (w' : World) : Prop :=
  ∃ b s : Int, e = .returned (.agg #[.int .i64 b, .int .i64 s]) ∧ Q b s ∧ Below w.heap.size w w'
/-- The ranges of the nets that anyNet gives. -/
def netR (b s : Int) : Prop := -1 ≤ s ∧ s ≤ 17 ∧ 0 ≤ b ∧ b ≤ 131071

/-- The result's place takes the net, behind all else. -/
theorem drew_end {w w9 : World} {h : Nat} {x y u v : Int} (hh : w.heap.size ≤ h) (T : Two w9 h h u v) (G : Below w.heap.size w w9) :
    (((w9.setCell ⟨h, 0, none⟩ (.int .i64 x)).setCell ⟨h, 1, none⟩ (.int .i64 y)).cell? ⟨h, 0, none⟩ = some (.int .i64 x) ∧ ((w9.setCell ⟨h, 0, none⟩ (.int .i64 x)).setCell ⟨h, 1, none⟩ (.int .i64 y)).cell? ⟨h, 1, none⟩ = some (.int .i64 y)) ∧
    Below w.heap.size w ((w9.setCell ⟨h, 0, none⟩ (.int .i64 x)).setCell ⟨h, 1, none⟩ (.int .i64 y)) := by
  have T' := ((T.set0 x).set1 y).at_
  exact ⟨⟨T'.1, T'.2.1⟩, (G.setCell (p := ⟨h, 0, none⟩) hh (.int .i64 x)).setCell (p := ⟨h, 1, none⟩) hh (.int .i64 y)⟩

set_option maxHeartbeats 800000 in
theorem DrawValidNet_any (a : Option Addr) (n c : Nat) (w : World) (hb : Bytes w a n) (hnc : n ≤ c) (hc : c ≤ 9223372036854775807) :
    Calls Try.prog 19 #[.slice a n c] w (DrewNet w netR) := by
  have HT0 := Lib.hid (Two.new_at w w.heap.size rfl 25 0 0)
  have HB0 := Lib.hid ((Below.refl w.heap.size w).alloc (Nat.le_refl _) (.cells #[.int .i64 0, .int .i64 0] 25))
  have hb1 := hb.alloc (.cells #[.int .i64 0, .int .i64 0] 25)
  clear hb
  go_enter Try.func19, Try.ntmps19
  go_wp2_with fail
  refine (newReader_any a n c _ hb1 hnc hc).mono ?_
  rintro e w1 ⟨rfl, r1, b1, z1⟩
  have T1 := Lib.hid (HT0.out.below b1)
  have B1 := Lib.hid (next HB0.out b1)
  have hl := T1.out.lt.2
  simp at r1 z1
  clear b1
  go_wp2_with fail
  refine (anyNet_any (w.heap.size + 1) (w.heap.size + 1) 0 _ r1 (by omega)).mono ?_
  rintro e w2 ⟨b, s, rfl, hQ, r2, g2⟩
  have T2 := T1.out.far g2 (by omega)
  have ⟨q0, q1, q2, q3⟩ := T2.at_
  have E := Lib.hid (drew_end (x := b) (y := s) (Nat.le_refl _) T2 (only_below B1.out g2 (by omega) (by omega)))
  clear T2 g2
  go_wp2
  exact bodyPost_ret (v := .agg #[.int .i64 b, .int .i64 s]) (results_two (g := w.heap.size) rfl _ _ _ _ _ rfl E.out.1.1 E.out.1.2 Try.underlying25 rfl (by kernel_rfl)) rfl ⟨b, s, rfl, hQ, E.out.2⟩
end Go.Proofs.Ythafiplhfjjbgaa
