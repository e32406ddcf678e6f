/-
  The generator's arguments: DrawInNet.
-/
import Derived.Test.YtmaecadflilbgaaDrawNet3
import Derived.Test.YtmaecadflilbgaaDrawNear
namespace Go.Proofs.Ytmaecadflilbgaa
open Go.RowKit
attribute [local go_sem ↓] Go.wp_at_zero Go.wp_at_succ

/-- What DrawInNet leaves. -/
def DrewIn (w : World) (e : Ending) (w' : World) : Prop :=
  ∃ b s a : Int, e = .returned (.tuple #[.agg #[.int .i64 b, .int .i64 s], .int .i64 a]) ∧ netR b s ∧ (-1 ≤ a ∧ a ≤ 262144) ∧ Below w.heap.size w w'

set_option maxHeartbeats 3200000 in
theorem DrawInNet_any (a : Option Addr) (n c : Nat) (w : World) (hb : Bytes w a n) (hnc : n ≤ c) (hc : c ≤ 9223372036854775807) :
    Calls Try.prog 17 #[.slice a n c] w (DrewIn w) := by
  have HT0 := Lib.hid (Two.new_at w w.heap.size rfl 24 0 0)
  have HB0 := Lib.hid ((Below.refl w.heap.size w).alloc (Nat.le_refl _) (.cells #[.int .i64 0, .int .i64 0] 24))
  have hb1 := hb.alloc (.cells #[.int .i64 0, .int .i64 0] 24)
  clear hb
  go_enter Try.func17, Try.ntmps17
  go_wp2_with fail
  refine (newReader_any a n c _ hb1 hnc hc).mono ?_
  rintro e w1 ⟨rfl, r1, b1, z1⟩
  have T1 := Lib.hid (HT0.out.below b1)
  have B1 := Lib.hid (next HB0.out b1)
  have hl := T1.out.lt.2
  simp at r1 z1
  clear b1
  go_wp2_with fail
  refine (anyNet_any (w.heap.size + 1) (w.heap.size + 1) 0 _ r1 (by omega)).mono ?_
  rintro e w2 ⟨b, s, rfl, hQ, r2, g2⟩
  have hl2 := g2.size
  have T2 := Lib.hid ((T1.out.far g2 (by omega)).alloc (.cells #[.int .i64 b, .int .i64 s] 24))
  have N2 := Two.new_at w2 w2.heap.size rfl 24 b s
  have B2 := Lib.hid ((only_below B1.out g2 (by omega) (by omega)).alloc (by omega) (.cells #[.int .i64 b, .int .i64 s] 24))
  have R2 := Lib.hid (r2.alloc (.cells #[.int .i64 b, .int .i64 s] 24))
  have ⟨q0, q1, _, _⟩ := N2.at_
  clear g2 r2
  have hne : w2.heap.size ≠ w.heap.size := by omega
  have hne' : w.heap.size ≠ w2.heap.size := by omega
  go_wp2
  go_region_held3 (fun w' => w'.cell? ⟨w2.heap.size, 0, none⟩ = some (.int .i64 b) ∧ w'.cell? ⟨w2.heap.size, 1, none⟩ = some (.int .i64 s)) (first | go_keep | (constructor <;> simp [hne, hne', q0, q1]))
    (first
    | (go_at_call 36; refine (addrNear_any (w.heap.size + 1) (w.heap.size + 1) 8 b s _ R2.out.drew (by omega) hQ.2.2.1 hQ.2.2.2).mono ?_; rintro e w3 ⟨m, rfl, hm, r3, g3⟩; have N3 := N2.drew.far g3 (by omega); have ⟨q0, q1, q2, q3⟩ := N3.at_; have T3 := T2.out.drew.far g3 (by omega); have ⟨p0, p1, p2, p3⟩ := T3.at_))
  all_goals go_wp2
  all_goals (
    have E := drew_end (x := b) (y := s) (Nat.le_refl _) T3 (only_below B2.out.drew g3 (by show w.heap.size ≤ (w2.alloc (.cells #[.int .i64 b, .int .i64 s] 24)).heap.size; simp; omega) (by omega))
    refine bodyPost_ret (v := _) (results_two_tmp (g := w.heap.size) (p := 2) (u := 3) rfl _ _ _ _ _ rfl E.1.1 E.1.2 Try.underlying24 rfl (by kernel_rfl)) rfl ⟨b, s, m, rfl, hQ, hm, E.2⟩)
end Go.Proofs.Ytmaecadflilbgaa
