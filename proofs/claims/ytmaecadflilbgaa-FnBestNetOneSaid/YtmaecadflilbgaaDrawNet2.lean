/-
  The generator's nets: anyNet.
-/
import Derived.Test.YtmaecadflilbgaaDrawNet
import Derived.Deep.RegionLaw
namespace Go.Proofs.Ytmaecadflilbgaa
open Go.RowKit
attribute [local go_sem ↓] Go.wp_at_zero Go.wp_at_succ

/-- The result's place takes the net. -/
theorem gave_end {w w9 : World} {B R P P' h : Nat} {x y u v : Int} {Q : Int → Int → Prop} (hh : w.heap.size ≤ h) (hB : B ≤ R) (hR : R < w.heap.size) (T : Two w9 h h u v) (G : w.grownBy w9 (some R)) (r : Rd w9 B R P') (hP : P' ≤ P) (hQ : Q x y) :
    (((w9.setCell ⟨h, 0, none⟩ (.int .i64 x)).setCell ⟨h, 1, none⟩ (.int .i64 y)).cell? ⟨h, 0, none⟩ = some (.int .i64 x) ∧ ((w9.setCell ⟨h, 0, none⟩ (.int .i64 x)).setCell ⟨h, 1, none⟩ (.int .i64 y)).cell? ⟨h, 1, none⟩ = some (.int .i64 y)) ∧
    GaveNet w B R P Q (.returned (.agg #[.int .i64 x, .int .i64 y])) ((w9.setCell ⟨h, 0, none⟩ (.int .i64 x)).setCell ⟨h, 1, none⟩ (.int .i64 y)) := by
  have T' := ((T.set0 x).set1 y).at_
  have gA := only_setCell w9 h 0 (.int .i64 x)
  have gB := only_setCell (w9.setCell ⟨h, 0, none⟩ (.int .i64 x)) h 1 (.int .i64 y)
  exact ⟨⟨T'.1, T'.2.1⟩, .mk _ _ rfl hQ (((r.far gA (by omega) (by omega)).far gB (by omega) (by omega)).mono hP) (only_new (only_new G gA hh) gB hh)⟩

theorem _root_.Go.World.alloc_size_drew (w : World) (o : Obj) : (w.heap.size < (w.drew.alloc o).heap.size) = True := by
  have : (w.drew.alloc o).heap.size = w.drew.heap.size + 1 := by simp
  rw [this]; exact eq_true (Nat.lt_succ_self _)

set_option maxHeartbeats 3200000 in
theorem anyNet_any (B R P : Nat) (w : World) (h : Rd w B R P) (hP : P ≤ 700000) :
    Calls Try.prog 27 #[.pointer (some ⟨R, 0, none⟩)] w (GaveNet w B R (P + 8) fun b s => -1 ≤ s ∧ s ≤ 17 ∧ 0 ≤ b ∧ b ≤ 131071) := by
  have hRl := h.lt
  have hlow := h.low
  have HT0 := Lib.hid (Two.new_at w w.heap.size rfl 24 0 0)
  have hr0 := h.alloc (.cells #[.int .i64 0, .int .i64 0] 24)
  go_enter Try.func27, Try.ntmps27
  go_wp2_with fail
  refine (someNet_any B R P _ hr0 (by omega)).mono ?_
  rintro e w1 ⟨b, s, rfl, ⟨s0, s1, b0, b1⟩, r1, g1⟩
  have G1 := Lib.hid ((World.grownBy_alloc w (.cells #[.int .i64 0, .int .i64 0] 24) (some R)).trans g1)
  have T1 := Lib.hid (HT0.out.far g1 (by omega))
  have hw1' := T1.out.lt.2
  have N1 := Lib.hid (Two.new_at w1 w1.heap.size rfl 24 b s)
  have M1 := Lib.hid (T1.out.alloc (.cells #[.int .i64 b, .int .i64 s] 24))
  have R1 := r1.alloc (.cells #[.int .i64 b, .int .i64 s] 24)
  clear g1 hr0 h r1
  go_wp2_with fail
  refine (pick_any B R (P + 6) 16 _ R1 (by omega)).mono ?_
  rintro e w2 ⟨m, rfl, ⟨m0, m1⟩, r2, g2⟩
  have N2 := N1.out.far g2 (by omega)
  have M2 := M1.out.far g2 (by omega)
  have G2 := (G1.out.trans (World.grownBy_alloc w1 _ _)).trans g2
  have hl2 := N2.lt.2
  clear g2 R1 m1
  by_cases hm0 : m = 0
  · subst hm0
    have N3 := Lib.hid (N2.alloc (.cells (([-1, 17, 3] : List Int).map (Value.int .i64)).toArray 3))
    have M3 := Lib.hid (M2.alloc (.cells (([-1, 17, 3] : List Int).map (Value.int .i64)).toArray 3))
    have G3 := Lib.hid (G2.trans (World.grownBy_alloc w2 (.cells (([-1, 17, 3] : List Int).map (Value.int .i64)).toArray 3) (some R)))
    have hr2 := r2.lt
    go_wp2_with fail
    refine (one_any B R (P + 6 + 1) w2.heap.size 0 3 3 [-1, 17, 3] _ (r2.alloc _) (by omega) (by simp) rfl (by omega) (by omega) (by omega) (lit_cells w2 3 _)).mono ?_
    rintro e w3 ⟨u, rfl, hu, r3, g3⟩
    have hu' : -1 ≤ u ∧ u ≤ 17 := by
      simp only [List.mem_cons, List.not_mem_nil, or_false] at hu
      omega
    have N4 := N3.out.far g3 (by omega)
    have M4 := M3.out.far g3 (by omega)
    have G4 := G3.out.trans g3
    have ⟨q0, q1, q2, q3⟩ := N4.at_
    have ⟨p0, p1, p2, p3⟩ := M4.at_
    have g5 := only_setCell w3 w1.heap.size 1 (.int .i64 u)
    have M5 := M4.far g5 (by omega)
    have ⟨y0, y1, y2, y3⟩ := M5.at_
    have E := Lib.hid (gave_end (x := b) (y := u) (P := P + 8) (Q := fun b s => -1 ≤ s ∧ s ≤ 17 ∧ 0 ≤ b ∧ b ≤ 131071) (Nat.le_refl _) hlow hRl M5 (only_new G4 g5 (by omega)) (r3.far g5 (by omega) (by omega)) (by omega) ⟨by omega, by omega, by omega, by omega⟩)
    clear N2 M2 G2 g3 hu N4 M4 G4 M5 g5 r2 r3
    go_wp2
    exact bodyPost_ret (v := .agg #[.int .i64 b, .int .i64 u]) (results_two (g := w.heap.size) rfl _ _ _ _ _ rfl E.out.1.1 E.out.1.2 Try.underlying24 rfl (by kernel_rfl)) rfl E.out.2
  · have hm0' : (m == 0) = false := by simpa using hm0
    by_cases hm1 : m = 1
    · subst hm1
      have N3 := Lib.hid ((N2.drew).alloc (.cells (([1, 65536] : List Int).map (Value.int .i64)).toArray 3))
      have M3 := Lib.hid ((M2.drew).alloc (.cells (([1, 65536] : List Int).map (Value.int .i64)).toArray 3))
      have G3 := Lib.hid ((G2.drew').trans (World.grownBy_alloc w2.drew (.cells (([1, 65536] : List Int).map (Value.int .i64)).toArray 3) (some R)))
      have hr2 := r2.lt
      have ⟨q0, q1, q2, q3⟩ := N2.at_
      go_wp2
      go_region_law (first
        | (go_simp; go_at_call 39; refine (one_any B R (P + 6 + 1) w2.heap.size 0 2 2 [1, 65536] _ (r2.drew.alloc _) (by omega) (of_eq_true (World.alloc_size_drew _ _)) rfl (by omega) (by omega) (by omega) (lit_cells w2.drew 3 _)).mono ?_; rintro e w3 ⟨u, rfl, hu, r3, g3⟩; have hu' : 1 ≤ u ∧ u ≤ 65536 := (by simp only [List.mem_cons, List.not_mem_nil, or_false] at hu; omega); have N4 := N3.out.far g3 (by omega); have M4 := M3.out.far g3 (by omega); have G4 := G3.out.trans g3; have ⟨x0, x1, x2, x3⟩ := N4.at_; have ⟨p0, p1, p2, p3⟩ := M4.at_; have eu : IntKind.i64.wrap (b + u) = b + u := wrap_in (by omega)))
      all_goals (have g5 := only_setCell w3 w1.heap.size 0 (.int .i64 (b + u)); have M5 := M4.far g5 (by omega); have ⟨y0, y1, y2, y3⟩ := M5.at_; have E := Lib.hid (gave_end (x := b + u) (y := s) (P := P + 8) (Q := fun b s => -1 ≤ s ∧ s ≤ 17 ∧ 0 ≤ b ∧ b ≤ 131071) (Nat.le_refl _) hlow hRl M5 (only_new G4 g5 (by omega)) (r3.far g5 (by omega) (by omega)) (by omega) ⟨by omega, by omega, by omega, by omega⟩))
      all_goals clear N2 M2 G2 g3 hu N4 M4 G4 M5 g5 r2 r3
      all_goals go_wp2
      all_goals exact bodyPost_ret (v := .agg #[.int .i64 (b + u), .int .i64 s]) (results_two (g := w.heap.size) rfl _ _ _ _ _ rfl E.out.1.1 E.out.1.2 Try.underlying24 rfl (by kernel_rfl)) rfl E.out.2
    · have hm1' : (m == 1) = false := by simpa using hm1
      have ⟨q0, q1, q2, q3⟩ := N2.at_
      have ⟨p0, p1, p2, p3⟩ := M2.at_
      have E := Lib.hid (gave_end (x := b) (y := s) (P := P + 8) (Q := fun b s => -1 ≤ s ∧ s ≤ 17 ∧ 0 ≤ b ∧ b ≤ 131071) (Nat.le_refl _) hlow hRl M2 G2 r2 (by omega) ⟨by omega, by omega, by omega, by omega⟩)
      clear N2 M2 G2 r2
      go_wp2
      exact bodyPost_ret (v := .agg #[.int .i64 b, .int .i64 s]) (results_two (g := w.heap.size) rfl _ _ _ _ _ rfl E.out.1.1 E.out.1.2 Try.underlying24 rfl (by kernel_rfl)) rfl E.out.2
end Go.Proofs.Ytmaecadflilbgaa
