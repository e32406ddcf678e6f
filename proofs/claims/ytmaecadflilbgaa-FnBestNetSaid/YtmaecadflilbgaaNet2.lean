/-
  Nets: has, InNet, HoldsNet, of the program and of the reference: what they return, for all nets and addresses.
-/
import Derived.Test.YtmaecadflilbgaaNet1
namespace Go.Proofs.Ytmaecadflilbgaa
open Go.RowKit
attribute [local go_sem ↓] Go.wp_at_zero Go.wp_at_succ

set_option maxHeartbeats 800000 in
/-- has. -/
theorem has_any (b s a : Int) (w : World) (s0 : 0 ≤ s) (s1 : s ≤ 16) (b0 : 0 ≤ b) (b1 : b ≤ 65536) : Calls Try.prog 31 #[.agg #[.int .i64 b, .int .i64 s], .int .i64 a] w fun e w' => e = .returned (.bool (hasN b s a)) ∧ Below w.heap.size w w' := by
  have hB := (Below.refl w.heap.size w).alloc (Nat.le_refl _) (.cells #[.int .i64 b, .int .i64 s] 24)
  have HB := Lib.hid hB
  clear hB
  have hp := szN_pos s
  have hq := szN_le s0
  have w1 : IntKind.i64.wrap (b + szN s) = b + szN s := wrap_in (by omega)
  have w2 : IntKind.i64.wrap (b + szN s - 1) = b + szN s - 1 := wrap_in (by omega)
  go_enter Try.func31, Try.ntmps31
  go_wp2
  go_region_held3 (fun w' => w'.cell? ⟨w.heap.size, 0, none⟩ = some (.int .i64 b) ∧ w'.cell? ⟨w.heap.size, 1, none⟩ = some (.int .i64 s)) (go_keep)
    (first
    | (go_at_call 34; refine (in_any _ _ _ _).mono ?_; rintro e w5 ⟨rfl, rfl⟩)
    | (go_at_call 32; refine (size_any b s _ s0 s1).mono ?_; rintro e w6 ⟨rfl, b6⟩; have k1 : w6.cell? ⟨w.heap.size, 0, none⟩ = some (.int .i64 b) := (b6.cell (p := ⟨w.heap.size, 0, none⟩) (by simp)).trans (box2 w _ _ _).1; have k2 : w6.cell? ⟨w.heap.size, 1, none⟩ = some (.int .i64 s) := (b6.cell (p := ⟨w.heap.size, 1, none⟩) (by simp)).trans (box2 w _ _ _).2))
  all_goals go_wp2
  all_goals go_ret
  all_goals exact ⟨rfl, next HB.out.drew b6⟩

set_option maxHeartbeats 800000 in
/-- inNet, of the reference. -/
theorem specinNet_any (b s a : Int) (w : World) (s0 : 0 ≤ s) (s1 : s ≤ 16) (b0 : 0 ≤ b) (b1 : b ≤ 65536) : Calls Try.prog 33 #[.agg #[.int .i64 b, .int .i64 s], .int .i64 a] w fun e w' => e = .returned (.bool (hasN b s a)) ∧ Below w.heap.size w w' := by
  have hB := (Below.refl w.heap.size w).alloc (Nat.le_refl _) (.cells #[.int .i64 b, .int .i64 s] 24)
  have HB := Lib.hid hB
  clear hB
  have hp := szN_pos s
  have hq := szN_le s0
  have w1 : IntKind.i64.wrap (b + szN s) = b + szN s := wrap_in (by omega)
  have w2 : IntKind.i64.wrap (b + szN s - 1) = b + szN s - 1 := wrap_in (by omega)
  go_enter Try.func33, Try.ntmps33
  go_wp2
  go_region_held3 (fun w' => w'.cell? ⟨w.heap.size, 0, none⟩ = some (.int .i64 b) ∧ w'.cell? ⟨w.heap.size, 1, none⟩ = some (.int .i64 s)) (go_keep)
    (first
    | (go_at_call 41; refine (inRange_any _ _ _ _).mono ?_; rintro e w5 ⟨rfl, rfl⟩)
    | (go_at_call 30; refine (specsize_any b s _ s0 s1).mono ?_; rintro e w6 ⟨rfl, b6⟩; have k1 : w6.cell? ⟨w.heap.size, 0, none⟩ = some (.int .i64 b) := (b6.cell (p := ⟨w.heap.size, 0, none⟩) (by simp)).trans (box2 w _ _ _).1; have k2 : w6.cell? ⟨w.heap.size, 1, none⟩ = some (.int .i64 s) := (b6.cell (p := ⟨w.heap.size, 1, none⟩) (by simp)).trans (box2 w _ _ _).2))
  all_goals go_wp2
  all_goals go_ret
  all_goals exact ⟨rfl, next HB.out.drew b6⟩

theorem inN_no {b s a : Int} (h : vN b s = false) : inN b s a = false := by simp [inN, h]
theorem inN_no2 {b s a : Int} (h : inR a 0 65535 = false) : inN b s a = false := by simp [inN, h]
theorem inN_yes {b s a : Int} (h : vN b s = true) (h' : inR a 0 65535 = true) : inN b s a = hasN b s a := by simp [inN, h, h']

set_option maxHeartbeats 800000 in
/-- InNet. -/
theorem InNet_any (b s a : Int) (w : World) : Calls Try.prog 16 #[.agg #[.int .i64 b, .int .i64 s], .int .i64 a] w fun e w' => e = .returned (.bool (inN b s a)) ∧ Below w.heap.size w w' := by
  have HB := Lib.hid ((Below.refl w.heap.size w).alloc (Nat.le_refl _) (.cells #[.int .i64 b, .int .i64 s] 24))
  go_enter Try.func16, Try.ntmps16
  go_wp2_with fail
  refine (ValidNet_any b s _).mono ?_
  rintro e w1 ⟨rfl, b1⟩
  have hb1 := Lib.hid (next HB.out b1)
  cases hv : vN b s
  · have HV := Lib.hid (inN_no (a := a) hv)
    go_wp2
    go_ret
    exact ⟨ret_bool HV.out.symm, hb1.out⟩
  · have c0 : w1.cell? ⟨w.heap.size, 0, none⟩ = some (.int .i64 b) := (b1.cell (p := ⟨w.heap.size, 0, none⟩) (by simp)).trans (box2 w _ _ _).1
    have c1 : w1.cell? ⟨w.heap.size, 1, none⟩ = some (.int .i64 s) := (b1.cell (p := ⟨w.heap.size, 1, none⟩) (by simp)).trans (box2 w _ _ _).2
    cases ha : inR a 0 65535
    · have HV := Lib.hid (inN_no2 (b := b) (s := s) ha)
      clear b1
      go_wp2_with (go_at_call 35; refine (isWord_any _ _).mono ?_; rintro e w' ⟨rfl, rfl⟩)
      go_ret
      exact ⟨ret_bool HV.out.symm, hb1.out⟩
    · have HV := Lib.hid (inN_yes hv ha)
      have ⟨s0, s1⟩ := inR_iff.1 (vN_bits hv)
      have ⟨b0, b1'⟩ := inR_iff.1 (vN_word hv)
      clear b1
      go_wp2_with (go_at_call 35; refine (isWord_any _ _).mono ?_; rintro e w' ⟨rfl, rfl⟩)
      refine (has_any b s a _ s0 s1 b0 (by omega)).mono ?_
      rintro e w2 ⟨rfl, b2⟩
      go_wp2
      go_ret
      exact ⟨ret_bool HV.out.symm, next hb1.out b2⟩

set_option maxHeartbeats 800000 in
/-- InNet, of the reference. -/
theorem specInNet_any (b s a : Int) (w : World) : Calls Try.prog 19 #[.agg #[.int .i64 b, .int .i64 s], .int .i64 a] w fun e w' => e = .returned (.bool (inN b s a)) ∧ Below w.heap.size w w' := by
  have HB := Lib.hid ((Below.refl w.heap.size w).alloc (Nat.le_refl _) (.cells #[.int .i64 b, .int .i64 s] 24))
  go_enter Try.func19, Try.ntmps19
  go_wp2_with fail
  refine (specvalidNet_any b s _).mono ?_
  rintro e w1 ⟨rfl, b1⟩
  have hb1 := Lib.hid (next HB.out b1)
  cases hv : vN b s
  · have HV := Lib.hid (inN_no (a := a) hv)
    go_wp2
    go_ret
    exact ⟨ret_bool HV.out.symm, hb1.out⟩
  · have c0 : w1.cell? ⟨w.heap.size, 0, none⟩ = some (.int .i64 b) := (b1.cell (p := ⟨w.heap.size, 0, none⟩) (by simp)).trans (box2 w _ _ _).1
    have c1 : w1.cell? ⟨w.heap.size, 1, none⟩ = some (.int .i64 s) := (b1.cell (p := ⟨w.heap.size, 1, none⟩) (by simp)).trans (box2 w _ _ _).2
    cases ha : inR a 0 65535
    · have HV := Lib.hid (inN_no2 (b := b) (s := s) ha)
      clear b1
      go_wp2_with (go_at_call 37; refine (validAddr_any _ _).mono ?_; rintro e w' ⟨rfl, rfl⟩)
      go_ret
      exact ⟨ret_bool HV.out.symm, hb1.out⟩
    · have HV := Lib.hid (inN_yes hv ha)
      have ⟨s0, s1⟩ := inR_iff.1 (vN_bits hv)
      have ⟨b0, b1'⟩ := inR_iff.1 (vN_word hv)
      clear b1
      go_wp2_with (go_at_call 37; refine (validAddr_any _ _).mono ?_; rintro e w' ⟨rfl, rfl⟩)
      refine (specinNet_any b s a _ s0 s1 b0 (by omega)).mono ?_
      rintro e w2 ⟨rfl, b2⟩
      go_wp2
      go_ret
      exact ⟨ret_bool HV.out.symm, next hb1.out b2⟩

end Go.Proofs.Ytmaecadflilbgaa
