/-
  Nets: size, ValidNet, has, of the program and of the reference: what they return, for all nets.
-/
import Derived.Test.YtmaecadflilbgaaSum1
import Derived.Test.YtmaecadflilbgaaPlainNet
import Derived.Deep.RegionHeld3
import Derived.Deep.DrawnRows
namespace Go.Proofs.Ytmaecadflilbgaa
open Go.RowKit
attribute [local go_sem ↓] Go.wp_at_zero Go.wp_at_succ

set_option maxHeartbeats 400000 in
theorem validAddr_any (n : Int) (w : World) : Calls Try.prog 37 #[.int .i64 n] w fun e w' => e = .returned (.bool (inR n 0 65535)) ∧ w = w' := by
  go_enter Try.func37, Try.ntmps37
  go_wp2_with (go_at_call 41; refine (inRange_any _ _ _ _).mono ?_; rintro e w' ⟨rfl, rfl⟩)
  go_ret
  exact ⟨rfl, rfl⟩

theorem wrap_pow {k : Nat} (h : k ≤ 16) : wrap64 ((2 : Int) ^ k) = p2 k := by
  have h1 : (2 : Int) ^ k = p2 k := by unfold p2; rw [Int.natCast_pow]; rfl
  have h2 := p2_16 h
  have h3 := p2_pos k
  rw [h1]; exact IntWalk.wrap64_in _ ⟨by omega, by omega⟩

set_option maxHeartbeats 400000 in
/-- size, of the program. -/
theorem size_any (b s : Int) (w : World) (h0 : 0 ≤ s) (h1 : s ≤ 16) : Calls Try.prog 32 #[.agg #[.int .i64 b, .int .i64 s]] w fun e w' => e = .returned (.int .i64 (szN s)) ∧ Below w.heap.size w w' := by
  go_enter Try.func32, Try.ntmps32
  go_wp2
  go_ret
  exact ⟨ret_int (wrap_pow (by omega)), (Below.refl _ _).alloc (Nat.le_refl _) _⟩

set_option maxHeartbeats 400000 in
/-- size, of the reference. -/
theorem specsize_any (b s : Int) (w : World) (h0 : 0 ≤ s) (h1 : s ≤ 16) : Calls Try.prog 30 #[.agg #[.int .i64 b, .int .i64 s]] w fun e w' => e = .returned (.int .i64 (szN s)) ∧ Below w.heap.size w w' := by
  have hB := (Below.refl w.heap.size w).alloc (Nat.le_refl _) (.cells #[.int .i64 b, .int .i64 s] 24)
  have HB := Lib.hid hB
  clear hB
  go_enter Try.func30, Try.ntmps30
  go_wp2
  go_loop [3, 4] (fun o i => ∃ (k : Nat) (iv : Int), i = .int .i64 iv ∧ o = .int .i64 (p2 k) ∧ iv = s + k ∧ k ≤ (16 - s).toNat) (fun _ i => (16 - intOf i).toNat)
  case atStart => exact ⟨0, s, rfl, rfl, by omega, Nat.zero_le _⟩
  case round =>
    obtain ⟨k, iv, rfl, rfl, hiv, hk⟩ := hrel
    have HV := Lib.hid hiv
    by_cases hlt : iv < 16
    · have hle : p2 k ≤ 65536 := p2_16 (by omega)
      have hpos := p2_pos k
      have HP := Lib.hid (p2_succ k)
      have hv0 : 0 ≤ iv := by omega
      clear hiv
      go_wp2
      go_round
      case rel => exact ⟨k + 1, iv + 1, rfl, by rw [HP.out], by have := HV.out; omega, by have := HV.out; omega⟩
      case measure => simp [intOf]; omega
    · have hkk : k = (16 - s).toNat := by omega
      have HK := Lib.hid hkk
      clear hiv hkk
      go_wp2
      go_ret
      exact ⟨ret_int (by rw [HK.out]; rfl), HB.out⟩

set_option maxHeartbeats 800000 in
/-- ValidNet. -/
theorem ValidNet_any (b s : Int) (w : World) : Calls Try.prog 15 #[.agg #[.int .i64 b, .int .i64 s]] w fun e w' => e = .returned (.bool (vN b s)) ∧ Below w.heap.size w w' := by
  have hB := (Below.refl w.heap.size w).alloc (Nat.le_refl _) (.cells #[.int .i64 b, .int .i64 s] 24)
  have HB := Lib.hid hB
  clear hB
  cases h1 : inR s 0 16
  · have HV := Lib.hid (vN_no1 (b := b) h1)
    go_enter Try.func15, Try.ntmps15
    go_wp2
    go_quiet ((go_at_call 34; exact quietL (in_any _ _ _ _)))
    go_wp2
    go_ret
    exact ⟨ret_bool HV.out.symm, below_drewN HB.out nq⟩
  · cases h2 : inR b 0 65535
    · have HV := Lib.hid (vN_no2 (s := s) h2)
      go_enter Try.func15, Try.ntmps15
      go_wp2
      go_quiet ((first | (go_at_call 34; exact quietL (in_any _ _ _ _)) | (go_at_call 35; exact quietL (isWord_any _ _))))
      go_wp2
      go_ret
      exact ⟨ret_bool HV.out.symm, below_drewN HB.out nq⟩
    · have HV := Lib.hid (show vN b s = (b.tmod (szN s) == 0) by rw [vN_eq h1 h2, Int.tmod_eq_emod_of_nonneg (inR_iff.1 h2).1])
      have ⟨s0, s1⟩ := inR_iff.1 h1
      have ⟨b0, b1⟩ := inR_iff.1 h2
      have hp := szN_pos s
      have hp0 : (szN s == 0) = false := by simp; omega
      have hp2 : ¬ szN s = 0 := by omega
      go_enter Try.func15, Try.ntmps15
      go_wp2
      go_region_held3 (fun w' => w'.cell? ⟨w.heap.size, 0, none⟩ = some (.int .i64 b) ∧ w'.cell? ⟨w.heap.size, 1, none⟩ = some (.int .i64 s)) (go_keep)
        (first
        | (go_at_call 34; refine (in_any _ _ _ _).mono ?_; rintro e w5 ⟨rfl, rfl⟩)
        | (go_at_call 35; refine (isWord_any _ _).mono ?_; rintro e w5 ⟨rfl, rfl⟩)
        | (go_at_call 32; refine (size_any b s _ s0 s1).mono ?_; rintro e w6 ⟨rfl, b6⟩; have k1 : w6.cell? ⟨w.heap.size, 0, none⟩ = some (.int .i64 b) := (b6.cell (p := ⟨w.heap.size, 0, none⟩) (by simp)).trans (box2 w _ _ _).1; have k2 : w6.cell? ⟨w.heap.size, 1, none⟩ = some (.int .i64 s) := (b6.cell (p := ⟨w.heap.size, 1, none⟩) (by simp)).trans (box2 w _ _ _).2))
      all_goals go_wp2
      all_goals go_ret
      all_goals exact ⟨ret_bool HV.out.symm, next HB.out.drew b6⟩

set_option maxHeartbeats 800000 in
/-- validNet, of the reference. -/
theorem specvalidNet_any (b s : Int) (w : World) : Calls Try.prog 28 #[.agg #[.int .i64 b, .int .i64 s]] w fun e w' => e = .returned (.bool (vN b s)) ∧ Below w.heap.size w w' := by
  have hB := (Below.refl w.heap.size w).alloc (Nat.le_refl _) (.cells #[.int .i64 b, .int .i64 s] 24)
  have HB := Lib.hid hB
  clear hB
  cases h1 : inR s 0 16
  · have HV := Lib.hid (vN_no1 (b := b) h1)
    go_enter Try.func28, Try.ntmps28
    go_wp2
    go_quiet ((go_at_call 41; exact quietL (inRange_any _ _ _ _)))
    go_wp2
    go_ret
    exact ⟨ret_bool HV.out.symm, below_drewN HB.out nq⟩
  · cases h2 : inR b 0 65535
    · have HV := Lib.hid (vN_no2 (s := s) h2)
      go_enter Try.func28, Try.ntmps28
      go_wp2
      go_quiet ((first | (go_at_call 41; exact quietL (inRange_any _ _ _ _)) | (go_at_call 37; exact quietL (validAddr_any _ _))))
      go_wp2
      go_ret
      exact ⟨ret_bool HV.out.symm, below_drewN HB.out nq⟩
    · have HV := Lib.hid (show vN b s = (b.tmod (szN s) == 0) by rw [vN_eq h1 h2, Int.tmod_eq_emod_of_nonneg (inR_iff.1 h2).1])
      have ⟨s0, s1⟩ := inR_iff.1 h1
      have ⟨b0, b1⟩ := inR_iff.1 h2
      have hp := szN_pos s
      have hp0 : (szN s == 0) = false := by simp; omega
      have hp2 : ¬ szN s = 0 := by omega
      go_enter Try.func28, Try.ntmps28
      go_wp2
      go_region_held3 (fun w' => w'.cell? ⟨w.heap.size, 0, none⟩ = some (.int .i64 b) ∧ w'.cell? ⟨w.heap.size, 1, none⟩ = some (.int .i64 s)) (go_keep)
        (first
        | (go_at_call 41; refine (inRange_any _ _ _ _).mono ?_; rintro e w5 ⟨rfl, rfl⟩)
        | (go_at_call 37; refine (validAddr_any _ _).mono ?_; rintro e w5 ⟨rfl, rfl⟩)
        | (go_at_call 30; refine (specsize_any b s _ s0 s1).mono ?_; rintro e w6 ⟨rfl, b6⟩; have k1 : w6.cell? ⟨w.heap.size, 0, none⟩ = some (.int .i64 b) := (b6.cell (p := ⟨w.heap.size, 0, none⟩) (by simp)).trans (box2 w _ _ _).1; have k2 : w6.cell? ⟨w.heap.size, 1, none⟩ = some (.int .i64 s) := (b6.cell (p := ⟨w.heap.size, 1, none⟩) (by simp)).trans (box2 w _ _ _).2))
      all_goals go_wp2
      all_goals go_ret
      all_goals exact ⟨ret_bool HV.out.symm, next HB.out.drew b6⟩


end Go.Proofs.Ytmaecadflilbgaa
