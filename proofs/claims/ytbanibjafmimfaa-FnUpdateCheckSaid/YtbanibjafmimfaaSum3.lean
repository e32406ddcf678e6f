/-
  UpdateCheck, of the program and of the reference: what they return, for all arguments.
-/
import Derived.Test.YtbanibjafmimfaaSum2
namespace Go.Proofs.Ytbanibjafmimfaa
open Go.RowKit

theorem sumL_three {x y z : Int} (hx : x ≤ 65535) : sumL [x, y, z] = addW (addW x y) z := by
  have : addW 0 x = x := by rw [addW_lo (by omega)]; omega
  simp [sumL, this]

set_option maxHeartbeats 800000 in
theorem UpdateCheck_any (c o n : Int) (w : World) : Calls Try.prog 16 #[.int .i64 c, .int .i64 o, .int .i64 n] w fun e w' => e = .returned (.int .i64 (upd c o n)) ∧ Below w.heap.size w w' := by
  have hrow := lit_row w 3 [c, o, n]
  have hare : areW [c, o, n] = (inR c 0 65535 && (inR o 0 65535 && inR n 0 65535)) := by simp [areW, allR]
  by_cases h : inR c 0 65535 = true ∧ inR o 0 65535 = true ∧ inR n 0 65535 = true
  · obtain ⟨h1, h2, h3⟩ := h
    rw [upd_yes h1 h2 h3]
    rw [h1, h2, h3, Bool.true_and, Bool.true_and] at hare
    have ⟨c0, c1⟩ := inR_iff.1 h1
    have ⟨o0, o1⟩ := inR_iff.1 h2
    have ⟨n0, n1⟩ := inR_iff.1 h3
    have HA := Lib.hid hare
    have hs := sumL_three (x := 65535 - c) (y := 65535 - o) (z := n) (by omega)
    have hw3 : areW [65535 - c, 65535 - o, n] = true := by
      simp only [areW, allR, List.all_cons, List.all_nil, Bool.and_true, Bool.and_eq_true]
      exact ⟨inR_yes (by omega), inR_yes (by omega), h3⟩
    have ⟨s0, s1⟩ := sumL_word hw3
    have HS := Lib.hid hs
    have H3 := Lib.hid hw3
    have hrow2 := lit_row_at (w.alloc (.cells #[.int .i64 c, .int .i64 o, .int .i64 n] 3)) 3 [65535 - c, 65535 - o, n] (w.heap.size + 1) (by simp)
    clear hare h1 h2 h3 hs hw3
    go_enter Try.func16, Try.ntmps16
    go_wp2_with fail
    refine (areWords_any _ 3 3 (w.heap.size + 1) [c, o, n] _ rfl (by omega) hrow).mono ?_
    rw [HA.out]
    rintro e w1 ⟨rfl, rfl⟩
    clear hrow
    go_wp2_with fail
    refine (total_any _ 3 3 _ [65535 - c, 65535 - o, n] _ rfl (by omega) hrow2 H3.out).mono ?_
    rintro e w1 ⟨rfl, rfl⟩
    clear hrow2
    go_wp2
    go_ret
    exact ⟨ret_int (by rw [HS.out]), ((Below.refl _ _).alloc (Nat.le_refl _) _).alloc (by simp) _⟩
  · have hf : (inR c 0 65535 && (inR o 0 65535 && inR n 0 65535)) = false := by rw [Bool.eq_false_iff]; simpa using h
    have hv : upd c o n = -1 := if_neg h
    rw [hv]
    rw [hf] at hare
    have HA := Lib.hid hare
    clear hare h hf hv
    go_enter Try.func16, Try.ntmps16
    go_wp2_with fail
    refine (areWords_any _ 3 3 (w.heap.size + 1) [c, o, n] _ rfl (by omega) hrow).mono ?_
    rw [HA.out]
    rintro e w1 ⟨rfl, rfl⟩
    clear hrow
    go_wp2
    go_ret
    exact ⟨rfl, (Below.refl _ _).alloc (Nat.le_refl _) _⟩


end Go.Proofs.Ytbanibjafmimfaa
