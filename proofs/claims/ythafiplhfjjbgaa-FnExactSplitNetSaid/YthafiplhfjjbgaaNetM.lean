/-
  Lists of nets: the marks of the statements.
-/
import Derived.Test.YthafiplhfjjbgaaNetE
namespace Go.Proofs.Ythafiplhfjjbgaa
open Go.RowKit
attribute [local go_sem ↓] Go.wp_at_zero Go.wp_at_succ

/-- The marks. -/
def marksN (n : Nat) : List Value := (List.range (n * 2)).map fun t : Nat => Value.int .i64 (1 + (t : Int))
theorem marksN_at {n t : Nat} (h : t < n * 2) : (marksN n)[t]? = some (.int .i64 (1 + (t : Int))) := by simp [marksN, h]
theorem marksN_of {n : Nat} {ys : List Value} (hl : ys.length = n * 2) (h : ∀ t, t < n * 2 → ys[t]? = some (.int .i64 (1 + (t : Int)))) : ys = marksN n := by
  apply List.ext_getElem?
  intro t
  by_cases ht : t < n * 2
  · rw [h t ht, marksN_at ht]
  · rw [List.getElem?_eq_none (by omega), List.getElem?_eq_none (by simp [marksN]; omega)]

theorem markNetS_none (k : Int) (w : World) : Calls Try.prog 24 #[.slice none 0 0, .int .i64 k] w fun e w' => e = .returned (.int .i64 k) ∧ w = w' := by
  go_enter Try.func24, Try.ntmps24
  go_wp2
  go_loopw [1, 5] (fun k' i wr => k' = .int .i64 k ∧ i = .int .i64 0 ∧ wr = w) (fun _ i _ => 0)
  case atStart => exact ⟨rfl, rfl, rfl⟩
  case round =>
    obtain ⟨rfl, rfl, rfl⟩ := hrel
    go_wp2
    go_ret
    exact ⟨rfl, rfl⟩

set_option maxHeartbeats 1600000 in
theorem markNetS_any (g n cap base : Nat) (xs : List Value) (w : World) (hm : Mine w base 2 (some ⟨g, 0, none⟩) n cap xs) (hn : n ≤ 100000) :
    Calls Try.prog 24 #[.slice (some ⟨g, 0, none⟩) n cap, .int .i64 1] w fun e w' => e = .returned (.int .i64 (1 + 2 * (n : Int))) ∧ w.grownBy w' (some g) ∧ Mine w' base 2 (some ⟨g, 0, none⟩) n cap (marksN n) := by
  go_enter Try.func24, Try.ntmps24
  go_wp2
  go_loopw [1, 5] (fun k' i wr => ∃ (j : Nat) (ys : List Value), j ≤ n ∧ k' = .int .i64 (1 + 2 * (j : Int)) ∧ i = .int .i64 j ∧ w.grownBy wr (some g) ∧ Mine wr base 2 (some ⟨g, 0, none⟩) n cap ys ∧ ∀ t, t < j * 2 → ys[t]? = some (.int .i64 (1 + (t : Int)))) (fun _ i _ => n - (intOf i).toNat)
  case atStart => exact ⟨0, xs, Nat.zero_le _, rfl, rfl, World.grownBy.refl _ _, hm, fun t h => by omega⟩
  case round wr =>
    obtain ⟨j, ys, hj, rfl, rfl, hg, hy, ht⟩ := hrel
    by_cases hlt : j < n
    · have hnc := hy.2.1
      have hl := hy.1
      obtain ⟨⟨v0, q0⟩, f0⟩ := hy.can0 (j := j * 2) (by omega)
      have hs1 := hy.set0 (j := j * 2) (by omega) (.int .i64 (1 + 2 * (j : Int)))
      obtain ⟨⟨v1, q1⟩, f1⟩ := hs1.can0 (j := j * 2 + 1) (by omega)
      have hs2 := hs1.set0 (j := j * 2 + 1) (by omega) (.int .i64 (1 + 2 * (j : Int) + 1))
      have l1 : (j : Int) < (n : Int) := by omega
      have l2 : (0 : Int) ≤ (j : Int) := by omega
      go_wp2
      refine ⟨⟨j + 1, _, by omega, ?_, ?_, ?_, hs2, fun t hlt' => ?_⟩, ?_⟩
      · congr 1 <;> omega
      · congr 1
      · exact (hg.trans (only_setCell _ g _ _)).trans (only_setCell _ g _ _)
      · simp only [List.getElem?_set, List.length_set]
        by_cases e1 : j * 2 + 1 = t
        · subst e1
          rw [if_pos rfl, if_pos (by omega)]; congr 2 <;> omega
        · rw [if_neg e1]
          by_cases e0 : j * 2 = t
          · subst e0
            rw [if_pos rfl, if_pos (by omega)]; congr 2 <;> omega
          · rw [if_neg e0]; exact ht t (by omega)
      · simp [intOf]; omega
    · obtain rfl : j = n := by omega
      go_wp2
      go_ret
      exact ⟨rfl, hg, (marksN_of hy.1 ht) ▸ hy⟩

theorem heldNetS_none (k : Int) (w : World) : Calls Try.prog 25 #[.slice none 0 0, .int .i64 k] w fun e w' => e = .returned (.int .i64 k) ∧ w = w' := by
  go_enter Try.func25, Try.ntmps25
  go_wp2
  go_loopw [1, 5] (fun k' i wr => k' = .int .i64 k ∧ i = .int .i64 0 ∧ wr = w) (fun _ i _ => 0)
  case atStart => exact ⟨rfl, rfl, rfl⟩
  case round =>
    obtain ⟨rfl, rfl, rfl⟩ := hrel
    go_wp2
    go_ret
    exact ⟨rfl, rfl⟩

set_option maxHeartbeats 1600000 in
theorem heldNetS_any (g n cap base : Nat) (w : World) (hm : Mine w base 2 (some ⟨g, 0, none⟩) n cap (marksN n)) (hn : n ≤ 100000) :
    Calls Try.prog 25 #[.slice (some ⟨g, 0, none⟩) n cap, .int .i64 1] w fun e w' => e = .returned (.int .i64 (1 + 2 * (n : Int))) ∧ w = w' := by
  have Q : ∀ j, j < n → w.cell? ⟨g, j * 2, none⟩ = some (.int .i64 (1 + 2 * (j : Int))) ∧ w.cell? ⟨g, j * 2 + 1, none⟩ = some (.int .i64 (1 + 2 * (j : Int) + 1)) := fun j hlt => by
    constructor
    · rw [hm.at0 (j := j * 2) (by omega), marksN_at (by omega)]; congr 2 <;> omega
    · rw [hm.at0 (j := j * 2 + 1) (by omega), marksN_at (by omega)]; congr 2 <;> omega
  clear hm
  go_enter Try.func25, Try.ntmps25
  go_wp2
  go_loopw [1, 5] (fun k' i wr => ∃ (j : Nat), j ≤ n ∧ k' = .int .i64 (1 + 2 * (j : Int)) ∧ i = .int .i64 j ∧ wr = w) (fun _ i _ => n - (intOf i).toNat)
  case atStart => exact ⟨0, Nat.zero_le _, rfl, rfl, rfl⟩
  case round =>
    obtain ⟨j, hj, rfl, rfl, rfl⟩ := hrel
    by_cases hlt : j < n
    · have ⟨q0, q1⟩ := Q j hlt
      have l1 : (j : Int) < (n : Int) := by omega
      have l2 : (0 : Int) ≤ (j : Int) := by omega
      go_wp2
      refine ⟨⟨j + 1, by omega, ?_, ?_, trivial⟩, ?_⟩
      · congr 1 <;> omega
      · congr 1 <;> omega
      · simp [intOf]; omega
    · obtain rfl : j = n := by omega
      go_wp2
      go_ret
      exact ⟨rfl, rfl⟩
end Go.Proofs.Ythafiplhfjjbgaa
