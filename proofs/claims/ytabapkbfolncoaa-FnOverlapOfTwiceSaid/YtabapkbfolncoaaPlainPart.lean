/-
  Plain facts about parts: the least place that no part has; parts left out.
-/
import Derived.Test.YtabapkbfolncoaaPart5
namespace Go.Proofs.Ytabapkbfolncoaa
open Go.RowKit

theorem leastB (p : Nat → Bool) : ∀ m, (∀ j, j < m → p j = false) ∨ ∃ i, i < m ∧ p i = true ∧ ∀ j, j < i → p j = false
  | 0 => .inl fun j h => by omega
  | m + 1 => by
    rcases leastB p m with h | ⟨i, hi, hp, hn⟩
    · cases e : p m
      · refine .inl fun j hj => ?_
        rcases Nat.lt_or_eq_of_le (Nat.lt_succ_iff.1 hj) with h1 | rfl
        · exact h j h1
        · exact e
      · exact .inr ⟨m, by omega, e, h⟩
    · exact .inr ⟨i, by omega, hp, hn⟩
/-- Parts of valid parts are valid. -/
theorem validP_sub {L M : List Pt} (h : validP L = true) (hM : ∀ p ∈ M, p ∈ L) (hl : M.length ≤ L.length) : validP M = true := by
  simp only [validP, Bool.and_eq_true, decide_eq_true_eq] at h ⊢
  exact ⟨List.all_eq_true.2 fun p hp => List.all_eq_true.1 h.1 p (hM p hp), by omega⟩
theorem missN_spec {L : List Pt} (hv : validP L = true) : missN L ≤ 12 ∧ covL L (missN L : Int) = false ∧ ∀ j : Nat, j < missN L → covL L (j : Int) = true := by
  rcases leastB (fun t => !covL L (t : Int)) 13 with h | ⟨i, hi, hp, hno⟩
  · have := h 12 (by omega)
    simp only [Bool.not_eq_false'] at this
    have := covL_low hv this
    omega
  · have hp : covL L (i : Int) = false := by simpa using hp
    have hno : ∀ j : Nat, j < i → covL L (j : Int) = true := fun j hj => by simpa using hno j hj
    rw [missN_at (by omega) hp hno]
    exact ⟨by omega, hp, hno⟩
theorem covL_sub {L M : List Pt} (hM : ∀ p ∈ M, p ∈ L) {t : Int} (h : covL M t = true) : covL L t = true := by
  obtain ⟨p, hp, he⟩ := List.any_eq_true.1 h
  exact List.any_eq_true.2 ⟨p, hM p hp, he⟩
theorem miss_sub {L M : List Pt} (hv : validP L = true) (hM : ∀ p ∈ M, p ∈ L) (hl : M.length ≤ L.length) : missOf M ≤ missOf L ∧ 0 ≤ missOf M := by
  have hv' := validP_sub hv hM hl
  unfold missOf
  rw [hv, hv', if_pos rfl, if_pos rfl]
  have ⟨_, h2, _⟩ := missN_spec hv
  have ⟨_, _, h6⟩ := missN_spec hv'
  refine ⟨?_, by omega⟩
  rcases Nat.lt_or_ge (missN L) (missN M) with h | h
  · have := covL_sub hM (h6 _ h)
    rw [h2] at this; cases this
  · omega
theorem miss_nil : missOf [] = 0 := by decide
theorem miss_bad {L : List Pt} (hv : validP L = false) : missOf L = -1 := by unfold missOf; rw [hv]; rfl
theorem miss_yes {L : List Pt} (hv : validP L = true) : missOf L = (missN L : Int) := by unfold missOf; rw [hv]; rfl
end Go.Proofs.Ytabapkbfolncoaa
