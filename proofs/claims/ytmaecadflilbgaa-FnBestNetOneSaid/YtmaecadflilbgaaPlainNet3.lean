/-
  Nets: the statements' plain laws on two nets, and on halves.
-/
import Derived.Test.YtmaecadflilbgaaPlainNet2
namespace Go.Proofs.Ytmaecadflilbgaa

theorem hasN_iff {b s a : Int} : hasN b s a = true ↔ b ≤ a ∧ a ≤ b + szN s - 1 := inR_iff
theorem inN_iff {b s a : Int} : inN b s a = true ↔ vN b s = true ∧ (0 ≤ a ∧ a ≤ 65535) ∧ b ≤ a ∧ a ≤ b + szN s - 1 := by
  simp only [inN, Bool.and_eq_true, inR_iff, hasN_iff]
theorem holdsN_def {b s b' s' : Int} : holdsN b s b' s' = true ↔ vN b s = true ∧ vN b' s' = true ∧ (b ≤ b' ∧ b' ≤ b + szN s - 1) ∧ (b ≤ b' + szN s' - 1 ∧ b' + szN s' - 1 ≤ b + szN s - 1) := by
  simp only [holdsN, Bool.and_eq_true, hasN_iff]
theorem holdsN_iff {b s b' s' : Int} (h : vN b s = true) (h' : vN b' s' = true) : holdsN b s b' s' = true ↔ s ≤ s' ∧ b ≤ b' ∧ b' ≤ b + szN s - 1 := by
  have := holds_bits h h'
  rw [show holdsN b s b' s' = (hasN b s b' && hasN b s (b' + szN s' - 1)) by simp [holdsN, h, h'], this]
  simp only [Bool.and_eq_true, hasN_iff, decide_eq_true_eq]
theorem inN_before {b s : Int} : inN b s (b - 1) = false := by
  rw [← Bool.not_eq_true, inN_iff]; omega
theorem inN_ge {b s a : Int} (h : inN b s a = true) : b ≤ a := (inN_iff.1 h).2.2.1
theorem vN_range {b s : Int} (h : vN b s = true) : (0 ≤ s ∧ s ≤ 16) ∧ (0 ≤ b ∧ b ≤ 65535) ∧ b + szN s ≤ 65536 ∧ 1 ≤ szN s :=
  ⟨inR_iff.1 (vN_bits h), inR_iff.1 (vN_word h), vN_fit h, szN_pos s⟩

/-- A net's first address in a net no greater is that one's first address. -/
theorem in_finer {b s b' s' : Int} (h : vN b s = true) (h' : vN b' s' = true) (hle : s ≤ s') (h1 : b' ≤ b) (h2 : b ≤ b' + szN s' - 1) : b = b' := by
  have hs := (vN_range h).1
  have hs' := (vN_range h').1
  obtain ⟨q, hq, _⟩ := szN_dvd hs.1 hle hs'.2
  have hm := vN_mod h
  rw [hq] at hm
  have hm' := mod_of_dvd hm
  rcases Int.lt_or_le b' b with hlt | hge
  · have := mul_step (szN_pos s') (vN_mod h') hm' hlt
    omega
  · omega

theorem apartN {b s b' s' : Int} (h : vN b s = true) (h' : vN b' s' = true) : (inN b s b' || inN b' s' b) = (holdsN b s b' s' || holdsN b' s' b s) := by
  have r := vN_range h
  have r' := vN_range h'
  rw [Bool.eq_iff_iff]
  simp only [Bool.or_eq_true, holdsN_iff h h', holdsN_iff h' h, inN_iff, h, h', true_and]
  constructor
  · rintro (⟨_, h1, h2⟩ | ⟨_, h1, h2⟩)
    · rcases Int.le_total s s' with hle | hle
      · exact .inl ⟨hle, h1, h2⟩
      · have := in_finer h' h hle h1 h2
        exact .inr ⟨hle, by omega, by omega⟩
    · rcases Int.le_total s s' with hle | hle
      · have := in_finer h h' hle h1 h2
        exact .inl ⟨hle, by omega, by omega⟩
      · exact .inr ⟨hle, h1, h2⟩
  · rintro (⟨_, h1, h2⟩ | ⟨_, h1, h2⟩)
    · exact .inl ⟨by omega, h1, h2⟩
    · exact .inr ⟨by omega, h1, h2⟩
theorem holds_in {b s b' s' : Int} (h : vN b s = true) (h' : vN b' s' = true) : holdsN b s b' s' = (inN b s b' && decide (s' ≥ s)) := by
  have r' := vN_range h'
  rw [Bool.eq_iff_iff]
  simp only [Bool.and_eq_true, holdsN_iff h h', inN_iff, h, true_and, decide_eq_true_eq]
  omega
theorem holds_both {b s b' s' : Int} (h : vN b s = true) (h' : vN b' s' = true) : (holdsN b' s' b s && holdsN b s b' s') = decide (b = b' ∧ s = s') := by
  have r := vN_range h
  have r' := vN_range h'
  rw [Bool.eq_iff_iff]
  simp only [Bool.and_eq_true, holdsN_iff h h', holdsN_iff h' h, decide_eq_true_eq]
  constructor
  · rintro ⟨h1, h2⟩; omega
  · rintro ⟨rfl, rfl⟩; omega
theorem in_held {b s b' s' x : Int} (h : holdsN b s b' s' = true) (hx : inN b' s' x = true) : inN b s x = true := by
  have h1 := holdsN_def.1 h
  have h2 := inN_iff.1 hx
  exact inN_iff.2 ⟨h1.1, h2.2.1, by omega, by omega⟩
theorem holds_trans {b s b' s' c t : Int} (h : holdsN b s b' s' = true) (h' : holdsN b' s' c t = true) : holdsN b s c t = true := by
  have h1 := holdsN_def.1 h
  have h2 := holdsN_def.1 h'
  have := szN_pos t
  exact holdsN_def.2 ⟨h1.1, h2.2.1, ⟨by omega, by omega⟩, by omega, by omega⟩
theorem holds_self {b s : Int} (h : vN b s = true) : holdsN b s b s = true := by
  have := szN_pos s
  exact (holdsN_iff h h).2 ⟨by omega, by omega, by omega⟩

theorem szN_halve {s : Int} (h0 : 0 ≤ s) (h : s < 16) : szN s = 2 * szN (s + 1) := by
  unfold szN; rw [← p2_succ]; congr 1; omega
theorem half_eq {s : Int} (h0 : 0 ≤ s) (h : s < 16) : szN s / 2 = szN (s + 1) := by rw [szN_halve h0 h]; omega
theorem half_v1 {b s : Int} (h : vN b s = true) (hs : s < 16) : vN b (s + 1) = true := by
  have r := vN_range h
  have hm := vN_mod h
  rw [szN_halve r.1.1 hs, Int.mul_comm] at hm
  rw [vN_eq (inR_iff.2 (by omega)) (vN_word h)]
  simpa using mod_of_dvd hm
theorem half_v2 {b s : Int} (h : vN b s = true) (hs : s < 16) : vN (b + szN s / 2) (s + 1) = true := by
  have r := vN_range h
  have e := szN_halve r.1.1 hs
  have hp := szN_pos (s + 1)
  have hm := vN_mod h
  rw [e, Int.mul_comm] at hm
  have hm' := mod_of_dvd hm
  rw [half_eq r.1.1 hs, vN_eq (inR_iff.2 (by omega)) (inR_iff.2 (by omega)), Int.add_emod_right]
  simpa using hm'
theorem half_h1 {b s : Int} (h : vN b s = true) (hs : s < 16) : holdsN b s b (s + 1) = true := by
  have := szN_pos s
  exact (holdsN_iff h (half_v1 h hs)).2 ⟨by omega, by omega, by omega⟩
theorem half_h2 {b s : Int} (h : vN b s = true) (hs : s < 16) : holdsN b s (b + szN s / 2) (s + 1) = true := by
  have r := vN_range h
  have e := szN_halve r.1.1 hs
  have hp := szN_pos (s + 1)
  exact (holdsN_iff h (half_v2 h hs)).2 ⟨by omega, by omega, by omega⟩
theorem half_n1 {b s : Int} (h : vN b s = true) (hs : s < 16) : holdsN b (s + 1) b s = false := by
  rw [← Bool.not_eq_true, holdsN_iff (half_v1 h hs) h]; omega
theorem half_n2 {b s : Int} (h : vN b s = true) (hs : s < 16) : holdsN (b + szN s / 2) (s + 1) b s = false := by
  rw [← Bool.not_eq_true, holdsN_iff (half_v2 h hs) h]; omega
theorem in_halves {b s a : Int} (h : vN b s = true) (hs : s < 16) :
    inN b s a = (inN b (s + 1) a || inN (b + szN s / 2) (s + 1) a) ∧ (inN b (s + 1) a && inN (b + szN s / 2) (s + 1) a) = false := by
  have r := vN_range h
  have e := szN_halve r.1.1 hs
  have e2 := half_eq r.1.1 hs
  have h1 := half_v1 h hs
  have h2 := half_v2 h hs
  constructor
  · rw [Bool.eq_iff_iff]
    simp only [Bool.or_eq_true, inN_iff, h, h1, h2, true_and]
    omega
  · rw [← Bool.not_eq_true]
    simp only [Bool.and_eq_true, inN_iff, h1, h2, true_and]
    omega
theorem half_apart {b s : Int} (h : vN b s = true) (hs : s < 16) : inN b (s + 1) (b + szN s / 2) = false ∧ inN b (s + 1) (b + szN s / 2 - 1) = true ∧ b < b + szN s / 2 := by
  have r := vN_range h
  have e := szN_halve r.1.1 hs
  have e2 := half_eq r.1.1 hs
  have hp := szN_pos (s + 1)
  refine ⟨?_, inN_iff.2 ⟨half_v1 h hs, by omega, by omega, by omega⟩, by omega⟩
  rw [← Bool.not_eq_true, inN_iff]; omega
end Go.Proofs.Ytmaecadflilbgaa
