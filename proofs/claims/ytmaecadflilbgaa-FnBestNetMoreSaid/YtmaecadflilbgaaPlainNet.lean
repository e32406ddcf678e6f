/-
  Nets: plain arithmetic, no program in sight.
-/
import Derived.Test.YtmaecadflilbgaaPlain
namespace Go.Proofs.Ytmaecadflilbgaa

/-- Powers of two. Not reducible. -/
def p2 (k : Nat) : Int := ((2 ^ k : Nat) : Int)
theorem p2_zero : p2 0 = 1 := rfl
theorem p2_succ (k : Nat) : p2 (k + 1) = 2 * p2 k := by unfold p2; rw [Nat.pow_succ]; omega
theorem p2_pos (k : Nat) : 1 ≤ p2 k := by
  induction k with
  | zero => simp [p2]
  | succ k ih => rw [p2_succ]; omega
theorem p2_add (i j : Nat) : p2 (i + j) = p2 i * p2 j := by unfold p2; rw [Nat.pow_add, Int.natCast_mul]
theorem p2_le {i j : Nat} (h : i ≤ j) : p2 i ≤ p2 j := by unfold p2; have := Nat.pow_le_pow_right (n := 2) (by omega) h; omega
theorem p2_16 {k : Nat} (h : k ≤ 16) : p2 k ≤ 65536 := p2_le h
/-- How many addresses a net has. -/
def szN (s : Int) : Int := p2 (16 - s).toNat
theorem szN_pos (s : Int) : 1 ≤ szN s := p2_pos _
theorem szN_le {s : Int} (h : 0 ≤ s) : szN s ≤ 65536 := p2_16 (by omega)
def vN (b s : Int) : Bool := inR s 0 16 && (inR b 0 65535 && b % szN s == 0)
def hasN (b s a : Int) : Bool := inR a b (b + szN s - 1)
def inN (b s a : Int) : Bool := vN b s && (inR a 0 65535 && hasN b s a)
def holdsN (b s b' s' : Int) : Bool := vN b s && (vN b' s' && (hasN b s b' && hasN b s (b' + szN s' - 1)))

theorem vN_bits {b s : Int} (h : vN b s = true) : inR s 0 16 = true := by simp [vN] at h; exact h.1
theorem vN_word {b s : Int} (h : vN b s = true) : inR b 0 65535 = true := by simp [vN] at h; exact h.2.1
theorem vN_mod {b s : Int} (h : vN b s = true) : b % szN s = 0 := by simp [vN] at h; exact h.2.2
theorem vN_no1 {b s : Int} (h : inR s 0 16 = false) : vN b s = false := by simp [vN, h]
theorem vN_no2 {b s : Int} (h : inR b 0 65535 = false) : vN b s = false := by simp [vN, h]
theorem vN_eq {b s : Int} (h : inR s 0 16 = true) (h' : inR b 0 65535 = true) : vN b s = (b % szN s == 0) := by simp [vN, h, h']
theorem vN_fit {b s : Int} (h : vN b s = true) : b + szN s ≤ 65536 := by
  have hb := inR_iff.1 (vN_word h)
  have hs := inR_iff.1 (vN_bits h)
  have hm := vN_mod h
  have hp := szN_pos s
  have hk : szN s * p2 s.toNat = 65536 := by
    unfold szN; rw [← p2_add]
    have : (16 - s).toNat + s.toNat = 16 := by omega
    rw [this]; rfl
  obtain ⟨q, hq⟩ : ∃ q, b = szN s * q := ⟨b / szN s, by have := Int.mul_ediv_add_emod b (szN s); omega⟩
  have h1 : szN s * q < szN s * p2 s.toNat := by omega
  have h2 : q < p2 s.toNat := Int.lt_of_mul_lt_mul_left h1 (by omega)
  have h3 : szN s * (q + 1) ≤ szN s * p2 s.toNat := Int.mul_le_mul_of_nonneg_left (by omega) (by omega)
  rw [Int.mul_add, Int.mul_one] at h3
  omega

/-- Which of two sizes of nets is a multiple of which. -/
theorem szN_dvd {s s' : Int} (h0 : 0 ≤ s) (h : s ≤ s') (h1 : s' ≤ 16) : ∃ q, szN s = szN s' * q ∧ 1 ≤ q := by
  refine ⟨p2 (s' - s).toNat, ?_, p2_pos _⟩
  unfold szN; rw [← p2_add]; congr 1; omega
theorem szN_lt {s s' : Int} (h0 : 0 ≤ s') (h : s' < s) (h1 : s ≤ 16) : 2 * szN s ≤ szN s' := by
  obtain ⟨q, hq, _⟩ := szN_dvd (s := s') (s' := s - 1) (by omega) (by omega) (by omega)
  have : szN (s - 1) = 2 * szN s := by
    unfold szN; rw [← p2_succ]; congr 1; omega
  rw [hq, this]
  have hp := szN_pos s
  have : (2 * szN s) * 1 ≤ (2 * szN s) * q := Int.mul_le_mul_of_nonneg_left (by omega) (by omega)
  omega
/-- A multiple below another multiple lies a whole step below it. -/
theorem mul_step {t x y : Int} (ht : 1 ≤ t) (hx : x % t = 0) (hy : y % t = 0) (h : x < y) : x + t ≤ y := by
  have ex := Int.mul_ediv_add_emod x t
  have ey := Int.mul_ediv_add_emod y t
  have h1 : t * (x / t) < t * (y / t) := by omega
  have h2 : x / t < y / t := Int.lt_of_mul_lt_mul_left h1 (by omega)
  have h3 : t * (x / t + 1) ≤ t * (y / t) := Int.mul_le_mul_of_nonneg_left (by omega) (by omega)
  rw [Int.mul_add, Int.mul_one] at h3
  omega
theorem mod_of_dvd {x t q : Int} (h : x % (t * q) = 0) : x % t = 0 := by
  have := Int.mul_ediv_add_emod x (t * q)
  rw [h, Int.add_zero, Int.mul_assoc] at this
  rw [← this]; exact Int.mul_emod_right _ _

/-- Held nets: by the bits and the first address. -/
theorem holds_bits {b s b' s' : Int} (h : vN b s = true) (h' : vN b' s' = true) : (hasN b s b' && hasN b s (b' + szN s' - 1)) = (decide (s ≤ s') && hasN b s b') := by
  have hs := inR_iff.1 (vN_bits h)
  have hs' := inR_iff.1 (vN_bits h')
  have hp := szN_pos s
  have hp' := szN_pos s'
  rw [Bool.eq_iff_iff]
  simp only [hasN, Bool.and_eq_true, inR_iff, decide_eq_true_eq]
  constructor
  · rintro ⟨h1, h2⟩
    refine ⟨?_, h1⟩
    rcases Int.lt_or_le s' s with hlt | hle
    · have := szN_lt (by omega) hlt hs.2; omega
    · exact hle
  · rintro ⟨hle, h1⟩
    refine ⟨h1, by omega, ?_⟩
    obtain ⟨q, hq, hq1⟩ := szN_dvd hs.1 hle hs'.2
    have hb : (b + szN s) % szN s' = 0 := by
      have hm := vN_mod h
      rw [hq] at hm
      have := mod_of_dvd hm
      rw [hq, Int.add_mul_emod_self_left]; exact this
    have := mul_step hp' (vN_mod h') hb (by omega)
    omega

end Go.Proofs.Ytmaecadflilbgaa
