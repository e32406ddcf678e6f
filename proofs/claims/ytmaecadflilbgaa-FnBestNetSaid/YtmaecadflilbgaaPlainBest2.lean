/-
  BestNet's laws, plain: no program in sight.
-/
import Derived.Test.YtmaecadflilbgaaPlainBest
import Derived.Test.YtmaecadflilbgaaPlainNet3
namespace Go.Proofs.Ytmaecadflilbgaa

theorem bestN_range (L : List (Int × Int)) (a : Int) : -1 ≤ bestN L a ∧ bestN L a < (L.length : Int) := by
  unfold bestN
  split
  · omega
  · have := bestUp_range L a L.length; omega
theorem bestN_open {L : List (Int × Int)} {a : Int} (h : 0 ≤ bestN L a) : L.length ≤ 8 ∧ inR a 0 65535 = true ∧ allV L = true ∧ bestN L a = bestUp L a L.length := by
  unfold bestN at h ⊢
  split at h
  · omega
  · rename_i hc
    simp only [Bool.or_eq_true, decide_eq_true_eq, Bool.not_eq_true', not_or, Bool.not_eq_false] at hc
    refine ⟨by omega, hc.2.1, hc.2.2, ?_⟩
    rw [if_neg (by simp [hc.1, hc.2.1, hc.2.2])]
theorem allV_get {L : List (Int × Int)} (h : allV L = true) {i : Nat} (hi : i < L.length) : vN (L.getD i (0, 0)).1 (L.getD i (0, 0)).2 = true := by
  have := List.all_eq_true.1 h (L.getD i (0, 0)) (by rw [List.getD_eq_getElem?_getD, List.getElem?_eq_getElem hi]; exact List.getElem_mem _)
  exact this

def hasI (L : List (Int × Int)) (a : Int) (i : Nat) : Bool := hasN (L.getD i (0, 0)).1 (L.getD i (0, 0)).2 a
def bitI (L : List (Int × Int)) (i : Nat) : Int := (L.getD i (0, 0)).2
theorem better_iff {L : List (Int × Int)} {a : Int} {k : Nat} {best : Int} : betterN L a k best = true ↔ hasI L a k = true ∧ (best < 0 ∨ bitI L best.toNat < bitI L k) := by
  unfold betterN hasI bitI; simp
theorem bestUp_inv (L : List (Int × Int)) (a : Int) : ∀ k, (bestUp L a k < 0 → ∀ i, i < k → hasI L a i = false) ∧
    (0 ≤ bestUp L a k → hasI L a (bestUp L a k).toNat = true ∧ ∀ i, i < k → hasI L a i = true → bitI L i ≤ bitI L (bestUp L a k).toNat ∧ (bitI L i = bitI L (bestUp L a k).toNat → (bestUp L a k).toNat ≤ i))
  | 0 => ⟨fun _ i hi => absurd hi (by omega), fun h => by simp [bestUp] at h⟩
  | k + 1 => by
    have ih := bestUp_inv L a k
    have hr := bestUp_range L a k
    cases hb : betterN L a k (bestUp L a k)
    · rw [bestUp_no hb]
      have hn : ¬ (hasI L a k = true ∧ (bestUp L a k < 0 ∨ bitI L (bestUp L a k).toNat < bitI L k)) := fun h => by rw [better_iff.2 h] at hb; cases hb
      refine ⟨fun h i hi => ?_, fun h => ⟨(ih.2 h).1, fun i hi hh => ?_⟩⟩
      · rcases Nat.lt_or_eq_of_le (Nat.lt_succ_iff.1 hi) with hlt | rfl
        · exact ih.1 h i hlt
        · cases hk : hasI L a i
          · rfl
          · exact absurd ⟨hk, .inl h⟩ hn
      · rcases Nat.lt_or_eq_of_le (Nat.lt_succ_iff.1 hi) with hlt | rfl
        · exact (ih.2 h).2 i hlt hh
        · have h3 : ¬ bitI L (bestUp L a i).toNat < bitI L i := fun h' => hn ⟨hh, .inr h'⟩
          have h4 := hr.2.2 h
          exact ⟨by omega, fun _ => by omega⟩
    · rw [bestUp_yes hb]
      have hy := better_iff.1 hb
      refine ⟨fun h => absurd h (by omega), fun _ => ?_⟩
      simp only [Int.toNat_natCast]
      refine ⟨hy.1, fun i hi hh => ?_⟩
      rcases Nat.lt_or_eq_of_le (Nat.lt_succ_iff.1 hi) with hlt | rfl
      · rcases hy.2 with h0 | h0
        · rw [ih.1 h0 i hlt] at hh; cases hh
        · by_cases hs : bestUp L a k < 0
          · rw [ih.1 hs i hlt] at hh; cases hh
          · have := (ih.2 (by omega)).2 i hlt hh
            exact ⟨by omega, fun e => by omega⟩
      · exact ⟨by omega, fun _ => Nat.le_refl _⟩

theorem inI {L : List (Int × Int)} {a : Int} (ha : inR a 0 65535 = true) (hv : allV L = true) {i : Nat} (hi : i < L.length) : inN (L.getD i (0, 0)).1 (L.getD i (0, 0)).2 a = hasI L a i := by
  unfold inN hasI; rw [allV_get hv hi, ha]; rfl
/-- The best net has the address, and of those that have it the greatest bits, and is the first such. -/
theorem best_spec {L : List (Int × Int)} {a : Int} {m : Nat} (h : bestN L a = (m : Int)) : m < L.length ∧ inN (L.getD m (0, 0)).1 (L.getD m (0, 0)).2 a = true ∧
    ∀ i, i < L.length → inN (L.getD i (0, 0)).1 (L.getD i (0, 0)).2 a = true → (L.getD i (0, 0)).2 ≤ (L.getD m (0, 0)).2 ∧ ((L.getD i (0, 0)).2 = (L.getD m (0, 0)).2 → m ≤ i) := by
  have ho := bestN_open (L := L) (a := a) (by omega)
  have hr := bestN_range L a
  have hi := bestUp_inv L a L.length
  rw [← ho.2.2.2, h] at hi
  have hi := hi.2 (by omega)
  simp only [Int.toNat_natCast] at hi
  have hm : m < L.length := by omega
  refine ⟨hm, by rw [inI ho.2.1 ho.2.2.1 hm]; exact hi.1, fun i hil hin => ?_⟩
  rw [inI ho.2.1 ho.2.2.1 hil] at hin
  exact hi.2 i hil hin

theorem getD_take {L : List (Int × Int)} {k i : Nat} (h : i < k) : (L.take k).getD i (0, 0) = L.getD i (0, 0) := by
  simp [List.getD_eq_getElem?_getD, h]
theorem bestUp_take (L : List (Int × Int)) (a : Int) (n : Nat) : ∀ k, k ≤ n → bestUp (L.take n) a k = bestUp L a k
  | 0, _ => rfl
  | k + 1, h => by
    have ih := bestUp_take L a n k (by omega)
    have hr := bestUp_range L a k
    have hb : betterN (L.take n) a k (bestUp (L.take n) a k) = betterN L a k (bestUp L a k) := by
      rw [ih, Bool.eq_iff_iff, better_iff, better_iff]
      have e1 : hasI (L.take n) a k = hasI L a k := by unfold hasI; rw [getD_take (by omega)]
      have e2 : bitI (L.take n) k = bitI L k := by unfold bitI; rw [getD_take (by omega)]
      rw [e1, e2]
      by_cases hs : bestUp L a k < 0
      · simp [hs]
      · have e3 : bitI (L.take n) (bestUp L a k).toNat = bitI L (bestUp L a k).toNat := by unfold bitI; rw [getD_take (by have := hr.2.2 (by omega); omega)]
        rw [e3]
    rw [bestUp, bestUp, hb, ih]
/-- Without the last net. -/
theorem best_more {L : List (Int × Int)} {a : Int} {m : Nat} (h : bestN L a = (m : Int)) :
    (bestN (L.take (L.length - 1)) a < 0 ∧ m + 1 = L.length) ∨ ∃ j : Nat, bestN (L.take (L.length - 1)) a = (j : Int) ∧ j < L.length ∧ (L.getD j (0, 0)).2 ≤ (L.getD m (0, 0)).2 := by
  have ho := bestN_open (L := L) (a := a) (by omega)
  have hr := bestN_range L a
  have hpos : 0 < L.length := by omega
  have hl : (L.take (L.length - 1)).length = L.length - 1 := by simp
  have hv : allV (L.take (L.length - 1)) = true := List.all_eq_true.2 fun p hp => List.all_eq_true.1 ho.2.2.1 p (List.mem_of_mem_take hp)
  have e1 : bestN (L.take (L.length - 1)) a = bestUp L a (L.length - 1) := by
    unfold bestN
    rw [if_neg (by simp only [hl, hv, ho.2.1, Bool.not_true, Bool.or_false, decide_eq_true_eq]; omega), hl, bestUp_take L a _ _ (Nat.le_refl _)]
  have e2 : bestUp L a L.length = if betterN L a (L.length - 1) (bestUp L a (L.length - 1)) then ((L.length - 1 : Nat) : Int) else bestUp L a (L.length - 1) := by
    have : L.length = (L.length - 1) + 1 := by omega
    conv => lhs; rw [this]
    rfl
  have h2 := ho.2.2.2
  rw [h, e2] at h2
  have hru := bestUp_range L a (L.length - 1)
  rw [e1]
  by_cases hs : bestUp L a (L.length - 1) < 0
  · left
    refine ⟨hs, ?_⟩
    split at h2 <;> omega
  · right
    obtain ⟨j, hj⟩ := Int.eq_ofNat_of_zero_le (show 0 ≤ bestUp L a (L.length - 1) by omega)
    refine ⟨j, hj, by omega, ?_⟩
    split at h2
    · rename_i hb
      have hy := better_iff.1 hb
      rw [hj] at hy
      simp only [Int.toNat_natCast] at hy
      have hm : m = L.length - 1 := by omega
      subst hm
      rcases hy.2 with h0 | h0
      · omega
      · exact Int.le_of_lt h0
    · have : m = j := by omega
      subst this
      exact Int.le_refl _
/-- One net alone. -/
theorem best_one {L : List (Int × Int)} {a x y : Int} {m i : Nat} (h : bestN L a = (m : Int)) (hi : i < L.length) (hx : (x, y) = L.getD i (0, 0)) : bestN [(x, y)] a = if inN x y a = true then 0 else -1 := by
  have ho := bestN_open (L := L) (a := a) (by omega)
  have hv := allV_get ho.2.2.1 hi
  rw [← hx] at hv
  have e : inN x y a = hasN x y a := by simp [inN, hv, ho.2.1]
  have hs : bestN [(x, y)] a = bestUp [(x, y)] a 1 := by
    unfold bestN
    rw [if_neg (by simp [allV, hv, ho.2.1])]
    rfl
  rw [hs, e]
  simp [bestUp, betterN]
end Go.Proofs.Ytmaecadflilbgaa
