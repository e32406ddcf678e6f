/-
  BestNet, plain: no program in sight.
-/
import Derived.Test.YtmaecadflilbgaaPlainNet
namespace Go.Proofs.Ytmaecadflilbgaa

/-- Whether one more net is better than the best so far. -/
def betterN (L : List (Int × Int)) (a : Int) (k : Nat) (best : Int) : Bool :=
  hasN (L.getD k (0, 0)).1 (L.getD k (0, 0)).2 a && (decide (best < 0) || decide ((L.getD best.toNat (0, 0)).2 < (L.getD k (0, 0)).2))
/-- The best of the first nets. -/
def bestUp (L : List (Int × Int)) (a : Int) : Nat → Int
  | 0 => -1
  | k + 1 => if betterN L a k (bestUp L a k) then (k : Int) else bestUp L a k
def allV (L : List (Int × Int)) : Bool := L.all fun p => vN p.1 p.2
def bestN (L : List (Int × Int)) (a : Int) : Int := if decide (8 < L.length) || (!(inR a 0 65535) || !(allV L)) then -1 else bestUp L a L.length

theorem bestUp_range (L : List (Int × Int)) (a : Int) : ∀ k, -1 ≤ bestUp L a k ∧ bestUp L a k < (k : Int) ∧ (0 ≤ bestUp L a k → (bestUp L a k).toNat < k)
  | 0 => by simp [bestUp]
  | k + 1 => by
    have ih := bestUp_range L a k
    unfold bestUp
    split <;> omega
theorem bestUp_yes {L : List (Int × Int)} {a : Int} {k : Nat} (h : betterN L a k (bestUp L a k) = true) : bestUp L a (k + 1) = k := by
  rw [bestUp, if_pos h]
theorem bestUp_no {L : List (Int × Int)} {a : Int} {k : Nat} (h : betterN L a k (bestUp L a k) = false) : bestUp L a (k + 1) = bestUp L a k := by
  rw [bestUp, if_neg (by simp [h])]
theorem bestN_long {L : List (Int × Int)} {a : Int} (h : 8 < L.length) : bestN L a = -1 := by simp [bestN, h]
theorem bestN_word {L : List (Int × Int)} {a : Int} (h : inR a 0 65535 = false) : bestN L a = -1 := by simp [bestN, h]
theorem bestN_bad {L : List (Int × Int)} {a : Int} {k : Nat} (hk : k < L.length) (h : vN (L.getD k (0, 0)).1 (L.getD k (0, 0)).2 = false) : bestN L a = -1 := by
  have : allV L = false := by
    rw [← Bool.not_eq_true]
    intro ha
    have := List.all_eq_true.1 ha (L.getD k (0, 0)) (by rw [List.getD_eq_getElem?_getD, List.getElem?_eq_getElem hk]; exact List.getElem_mem _)
    rw [h] at this; cases this
  simp [bestN, this]
theorem allV_of {L : List (Int × Int)} (h : ∀ k, k < L.length → vN (L.getD k (0, 0)).1 (L.getD k (0, 0)).2 = true) : allV L = true := by
  refine List.all_eq_true.2 fun p hp => ?_
  obtain ⟨k, hk, rfl⟩ := List.getElem_of_mem hp
  have := h k hk
  rwa [List.getD_eq_getElem?_getD, List.getElem?_eq_getElem hk] at this
theorem bestN_end {L : List (Int × Int)} {a : Int} (hl : ¬ 8 < L.length) (ha : inR a 0 65535 = true) (h : ∀ k, k < L.length → vN (L.getD k (0, 0)).1 (L.getD k (0, 0)).2 = true) : bestN L a = bestUp L a L.length := by
  simp [bestN, hl, ha, allV_of h]
theorem better_A {L : List (Int × Int)} {a x y bv : Int} {k : Nat} (hx : (x, y) = L.getD k (0, 0)) (h : hasN x y a = false) : betterN L a k bv = false := by
  unfold betterN; rw [← hx]; simp [h]
theorem better_B {L : List (Int × Int)} {a x y bv : Int} {k : Nat} (hx : (x, y) = L.getD k (0, 0)) (h : hasN x y a = true) (hb : bv < 0) : betterN L a k bv = true := by
  unfold betterN; rw [← hx]; simp [h, hb]
theorem better_C {L : List (Int × Int)} {a x y x' y' : Int} {k j : Nat} (hx : (x, y) = L.getD k (0, 0)) (hy : (x', y') = L.getD j (0, 0)) (h : hasN x y a = true) (hb : y' < y) : betterN L a k (j : Int) = true := by
  unfold betterN; rw [← hx, Int.toNat_natCast, ← hy]; simp [h, hb]
theorem better_D {L : List (Int × Int)} {a x y x' y' : Int} {k j : Nat} (hx : (x, y) = L.getD k (0, 0)) (hy : (x', y') = L.getD j (0, 0)) (h : hasN x y a = true) (hb : ¬ y' < y) : betterN L a k (j : Int) = false := by
  unfold betterN; rw [← hx, Int.toNat_natCast, ← hy]; simp [h]; omega
end Go.Proofs.Ytmaecadflilbgaa
