/-
  Mappings: what is valid, plainly; '==' on ends.
-/
import Derived.Test.YtogoeehkpebhaaaMap1
import Derived.Test.YtogoeehkpebhaaaCon3
namespace Go.Proofs.Ytogoeehkpebhaaa
open Go.RowKit

abbrev Mp := Int × Int × Int × Int
def sameE (x y : Int) (q : Mp) : Bool := decide (q.1 = x ∧ q.2.1 = y)
def sameP (p : Int) (q : Mp) : Bool := decide (q.2.2.1 = p)
def goodM (L : List Mp) (i : Nat) : Bool :=
  vE (L.getD i (0, 0, 0, 0)).1 (L.getD i (0, 0, 0, 0)).2.1 && (inR (L.getD i (0, 0, 0, 0)).2.2.1 1000 1007 && (inR (L.getD i (0, 0, 0, 0)).2.2.2 0 10000 &&
    (!(L.take i).any (sameE (L.getD i (0, 0, 0, 0)).1 (L.getD i (0, 0, 0, 0)).2.1) && !(L.take i).any (sameP (L.getD i (0, 0, 0, 0)).2.2.1))))
def validM (L : List Mp) : Bool := (List.range L.length).all (goodM L) && decide (L.length ≤ 8)
theorem validM_no {L : List Mp} {i : Nat} (hi : i < L.length) (h : goodM L i = false) : validM L = false := by
  rw [← Bool.not_eq_true]
  intro ha
  simp only [validM, Bool.and_eq_true] at ha
  have := List.all_eq_true.1 ha.1 i (List.mem_range.2 hi)
  rw [h] at this; cases this
theorem validM_end {L : List Mp} (h : ∀ i, i < L.length → goodM L i = true) : validM L = decide (L.length ≤ 8) := by
  have : (List.range L.length).all (goodM L) = true := List.all_eq_true.2 fun i hi => h i (List.mem_range.1 hi)
  simp [validM, this]
section
variable {L : List Mp} {i : Nat} {x y p t : Int}
theorem goodM_no1 (hx : (x, y, p, t) = L.getD i (0, 0, 0, 0)) (h : vE x y = false) : goodM L i = false := by unfold goodM; rw [← hx]; simp [h]
theorem goodM_no2 (hx : (x, y, p, t) = L.getD i (0, 0, 0, 0)) (h : inR p 1000 1007 = false) : goodM L i = false := by unfold goodM; rw [← hx]; simp [h]
theorem goodM_no3 (hx : (x, y, p, t) = L.getD i (0, 0, 0, 0)) (h : inR t 0 10000 = false) : goodM L i = false := by unfold goodM; rw [← hx]; simp [h]
theorem goodM_no4 (hx : (x, y, p, t) = L.getD i (0, 0, 0, 0)) (h : (L.take i).any (sameE x y) = true) : goodM L i = false := by unfold goodM; rw [← hx]; simp only [h]; simp
theorem goodM_no5 (hx : (x, y, p, t) = L.getD i (0, 0, 0, 0)) (h : (L.take i).any (sameP p) = true) : goodM L i = false := by unfold goodM; rw [← hx]; simp only [h]; simp
theorem goodM_yes (hx : (x, y, p, t) = L.getD i (0, 0, 0, 0)) (h1 : vE x y = true) (h2 : inR p 1000 1007 = true) (h3 : inR t 0 10000 = true) (h4 : (L.take i).any (sameE x y) = false) (h5 : (L.take i).any (sameP p) = false) : goodM L i = true := by
  unfold goodM; rw [← hx]; simp only [h1, h2, h3, h4, h5]; rfl
theorem any_at {L : List Mp} {f : Mp → Bool} {k : Nat} (hk : k < L.length) (h : f (L.getD k (0, 0, 0, 0)) = true) : L.any f = true := by
  refine List.any_eq_true.2 ⟨L.getD k (0, 0, 0, 0), ?_, h⟩
  rw [List.getD_eq_getElem?_getD, List.getElem?_eq_getElem hk]; exact List.getElem_mem _
theorem any_none {L : List Mp} {f : Mp → Bool} (h : ∀ k, k < L.length → f (L.getD k (0, 0, 0, 0)) = false) : L.any f = false := by
  rw [← Bool.not_eq_true]
  intro ha
  obtain ⟨r, hr, he⟩ := List.any_eq_true.1 ha
  obtain ⟨k, hk, rfl⟩ := List.getElem_of_mem hr
  have := h k hk
  rw [List.getD_eq_getElem?_getD, List.getElem?_eq_getElem hk, Option.getD_some, he] at this
  cases this
/-- The place of the first one, or -1. Not reducible. -/
def idxF (L : List Mp) (f : Mp → Bool) : Int := if L.any f then (L.findIdx f : Int) else -1
theorem idxF_at {L : List Mp} {f : Mp → Bool} {k : Nat} (hk : k < L.length) (h : f (L.getD k (0, 0, 0, 0)) = true) (hno : ∀ j, j < k → f (L.getD j (0, 0, 0, 0)) = false) : idxF L f = k := by
  have e : ∀ j (hj : j < L.length), L.getD j (0, 0, 0, 0) = L[j] := fun j hj => by rw [List.getD_eq_getElem?_getD, List.getElem?_eq_getElem hj]; rfl
  unfold idxF
  rw [any_at hk h, if_pos rfl, (List.findIdx_eq hk).2 ⟨by rw [← e k hk]; exact h, fun j hj => by rw [← e j (by omega)]; exact hno j hj⟩]
theorem idxF_none {L : List Mp} {f : Mp → Bool} (h : ∀ k, k < L.length → f (L.getD k (0, 0, 0, 0)) = false) : idxF L f = -1 := by
  unfold idxF; rw [any_none h]; rfl
theorem idxF_neg {L : List Mp} {f : Mp → Bool} (h : L.any f = false) : idxF L f = -1 := by unfold idxF; rw [h]; rfl
theorem idxF_pos {L : List Mp} {f : Mp → Bool} (h : L.any f = true) : 0 ≤ idxF L f := by unfold idxF; rw [h]; simp
theorem getD_takeM {k : Nat} (h : i < k) : (L.take k).getD i (0, 0, 0, 0) = L.getD i (0, 0, 0, 0) := by
  simp [List.getD_eq_getElem?_getD, h]
/-- The first k of a row. -/
theorem MRow.take {w : World} {B : Nat} {A : Option Addr} (h : MRow w B A L) (k : Nat) : MRow w B A (L.take k) := fun h0 => by
  have hle : (L.take k).length * 4 ≤ L.length * 4 := Nat.mul_le_mul_right _ (by rw [List.length_take]; omega)
  rw [flat_len encM_len] at h0
  obtain ⟨b', o', e', hb', hi'⟩ := h (by rw [flat_len encM_len]; omega)
  refine ⟨b', o', e', hb', fun j hj => ?_⟩
  rw [flat_len encM_len] at hj
  rw [hi' j (by rw [flat_len encM_len]; omega)]
  have e : L.flatMap encM = (L.take k).flatMap encM ++ (L.drop k).flatMap encM := by rw [← List.flatMap_append, List.take_append_drop]
  rw [e, List.getElem?_append_left (by rw [flat_len encM_len]; exact hj)]
end
/-- '==' on two ends. -/
theorem run_eql_end (w : World) (x y x' y' : Int) : (binOp .eql 24 (.agg #[.int .i64 x, .int .i64 y]) (.agg #[.int .i64 x', .int .i64 y'])).run Try.prog w = .ok (.bool (decide (x = x' ∧ y = y'))) w := by
  have u3 := Try.underlying3
  have hS : Try.prog.underlying 24 = some (.struct (Try.prog.fieldsOf 24)) := by kernel_rfl
  have hp : Try.prog.stoodInHeld 24 = false := by kernel_rfl
  rw [run_eql_struct, show (10000 : Nat) = 9999 + 1 from rfl, run_equalIn_agg w 9999 24 _ _ hS hp]
  simp only [Program.fieldsOf, Try.underlying24]
  go_simp
  by_cases h1 : x = x' <;> by_cases h2 : y = y' <;> simp [h1, h2]
end Go.Proofs.Ytogoeehkpebhaaa
