/-
  Contacts: valid, slices.Index, slices.Contains, ValidContacts, of the program and of the reference: what they return, for all lists.
-/
import Derived.Test.YtogoeehkpebhaaaCon1
import Derived.Test.YtogoeehkpebhaaaPkt1
import Derived.Laws.StructEq
import Derived.Deep.QuietTactic
namespace Go.Proofs.Ytogoeehkpebhaaa
open Go.RowKit

/-- A contact is valid. Not reducible. -/
def vC (p x y : Int) : Bool := inR p 1000 1007 && vE x y
theorem vC_no {p x y : Int} (h : inR p 1000 1007 = false) : vC p x y = false := by simp [vC, h]
theorem vC_yes {p x y : Int} (h : inR p 1000 1007 = true) : vC p x y = vE x y := by simp [vC, h]
/-- A contact in a list. -/
def anyC (L : List (Int × Int × Int)) (q : Int × Int × Int) : Bool := L.any fun r => decide (r = q)
def goodC (L : List (Int × Int × Int)) (i : Nat) : Bool := vC (L.getD i (0, 0, 0)).1 (L.getD i (0, 0, 0)).2.1 (L.getD i (0, 0, 0)).2.2 && !anyC (L.take i) (L.getD i (0, 0, 0))
def validC (L : List (Int × Int × Int)) : Bool := (List.range L.length).all (goodC L) && decide (L.length ≤ 10)
theorem validC_no {L : List (Int × Int × Int)} {i : Nat} (hi : i < L.length) (h : goodC L i = false) : validC L = false := by
  rw [← Bool.not_eq_true]
  intro ha
  simp only [validC, Bool.and_eq_true] at ha
  have := List.all_eq_true.1 ha.1 i (List.mem_range.2 hi)
  rw [h] at this; cases this
theorem validC_end {L : List (Int × Int × Int)} (h : ∀ i, i < L.length → goodC L i = true) : validC L = decide (L.length ≤ 10) := by
  have : (List.range L.length).all (goodC L) = true := List.all_eq_true.2 fun i hi => h i (List.mem_range.1 hi)
  simp [validC, this]
theorem goodC_no1 {L : List (Int × Int × Int)} {i : Nat} {p x y : Int} (hx : (p, x, y) = L.getD i (0, 0, 0)) (h : vC p x y = false) : goodC L i = false := by
  unfold goodC; rw [← hx]; simp [h]
theorem goodC_no2 {L : List (Int × Int × Int)} {i : Nat} {p x y : Int} (hx : (p, x, y) = L.getD i (0, 0, 0)) (h : anyC (L.take i) (p, x, y) = true) : goodC L i = false := by
  unfold goodC; rw [← hx]; simp [h]
theorem goodC_yes {L : List (Int × Int × Int)} {i : Nat} {p x y : Int} (hx : (p, x, y) = L.getD i (0, 0, 0)) (h : vC p x y = true) (h' : anyC (L.take i) (p, x, y) = false) : goodC L i = true := by
  unfold goodC; rw [← hx]; simp [h, h']
theorem anyC_at {L : List (Int × Int × Int)} {q : Int × Int × Int} {k : Nat} (hk : k < L.length) (h : L.getD k (0, 0, 0) = q) : anyC L q = true := by
  refine List.any_eq_true.2 ⟨L.getD k (0, 0, 0), ?_, decide_eq_true h⟩
  rw [List.getD_eq_getElem?_getD, List.getElem?_eq_getElem hk]; exact List.getElem_mem _
theorem anyC_none {L : List (Int × Int × Int)} {q : Int × Int × Int} (h : ∀ k, k < L.length → L.getD k (0, 0, 0) ≠ q) : anyC L q = false := by
  rw [← Bool.not_eq_true]
  intro ha
  obtain ⟨r, hr, he⟩ := List.any_eq_true.1 ha
  obtain ⟨k, hk, rfl⟩ := List.getElem_of_mem hr
  have := h k hk
  rw [List.getD_eq_getElem?_getD, List.getElem?_eq_getElem hk] at this
  exact this (by simpa using he)
theorem getD_takeC {L : List (Int × Int × Int)} {k i : Nat} (h : i < k) : (L.take k).getD i (0, 0, 0) = L.getD i (0, 0, 0) := by
  simp [List.getD_eq_getElem?_getD, h]

/-- '==' on two ends, inside a struct. -/
theorem run_equalIn_end (w : World) (x y x' y' : Int) : (Op.equalIn 9999 24 (.agg #[.int .i64 x, .int .i64 y]) (.agg #[.int .i64 x', .int .i64 y'])).run Try.prog w = .ok (decide (x = x' ∧ y = y')) w := by
  have u3 := Try.underlying3
  have hE : Try.prog.underlying 24 = some (.struct (Try.prog.fieldsOf 24)) := by kernel_rfl
  have hpE : Try.prog.stoodInHeld 24 = false := by kernel_rfl
  rw [show (9999 : Nat) = 9998 + 1 from rfl, run_equalIn_agg w 9998 24 _ _ hE hpE]
  simp only [Program.fieldsOf, Try.underlying24]
  go_simp
  by_cases h1 : x = x' <;> by_cases h2 : y = y' <;> simp [h1, h2]
/-- '==' on two contacts. -/
theorem run_eql_con (w : World) (p x y p' x' y' : Int) : (binOp .eql 64 (.agg #[.int .i64 p, .int .i64 x, .int .i64 y]) (.agg #[.int .i64 p', .int .i64 x', .int .i64 y'])).run Try.prog w = .ok (.bool (decide ((p, x, y) = (p', x', y')))) w := by
  have u3 := Try.underlying3
  have hS : Try.prog.underlying 64 = some (.struct (Try.prog.fieldsOf 64)) := by kernel_rfl
  have hp : Try.prog.stoodInHeld 64 = false := by kernel_rfl
  rw [run_eql_struct, show (10000 : Nat) = 9999 + 1 from rfl, run_equalIn_agg w 9999 64 _ _ hS hp]
  clear hS hp
  have hE := fun w => run_equalIn_end w x y x' y'
  simp only [Program.fieldsOf, Try.underlying64]
  go_simp
  by_cases h1 : p = p' <;> by_cases h2 : x = x' <;> by_cases h3 : y = y' <;> simp [h1, h2, h3]
end Go.Proofs.Ytogoeehkpebhaaa
