/-
  Ends and packets: valid, validEnd, ValidPacket, of the program and of the reference: what they return, for all arguments.
-/
import Derived.Test.YtogoeehkpebhaaaSum1
import Derived.Test.YtogoeehkpebhaaaSums0
import Derived.Test.YtogoeehkpebhaaaBox
namespace Go.Proofs.Ytogoeehkpebhaaa
open Go.RowKit

/-- An end is valid. Not reducible. -/
def vE (x y : Int) : Bool := inR x 0 65535 && inR y 0 65535
theorem vE_areW (x y : Int) : areW [x, y] = vE x y := by simp [areW, allR, vE]
theorem vE_no1 {x y : Int} (h : inR x 0 65535 = false) : vE x y = false := by simp [vE, h]
theorem vE_yes {x y : Int} (h : inR x 0 65535 = true) : vE x y = inR y 0 65535 := by simp [vE, h]
/-- A packet is valid. -/
def vP (kd fa fp ta tp : Int) (xs : List Int) : Bool := inR kd 0 2 && (vE fa fp && (vE ta tp && (decide (xs.length ≤ 12) && areW xs)))

set_option maxHeartbeats 400000 in
theorem endValid_any (x y : Int) (w : World) : Calls Try.prog 26 #[.agg #[.int .i64 x, .int .i64 y]] w fun e w' => e = .returned (.bool (vE x y)) ∧ Below w.heap.size w w' := by
  have HB := Lib.hid (((Below.refl w.heap.size w).alloc (Nat.le_refl _) (.cells #[.int .i64 x, .int .i64 y] 24)).alloc (by simp) (.cells (([x, y] : List Int).map (Value.int .i64)).toArray 3))
  have hrow := lit_row_at (w.alloc (.cells #[.int .i64 x, .int .i64 y] 24)) 3 [x, y] (w.heap.size + 1) (by simp)
  go_enter Try.func26, Try.ntmps26
  go_wp2_with fail
  refine (areWords_any _ 2 2 (w.heap.size + 1 + 1) [x, y] _ rfl (by omega) hrow).mono ?_
  rintro e w' ⟨rfl, rfl⟩
  rw [vE_areW]
  go_wp2
  go_ret
  exact ⟨rfl, HB.out⟩

set_option maxHeartbeats 400000 in
theorem validAddr_any' (n : Int) (w : World) : Calls Try.prog 60 #[.int .i64 n] w fun e w' => e = .returned (.bool (inR n 0 65535)) ∧ w = w' := by
  go_enter Try.func60, Try.ntmps60
  go_wp2_with (go_at_call 51; refine (inRange_any _ _ _ _).mono ?_; rintro e w' ⟨rfl, rfl⟩)
  go_ret
  exact ⟨rfl, rfl⟩

set_option maxHeartbeats 400000 in
theorem validEnd_any (x y : Int) (w : World) : Calls Try.prog 52 #[.agg #[.int .i64 x, .int .i64 y]] w fun e w' => e = .returned (.bool (vE x y)) ∧ Below w.heap.size w w' := by
  have HB := Lib.hid ((Below.refl w.heap.size w).alloc (Nat.le_refl _) (.cells #[.int .i64 x, .int .i64 y] 24))
  cases h : inR x 0 65535
  · have HV := Lib.hid (vE_no1 (y := y) h)
    go_enter Try.func52, Try.ntmps52
    go_wp2_with fail
    refine (validAddr_any' x _).mono ?_
    rintro e w' ⟨rfl, rfl⟩
    rw [h]
    clear h
    go_wp2
    go_ret
    exact ⟨ret_bool HV.out.symm, HB.out⟩
  · have HV := Lib.hid (vE_yes (y := y) h)
    go_enter Try.func52, Try.ntmps52
    go_wp2_with fail
    refine (validAddr_any' x _).mono ?_
    rintro e w' ⟨rfl, rfl⟩
    rw [h]
    clear h
    go_wp2_with fail
    refine (inRange_any y 0 65535 _).mono ?_
    rintro e w' ⟨rfl, rfl⟩
    go_wp2
    go_ret
    exact ⟨ret_bool HV.out.symm, HB.out⟩
end Go.Proofs.Ytogoeehkpebhaaa
