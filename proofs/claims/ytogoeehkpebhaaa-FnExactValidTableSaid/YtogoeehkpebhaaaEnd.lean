/-
  The statements' helpers on ends: toEnd, eqEnd; szIntS.
-/
import Derived.Test.YtogoeehkpebhaaaBox
namespace Go.Proofs.Ytogoeehkpebhaaa
open Go.RowKit

set_option maxHeartbeats 800000 in
theorem toEnd_any (x y : Int) (w : World) : Calls Try.prog 30 #[.agg #[.int .i64 x, .int .i64 y]] w fun e w' => e = .returned (.agg #[.int .i64 x, .int .i64 y]) ∧ Below w.heap.size w w' := by
  have HB := Lib.hid ((((Below.refl w.heap.size w).alloc (Nat.le_refl _) (.cells #[.int .i64 x, .int .i64 y] 31)).alloc (by simp) (.cells #[.int .i64 x, .int .i64 y] 24)).alloc (by simp; omega) (.cells #[.int .i64 x, .int .i64 y] 24))
  have k := ((Box.new_at (w.alloc (.cells #[.int .i64 x, .int .i64 y] 31)) (w.heap.size + 1) (by simp) 24 #[.int .i64 x, .int .i64 y] (by simp [maxLen])).alloc (.cells #[.int .i64 x, .int .i64 y] 24))
  have HK := Lib.hid k
  clear k
  go_enter Try.func30, Try.ntmps30
  go_wp2
  refine bodyPost_ret (v := .agg #[.int .i64 x, .int .i64 y]) (results_cells (g := w.heap.size + 1) rfl _ _ [.int .i64 x, .int .i64 y] _ rfl (fun j v hv => HK.out.at_ j hv) Try.underlying24 rfl (by kernel_rfl)) rfl ⟨rfl, HB.out⟩

theorem eqEnd_same (x y : Int) (w : World) : Calls Try.prog 32 #[.agg #[.int .i64 x, .int .i64 y], .agg #[.int .i64 x, .int .i64 y]] w fun e w' => e = .returned (.bool true) ∧ Below w.heap.size w w' := by
  have HB := Lib.hid (((Below.refl w.heap.size w).alloc (Nat.le_refl _) (.cells #[.int .i64 x, .int .i64 y] 24)).alloc (by simp) (.cells #[.int .i64 x, .int .i64 y] 24))
  go_enter Try.func32, Try.ntmps32
  go_wp2
  go_ret
  exact ⟨rfl, HB.out⟩

theorem szIntS_any (a : Option Addr) (n c : Nat) (l : Int) (w : World) (hn : n ≤ 9223372036854775807) (h0 : 0 ≤ l) (h1 : l ≤ 1048576) :
    Calls Try.prog 29 #[.slice a n c, .int .i64 l] w fun e w' => e = .returned (.int .i64 (if (n : Int) ≤ l then l - (n : Int) else -1)) ∧ w = w' := by
  by_cases h : (n : Int) ≤ l
  · rw [if_pos h]
    have h2 : ¬ (l - (n : Int) < 0) := by omega
    go_enter Try.func29, Try.ntmps29
    go_wp2
    go_ret
    exact ⟨rfl, rfl⟩
  · rw [if_neg h]
    have h2 : (l - (n : Int) < 0) := by omega
    go_enter Try.func29, Try.ntmps29
    go_wp2
    go_ret
    exact ⟨rfl, rfl⟩
end Go.Proofs.Ytogoeehkpebhaaa
