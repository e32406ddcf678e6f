/-
  The statements' helpers on ends: toEnd, eqEnd; szIntS.
-/
import Derived.Test.YtabapkbfolncoaaBox
namespace Go.Proofs.Ytabapkbfolncoaa
open Go.RowKit



theorem szIntS_any (a : Option Addr) (n c : Nat) (l : Int) (w : World) (hn : n ≤ 9223372036854775807) (h0 : 0 ≤ l) (h1 : l ≤ 1048576) :
    Calls Try.prog 63 #[.slice a n c, .int .i64 l] w fun e w' => e = .returned (.int .i64 (if (n : Int) ≤ l then l - (n : Int) else -1)) ∧ w = w' := by
  by_cases h : (n : Int) ≤ l
  · rw [if_pos h]
    have h2 : ¬ (l - (n : Int) < 0) := by omega
    go_enter Try.func63, Try.ntmps63
    go_wp2
    go_ret
    exact ⟨rfl, rfl⟩
  · rw [if_neg h]
    have h2 : (l - (n : Int) < 0) := by omega
    go_enter Try.func63, Try.ntmps63
    go_wp2
    go_ret
    exact ⟨rfl, rfl⟩
end Go.Proofs.Ytabapkbfolncoaa
