/-
  allIn, of the reference: what it returns, for all lists.
-/
import Derived.Test.YtabapkbfolncoaaSum1
namespace Go.Proofs.Ytabapkbfolncoaa
open Go.RowKit

set_option maxHeartbeats 400000 in
theorem allIn_any (a : Option Addr) (n c B : Nat) (xs : List Int) (lo hi : Int) (w : World) (hn : xs.length = n) (hb : n ≤ 9223372036854775807) (hr : Row .i64 w B a xs) :
    Calls Try.prog 60 #[.slice a n c, .int .i64 lo, .int .i64 hi] w fun e w' => e = .returned (.bool (allR xs lo hi)) ∧ w = w' := by
  subst hn
  go_enter Try.func60, Try.ntmps60
  go_wp2
  go_loop [7] (fun i => ∃ k : Nat, k ≤ xs.length ∧ i = .int .i64 k ∧ allR (xs.take k) lo hi = true) (fun i => xs.length - (intOf i).toNat)
  case atStart => exact ⟨0, Nat.zero_le _, rfl, rfl⟩
  case round =>
    obtain ⟨k, hk, rfl, hall⟩ := hrel
    by_cases hlt : k < xs.length
    · obtain ⟨b, o, rfl, _, hc⟩ := hr (by omega)
      have hcell := hc k hlt
      clear hc
      have hsn := allR_take_snoc xs lo hi k hlt
      have hno := allR_no (xs := xs) (lo := lo) (hi := hi) k hlt
      rw [hall, Bool.true_and] at hsn
      have HS := Lib.hid hsn
      have HN := Lib.hid hno
      clear hsn hno hall
      obtain ⟨x, hx⟩ : ∃ x, x = xs.getD k 0 := ⟨_, rfl⟩
      rw [← hx] at hcell
      have HX := Lib.hid hx
      clear hx
      by_cases hw : inR x lo hi = true
      · go_wp2_with (go_at_call 59; refine (inRange_any _ _ _ _).mono ?_; rintro e w' ⟨rfl, rfl⟩)
        go_round
        case rel => exact ⟨k + 1, by omega, by go_num, by rw [HS.out, ← HX.out]; exact hw⟩
        case measure => simp [intOf]; omega
      · have hw' : inR x lo hi = false := by simpa using hw
        clear hw
        go_wp2_with (go_at_call 59; refine (inRange_any _ _ _ _).mono ?_; rintro e w' ⟨rfl, rfl⟩)
        go_ret
        exact ⟨ret_bool (HN.out (by rw [← HX.out]; exact hw')).symm, rfl⟩
    · have he : allR xs lo hi = true := by rw [List.take_of_length_le (by omega)] at hall; exact hall
      have HE := Lib.hid he
      clear he hall
      go_wp2
      go_ret
      exact ⟨ret_bool HE.out.symm, rfl⟩

theorem allR_areW' (xs : List Int) : allR xs 0 65535 = areW xs := rfl
end Go.Proofs.Ytabapkbfolncoaa
