/-
  What the program's and the reference's small functions on words return, for all arguments.
-/
import Derived.Test.YtabapkbfolncoaaMem
import Derived.Test.YtabapkbfolncoaaPlain
namespace Go.Proofs.Ytabapkbfolncoaa
open Go.RowKit

set_option maxHeartbeats 400000 in
theorem in_any (n lo hi : Int) (w : World) : Calls Try.prog 50 #[.int .i64 n, .int .i64 lo, .int .i64 hi] w fun e w' => e = .returned (.bool (inR n lo hi)) ∧ w = w' := by
  by_cases h : lo ≤ n ∧ n ≤ hi
  · obtain ⟨h1, h2⟩ := h
    rw [inR_yes ⟨h1, h2⟩]
    go_enter Try.func50, Try.ntmps50
    go_wp2
    go_ret
    exact ⟨rfl, rfl⟩
  · rw [inR_no h]
    by_cases h1 : lo ≤ n
    · have h2 : ¬ n ≤ hi := fun h2 => h ⟨h1, h2⟩
      clear h
      go_enter Try.func50, Try.ntmps50
      go_wp2
      go_ret
      exact ⟨rfl, rfl⟩
    · clear h
      go_enter Try.func50, Try.ntmps50
      go_wp2
      go_ret
      exact ⟨rfl, rfl⟩

set_option maxHeartbeats 400000 in
theorem inRange_any (n lo hi : Int) (w : World) : Calls Try.prog 59 #[.int .i64 n, .int .i64 lo, .int .i64 hi] w fun e w' => e = .returned (.bool (inR n lo hi)) ∧ w = w' := by
  by_cases h : lo ≤ n ∧ n ≤ hi
  · obtain ⟨h1, h2⟩ := h
    rw [inR_yes ⟨h1, h2⟩]
    go_enter Try.func59, Try.ntmps59
    go_wp2
    go_ret
    exact ⟨rfl, rfl⟩
  · rw [inR_no h]
    by_cases h1 : lo ≤ n
    · have h2 : ¬ n ≤ hi := fun h2 => h ⟨h1, h2⟩
      clear h
      go_enter Try.func59, Try.ntmps59
      go_wp2
      go_ret
      exact ⟨rfl, rfl⟩
    · clear h
      go_enter Try.func59, Try.ntmps59
      go_wp2
      go_ret
      exact ⟨rfl, rfl⟩

set_option maxHeartbeats 400000 in
theorem isWord_any (n : Int) (w : World) : Calls Try.prog 70 #[.int .i64 n] w fun e w' => e = .returned (.bool (inR n 0 65535)) ∧ w = w' := by
  go_enter Try.func70, Try.ntmps70
  go_wp2_with (go_at_call 50; refine (in_any _ _ _ _).mono ?_; rintro e w' ⟨rfl, rfl⟩)
  go_ret
  exact ⟨rfl, rfl⟩

set_option maxHeartbeats 400000 in
theorem areWords_any (a : Option Addr) (n c B : Nat) (xs : List Int) (w : World) (hn : xs.length = n) (hb : n ≤ 9223372036854775807) (hr : Row .i64 w B a xs) :
    Calls Try.prog 51 #[.slice a n c] w fun e w' => e = .returned (.bool (areW xs)) ∧ w = w' := by
  subst hn
  go_enter Try.func51, Try.ntmps51
  go_wp2
  go_loop [7] (fun i => ∃ k : Nat, k ≤ xs.length ∧ i = .int .i64 k ∧ areW (xs.take k) = true) (fun i => xs.length - (intOf i).toNat)
  case atStart => exact ⟨0, Nat.zero_le _, rfl, rfl⟩
  case round =>
    obtain ⟨k, hk, rfl, hall⟩ := hrel
    by_cases hlt : k < xs.length
    · obtain ⟨b, o, rfl, _, hc⟩ := hr (by omega)
      have hcell := hc k hlt
      clear hc
      have hsn := areW_take_snoc xs k hlt
      have hno := areW_no (xs := xs) k
      rw [hall, Bool.true_and] at hsn
      have HS := Lib.hid hsn
      have HN := Lib.hid hno
      clear hsn hno hall
      obtain ⟨x, hx⟩ : ∃ x, x = xs.getD k 0 := ⟨_, rfl⟩
      rw [← hx] at hcell
      have HX := Lib.hid hx
      clear hx
      by_cases hw : inR x 0 65535 = true
      · go_wp2_with (go_at_call 70; refine (isWord_any _ _).mono ?_; rintro e w' ⟨rfl, rfl⟩)
        go_round
        case rel => exact ⟨k + 1, by omega, by go_num, by rw [HS.out, ← HX.out]; exact hw⟩
        case measure => simp [intOf]; omega
      · have hw' : inR x 0 65535 = false := by simpa using hw
        clear hw
        go_wp2_with (go_at_call 70; refine (isWord_any _ _).mono ?_; rintro e w' ⟨rfl, rfl⟩)
        go_ret
        exact ⟨ret_bool (HN.out (by rw [← HX.out]; exact hw')).symm, rfl⟩
    · have he : areW xs = true := by rw [List.take_of_length_le (by omega)] at hall; exact hall
      have HE := Lib.hid he
      clear he hall
      go_wp2
      go_ret
      exact ⟨ret_bool HE.out.symm, rfl⟩

end Go.Proofs.Ytabapkbfolncoaa
