/-
  AddWords and UpdateCheck, of the program and of the reference: what they return, for all arguments.
-/
import Derived.Test.YtbanibjafmimfaaSum1
namespace Go.Proofs.Ytbanibjafmimfaa
open Go.RowKit

set_option maxHeartbeats 400000 in
theorem add_word (a b : Int) (w : World) (ha : 0 ≤ a) (ha' : a ≤ 65535) (hb : 0 ≤ b) (hb' : b ≤ 65535) : Calls Try.prog 30 #[.int .i64 a, .int .i64 b] w fun e w' => e = .returned (.int .i64 (addW a b)) ∧ w = w' := by
  by_cases h : a + b ≤ 65535
  · rw [addW_lo h]
    go_enter Try.func30, Try.ntmps30
    go_wp2
    go_ret
    exact ⟨rfl, rfl⟩
  · rw [addW_hi (by omega)]
    go_enter Try.func30, Try.ntmps30
    go_wp2
    go_ret
    exact ⟨rfl, rfl⟩

set_option maxHeartbeats 400000 in
theorem addWord_word (a b : Int) (w : World) (ha : 0 ≤ a) (ha' : a ≤ 65535) (hb : 0 ≤ b) (hb' : b ≤ 65535) : Calls Try.prog 28 #[.int .i64 a, .int .i64 b] w fun e w' => e = .returned (.int .i64 (addW a b)) ∧ w = w' := by
  by_cases h : a + b ≤ 65535
  · rw [addW_lo h]
    go_enter Try.func28, Try.ntmps28
    go_wp2
    go_ret
    exact ⟨rfl, rfl⟩
  · rw [addW_hi (by omega)]
    go_enter Try.func28, Try.ntmps28
    go_wp2
    go_ret
    exact ⟨rfl, rfl⟩

set_option maxHeartbeats 400000 in
theorem total_any (a : Option Addr) (n c B : Nat) (xs : List Int) (w : World) (hn : xs.length = n) (hb : n ≤ 9223372036854775807) (hr : Row .i64 w B a xs) (hw : areW xs = true) :
    Calls Try.prog 22 #[.slice a n c] w fun e w' => e = .returned (.int .i64 (sumL xs)) ∧ w = w' := by
  subst hn
  have HW := Lib.hid hw
  clear hw
  go_enter Try.func22, Try.ntmps22
  go_wp2
  go_loop [3, 8] (fun s i => ∃ k : Nat, k ≤ xs.length ∧ i = .int .i64 k ∧ s = .int .i64 (sumL (xs.take k))) (fun _ i => xs.length - (intOf i).toNat)
  case atStart => exact ⟨0, Nat.zero_le _, rfl, rfl⟩
  case round =>
    obtain ⟨k, hk, rfl, rfl⟩ := hrel
    by_cases hlt : k < xs.length
    · obtain ⟨b, o, rfl, _, hc⟩ := hr (by omega)
      have hcell := hc k hlt
      clear hc
      have hs := sumL_word (areW_take HW.out k)
      have hx := areW_get HW.out k
      have HS := Lib.hid (sumL_take_snoc xs k hlt)
      obtain ⟨s, es⟩ : ∃ s, s = sumL (xs.take k) := ⟨_, rfl⟩
      obtain ⟨x, ex⟩ : ∃ x, x = xs.getD k 0 := ⟨_, rfl⟩
      rw [← es] at hs HS ⊢
      rw [← ex] at hx hcell HS
      clear es ex
      obtain ⟨hs0, hs1⟩ := hs
      obtain ⟨hx0, hx1⟩ := hx
      go_wp2_with (go_at_call 30; refine (add_word _ _ _ (by assumption) (by assumption) (by assumption) (by assumption)).mono ?_; rintro e w' ⟨rfl, rfl⟩)
      go_round
      case rel => exact ⟨k + 1, by omega, by go_num, by rw [HS.out]⟩
      case measure => simp [intOf]; omega
    · have HE := Lib.hid (List.take_of_length_le (l := xs) (i := k) (by omega))
      go_wp2
      go_ret
      exact ⟨ret_int (by rw [HE.out]), rfl⟩



end Go.Proofs.Ytbanibjafmimfaa
