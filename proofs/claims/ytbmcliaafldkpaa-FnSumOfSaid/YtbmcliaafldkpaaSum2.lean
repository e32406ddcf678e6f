/-
  AddWords and UpdateCheck, of the program and of the reference: what they return, for all arguments.
-/
import Derived.Test.YtbmcliaafldkpaaSum1
namespace Go.Proofs.Ytbmcliaafldkpaa
open Go.RowKit

set_option maxHeartbeats 400000 in
theorem add_word (a b : Int) (w : World) (ha : 0 ≤ a) (ha' : a ≤ 65535) (hb : 0 ≤ b) (hb' : b ≤ 65535) : Calls Try.prog 25 #[.int .i64 a, .int .i64 b] w fun e w' => e = .returned (.int .i64 (addW a b)) ∧ w = w' := by
  by_cases h : a + b ≤ 65535
  · rw [addW_lo h]
    go_enter Try.func25, Try.ntmps25
    go_wp2
    go_ret
    exact ⟨rfl, rfl⟩
  · rw [addW_hi (by omega)]
    go_enter Try.func25, Try.ntmps25
    go_wp2
    go_ret
    exact ⟨rfl, rfl⟩

set_option maxHeartbeats 400000 in
theorem addWord_word (a b : Int) (w : World) (ha : 0 ≤ a) (ha' : a ≤ 65535) (hb : 0 ≤ b) (hb' : b ≤ 65535) : Calls Try.prog 27 #[.int .i64 a, .int .i64 b] w fun e w' => e = .returned (.int .i64 (addW a b)) ∧ w = w' := by
  by_cases h : a + b ≤ 65535
  · rw [addW_lo h]
    go_enter Try.func27, Try.ntmps27
    go_wp2
    go_ret
    exact ⟨rfl, rfl⟩
  · rw [addW_hi (by omega)]
    go_enter Try.func27, Try.ntmps27
    go_wp2
    go_ret
    exact ⟨rfl, rfl⟩

set_option maxHeartbeats 400000 in
theorem total_any (a : Option Addr) (n c B : Nat) (xs : List Int) (w : World) (hn : xs.length = n) (hb : n ≤ 9223372036854775807) (hr : Row .i64 w B a xs) (hw : areW xs = true) :
    Calls Try.prog 22 #[.slice a n c] w fun e w' => e = .returned (.int .i64 (sumL xs)) ∧ w = w' := by
  subst hn
  have HW := Lib.hid hw
  clear hw
  go_enter Try.func22, Try.ntmps22
  go_wp2
  go_loop [3, 8] (fun s i => ∃ k : Nat, k ≤ xs.length ∧ i = .int .i64 k ∧ s = .int .i64 (sumL (xs.take k))) (fun _ i => xs.length - (intOf i).toNat)
  case atStart => exact ⟨0, Nat.zero_le _, rfl, rfl⟩
  case round =>
    obtain ⟨k, hk, rfl, rfl⟩ := hrel
    by_cases hlt : k < xs.length
    · obtain ⟨b, o, rfl, _, hc⟩ := hr (by omega)
      have hcell := hc k hlt
      clear hc
      have hs := sumL_word (areW_take HW.out k)
      have hx := areW_get HW.out k
      have HS := Lib.hid (sumL_take_snoc xs k hlt)
      obtain ⟨s, es⟩ : ∃ s, s = sumL (xs.take k) := ⟨_, rfl⟩
      obtain ⟨x, ex⟩ : ∃ x, x = xs.getD k 0 := ⟨_, rfl⟩
      rw [← es] at hs HS ⊢
      rw [← ex] at hx hcell HS
      clear es ex
      obtain ⟨hs0, hs1⟩ := hs
      obtain ⟨hx0, hx1⟩ := hx
      go_wp2_with (go_at_call 25; refine (add_word _ _ _ (by assumption) (by assumption) (by assumption) (by assumption)).mono ?_; rintro e w' ⟨rfl, rfl⟩)
      go_round
      case rel => exact ⟨k + 1, by omega, by go_num, by rw [HS.out]⟩
      case measure => simp [intOf]; omega
    · have HE := Lib.hid (List.take_of_length_le (l := xs) (i := k) (by omega))
      go_wp2
      go_ret
      exact ⟨ret_int (by rw [HE.out]), rfl⟩

set_option maxHeartbeats 400000 in
theorem AddWords_any (a b : Int) (w : World) : Calls Try.prog 18 #[.int .i64 a, .int .i64 b] w fun e w' => e = .returned (.int .i64 (adw a b)) ∧ Below w.heap.size w w' := by
  have hrow := lit_row w 3 [a, b]
  have hare : areW [a, b] = (inR a 0 65535 && inR b 0 65535) := by simp [areW, allR]
  by_cases h : inR a 0 65535 = true ∧ inR b 0 65535 = true
  · obtain ⟨h1, h2⟩ := h
    rw [adw_yes h1 h2]
    rw [h1, h2, Bool.true_and] at hare
    have ⟨a0, a1⟩ := inR_iff.1 h1
    have ⟨b0, b1⟩ := inR_iff.1 h2
    have HA := Lib.hid hare
    clear hare h1 h2
    go_enter Try.func18, Try.ntmps18
    go_wp2_with fail
    refine (areWords_any _ 2 2 (w.heap.size + 1) [a, b] _ rfl (by omega) hrow).mono ?_
    rw [HA.out]
    rintro e w1 ⟨rfl, rfl⟩
    clear hrow
    go_wp2_with fail
    refine (add_word a b _ a0 a1 b0 b1).mono ?_
    rintro e w1 ⟨rfl, rfl⟩
    go_wp2
    go_ret
    exact ⟨rfl, (Below.refl _ _).alloc (Nat.le_refl _) _⟩
  · have hf : (inR a 0 65535 && inR b 0 65535) = false := by rw [Bool.eq_false_iff]; simpa using h
    have hv : adw a b = -1 := if_neg h
    rw [hv]
    rw [hf] at hare
    have HA := Lib.hid hare
    clear hare h hf hv
    go_enter Try.func18, Try.ntmps18
    go_wp2_with fail
    refine (areWords_any _ 2 2 (w.heap.size + 1) [a, b] _ rfl (by omega) hrow).mono ?_
    rw [HA.out]
    rintro e w1 ⟨rfl, rfl⟩
    clear hrow
    go_wp2
    go_ret
    exact ⟨rfl, (Below.refl _ _).alloc (Nat.le_refl _) _⟩


end Go.Proofs.Ytbmcliaafldkpaa
