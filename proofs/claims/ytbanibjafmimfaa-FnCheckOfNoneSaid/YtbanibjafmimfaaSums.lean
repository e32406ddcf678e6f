/-
  SumOf, CheckOf, IsRight, of the program and of the reference: what they return, for all lists. Nothing is written.
-/
import Derived.Test.YtbanibjafmimfaaSum2
namespace Go.Proofs.Ytbanibjafmimfaa
open Go.RowKit

set_option maxHeartbeats 400000 in
theorem allIn_any (a : Option Addr) (n c B : Nat) (xs : List Int) (lo hi : Int) (w : World) (hn : xs.length = n) (hb : n ≤ 9223372036854775807) (hr : Row .i64 w B a xs) :
    Calls Try.prog 27 #[.slice a n c, .int .i64 lo, .int .i64 hi] w fun e w' => e = .returned (.bool (allR xs lo hi)) ∧ w = w' := by
  subst hn
  go_enter Try.func27, Try.ntmps27
  go_wp2
  go_loop [7] (fun i => ∃ k : Nat, k ≤ xs.length ∧ i = .int .i64 k ∧ allR (xs.take k) lo hi = true) (fun i => xs.length - (intOf i).toNat)
  case atStart => exact ⟨0, Nat.zero_le _, rfl, rfl⟩
  case round =>
    obtain ⟨k, hk, rfl, hall⟩ := hrel
    by_cases hlt : k < xs.length
    · obtain ⟨b, o, rfl, _, hc⟩ := hr (by omega)
      have hcell := hc k hlt
      clear hc
      have hsn := allR_take_snoc xs lo hi k hlt
      have hno := allR_no (xs := xs) (lo := lo) (hi := hi) k hlt
      rw [hall, Bool.true_and] at hsn
      have HS := Lib.hid hsn
      have HN := Lib.hid hno
      clear hsn hno hall
      obtain ⟨x, hx⟩ : ∃ x, x = xs.getD k 0 := ⟨_, rfl⟩
      rw [← hx] at hcell
      have HX := Lib.hid hx
      clear hx
      by_cases hw : inR x lo hi = true
      · go_wp2_with (go_at_call 32; refine (inRange_any _ _ _ _).mono ?_; rintro e w' ⟨rfl, rfl⟩)
        go_round
        case rel => exact ⟨k + 1, by omega, by go_num, by rw [HS.out, ← HX.out]; exact hw⟩
        case measure => simp [intOf]; omega
      · have hw' : inR x lo hi = false := by simpa using hw
        clear hw
        go_wp2_with (go_at_call 32; refine (inRange_any _ _ _ _).mono ?_; rintro e w' ⟨rfl, rfl⟩)
        go_ret
        exact ⟨ret_bool (HN.out (by rw [← HX.out]; exact hw')).symm, rfl⟩
    · have he : allR xs lo hi = true := by rw [List.take_of_length_le (by omega)] at hall; exact hall
      have HE := Lib.hid he
      clear he hall
      go_wp2
      go_ret
      exact ⟨ret_bool HE.out.symm, rfl⟩

theorem allR_areW (xs : List Int) : allR xs 0 65535 = areW xs := rfl

set_option maxHeartbeats 400000 in
theorem validWords_any (a : Option Addr) (n c B : Nat) (xs : List Int) (w : World) (hn : xs.length = n) (hb : n ≤ 9223372036854775807) (hr : Row .i64 w B a xs) :
    Calls Try.prog 19 #[.slice a n c] w fun e w' => e = .returned (.bool (vw xs)) ∧ w = w' := by
  by_cases hl : n ≤ 20
  · have hv : vw xs = areW xs := by simp [vw, hn, hl]
    have HV := Lib.hid hv
    clear hv
    rw [HV.out]
    go_enter Try.func19, Try.ntmps19
    go_wp2_with fail
    refine (allIn_any a n c B xs 0 65535 _ hn hb hr).mono ?_
    rw [allR_areW]
    rintro e w' ⟨rfl, rfl⟩
    go_wp2
    go_ret
    exact ⟨rfl, rfl⟩
  · have hv : vw xs = false := vw_long (by omega)
    have HV := Lib.hid hv
    clear hv
    rw [HV.out]
    go_enter Try.func19, Try.ntmps19
    go_wp2
    go_ret
    exact ⟨rfl, rfl⟩

set_option maxHeartbeats 400000 in
theorem specsumOf_any (a : Option Addr) (n c B : Nat) (xs : List Int) (w : World) (hn : xs.length = n) (hb : n ≤ 9223372036854775807) (hr : Row .i64 w B a xs) (hw : areW xs = true) :
    Calls Try.prog 20 #[.slice a n c] w fun e w' => e = .returned (.int .i64 (sumL xs)) ∧ w = w' := by
  subst hn
  have HW := Lib.hid hw
  clear hw
  go_enter Try.func20, Try.ntmps20
  go_wp2
  go_loop [3, 4] (fun s i => ∃ k : Nat, k ≤ xs.length ∧ i = .int .i64 k ∧ s = .int .i64 (sumL (xs.take k))) (fun _ i => xs.length - (intOf i).toNat)
  case atStart => exact ⟨0, Nat.zero_le _, rfl, rfl⟩
  case round =>
    obtain ⟨k, hk, rfl, rfl⟩ := hrel
    by_cases hlt : k < xs.length
    · obtain ⟨b, o, rfl, _, hc⟩ := hr (by omega)
      have hcell := hc k hlt
      clear hc
      have hs := sumL_word (areW_take HW.out k)
      have hx := areW_get HW.out k
      have HS := Lib.hid (sumL_take_snoc xs k hlt)
      obtain ⟨s, es⟩ : ∃ s, s = sumL (xs.take k) := ⟨_, rfl⟩
      obtain ⟨x, ex⟩ : ∃ x, x = xs.getD k 0 := ⟨_, rfl⟩
      rw [← es] at hs HS ⊢
      rw [← ex] at hx hcell HS
      clear es ex
      obtain ⟨hs0, hs1⟩ := hs
      obtain ⟨hx0, hx1⟩ := hx
      go_wp2_with (go_at_call 28; refine (addWord_word _ _ _ (by assumption) (by assumption) (by assumption) (by assumption)).mono ?_; rintro e w' ⟨rfl, rfl⟩)
      go_round
      case rel => exact ⟨k + 1, by omega, by go_num, by rw [HS.out]⟩
      case measure => simp [intOf]; omega
    · have HE := Lib.hid (List.take_of_length_le (l := xs) (i := k) (by omega))
      go_wp2
      go_ret
      exact ⟨ret_int (by rw [HE.out]), rfl⟩


set_option maxHeartbeats 400000 in
theorem specCheckOf_any (a : Option Addr) (n c B : Nat) (xs : List Int) (w : World) (hn : xs.length = n) (hb : n ≤ 9223372036854775807) (hr : Row .i64 w B a xs) :
    Calls Try.prog 11 #[.slice a n c] w fun e w' => e = .returned (.int .i64 (cof xs)) ∧ w = w' := by
  cases hv : vw xs
  · rw [cof_no hv]
    go_enter Try.func11, Try.ntmps11
    go_wp2_with (go_at_call 19; refine (validWords_any a n c B xs _ hn hb hr).mono ?_; rintro e w' ⟨rfl, rfl⟩)
    go_ret
    exact ⟨rfl, rfl⟩
  · rw [cof_yes hv]
    have hw := Lib.hid (vw_areW hv)
    have ⟨s0, s1⟩ := sumL_word hw.out
    go_enter Try.func11, Try.ntmps11
    go_wp2_with (first | (go_at_call 19; refine (validWords_any a n c B xs _ hn hb hr).mono ?_; rintro e w' ⟨rfl, rfl⟩) | (go_at_call 20; refine (specsumOf_any a n c B xs _ hn hb hr hw.out).mono ?_; rintro e w' ⟨rfl, rfl⟩))
    go_ret
    exact ⟨rfl, rfl⟩

theorem isr_no {xs : List Int} (h : vw xs = false) : isr xs = false := by rw [isr, sof_no h]; rfl
theorem isr_yes {xs : List Int} (h : vw xs = true) : isr xs = (sumL xs == 65535) := by rw [isr, sof_yes h]

set_option maxHeartbeats 400000 in
theorem specIsRight_any (a : Option Addr) (n c B : Nat) (xs : List Int) (w : World) (hn : xs.length = n) (hb : n ≤ 9223372036854775807) (hr : Row .i64 w B a xs) :
    Calls Try.prog 15 #[.slice a n c] w fun e w' => e = .returned (.bool (isr xs)) ∧ w = w' := by
  cases hv : vw xs
  · rw [isr_no hv]
    go_enter Try.func15, Try.ntmps15
    go_wp2_with (go_at_call 19; refine (validWords_any a n c B xs _ hn hb hr).mono ?_; rintro e w' ⟨rfl, rfl⟩)
    go_ret
    exact ⟨rfl, rfl⟩
  · rw [isr_yes hv]
    have hw := Lib.hid (vw_areW hv)
    go_enter Try.func15, Try.ntmps15
    go_wp2_with (first | (go_at_call 19; refine (validWords_any a n c B xs _ hn hb hr).mono ?_; rintro e w' ⟨rfl, rfl⟩) | (go_at_call 20; refine (specsumOf_any a n c B xs _ hn hb hr hw.out).mono ?_; rintro e w' ⟨rfl, rfl⟩))
    go_ret
    exact ⟨rfl, rfl⟩

set_option maxHeartbeats 400000 in
theorem SumOf_any (a : Option Addr) (n c B : Nat) (xs : List Int) (w : World) (hn : xs.length = n) (hb : n ≤ 9223372036854775807) (hr : Row .i64 w B a xs) :
    Calls Try.prog 13 #[.slice a n c] w fun e w' => e = .returned (.int .i64 (sof xs)) ∧ w = w' := by
  by_cases hl : n ≤ 20
  · cases hw : areW xs
    · rw [sof_no (vw_bad hw)]
      go_enter Try.func13, Try.ntmps13
      go_wp2_with (go_at_call 21; refine (areWords_any a n c B xs _ hn hb hr).mono ?_; rintro e w' ⟨rfl, rfl⟩)
      go_ret
      exact ⟨rfl, rfl⟩
    · rw [sof_yes (vw_yes (by omega) hw)]
      have HW := Lib.hid hw
      go_enter Try.func13, Try.ntmps13
      go_wp2_with (first | (go_at_call 21; refine (areWords_any a n c B xs _ hn hb hr).mono ?_; rintro e w' ⟨rfl, rfl⟩) | (go_at_call 22; refine (total_any a n c B xs _ hn hb hr HW.out).mono ?_; rintro e w' ⟨rfl, rfl⟩))
      go_ret
      exact ⟨rfl, rfl⟩
  · rw [sof_no (vw_long (by omega))]
    go_enter Try.func13, Try.ntmps13
    go_wp2
    go_ret
    exact ⟨rfl, rfl⟩

set_option maxHeartbeats 400000 in
theorem CheckOf_any (a : Option Addr) (n c B : Nat) (xs : List Int) (w : World) (hn : xs.length = n) (hb : n ≤ 9223372036854775807) (hr : Row .i64 w B a xs) :
    Calls Try.prog 10 #[.slice a n c] w fun e w' => e = .returned (.int .i64 (cof xs)) ∧ w = w' := by
  cases hv : vw xs
  · rw [cof_no hv]
    have HS := Lib.hid (sof_no hv)
    go_enter Try.func10, Try.ntmps10
    go_wp2_with (go_at_call 13; refine (SumOf_any a n c B xs _ hn hb hr).mono ?_; rw [HS.out]; rintro e w' ⟨rfl, rfl⟩)
    go_ret
    exact ⟨rfl, rfl⟩
  · rw [cof_yes hv]
    have HS := Lib.hid (sof_yes hv)
    have ⟨s0, s1⟩ := sumL_word (vw_areW hv)
    go_enter Try.func10, Try.ntmps10
    go_wp2_with (go_at_call 13; refine (SumOf_any a n c B xs _ hn hb hr).mono ?_; rw [HS.out]; rintro e w' ⟨rfl, rfl⟩)
    go_ret
    exact ⟨rfl, rfl⟩

set_option maxHeartbeats 400000 in
theorem IsRight_any (a : Option Addr) (n c B : Nat) (xs : List Int) (w : World) (hn : xs.length = n) (hb : n ≤ 9223372036854775807) (hr : Row .i64 w B a xs) :
    Calls Try.prog 12 #[.slice a n c] w fun e w' => e = .returned (.bool (isr xs)) ∧ w = w' := by
  go_enter Try.func12, Try.ntmps12
  go_wp2_with (go_at_call 13; refine (SumOf_any a n c B xs _ hn hb hr).mono ?_; rintro e w' ⟨rfl, rfl⟩)
  go_ret
  exact ⟨rfl, rfl⟩

end Go.Proofs.Ytbanibjafmimfaa
