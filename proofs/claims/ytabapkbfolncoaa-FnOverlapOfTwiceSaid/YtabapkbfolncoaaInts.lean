/-
  toIntS and eqIntS, for all lists of ints.
-/
import Derived.Test.YtabapkbfolncoaaOwn
import Derived.Test.YtabapkbfolncoaaPlain
import Derived.Deep.QuietTactic
import Derived.BigQuiet
namespace Go.Proofs.Ytabapkbfolncoaa
open Go.RowKit

theorem int_info : (Try.prog.info? 3).map (fun i => (i.zero, i.size, i.bytes)) = some (some (.int .i64 0), 1, 8) := by kernel_rfl

/-- A copy in a new block. -/
def Copied (w : World) (n : Nat) (xs : List Int) (e : Ending) (w' : World) : Prop :=
  e = .returned (.slice (some ⟨w.heap.size, 0, none⟩) n n) ∧ Mine w' w.heap.size 1 (some ⟨w.heap.size, 0, none⟩) n n (xs.map (Value.int .i64)) ∧ Below w.heap.size w w'

theorem fill_step {ys : List Value} {xs : List Int} {k : Nat} (hk : k < ys.length) (hx : k < xs.length) (h : ys.take k = (xs.take k).map (Value.int .i64)) :
    (ys.set k (.int .i64 (xs.getD k 0))).take (k + 1) = (xs.take (k + 1)).map (Value.int .i64) := by
  rw [List.take_succ_eq_append_getElem hx, List.map_append, ← h, List.take_succ_eq_append_getElem (by simpa using hk)]
  simp [List.getD_eq_getElem?_getD, hx, List.take_set_of_le]

set_option maxHeartbeats 800000 in
theorem toIntS_any (a : Option Addr) (n c : Nat) (xs : List Int) (w : World) (hn : xs.length = n) (hb : n ≤ 1048576) (hr : Row .i64 w w.heap.size a xs) :
    Calls Try.prog 65 #[.slice a n c] w (Copied w n xs) := by
  obtain ⟨i0, hi, hz0, hz1, hz2⟩ := info_parts int_info
  have hbz : i0.bytes * n ≤ 281474976710656 := by rw [hz2]; omega
  have hml : n ≤ maxLen := by unfold maxLen; omega
  go_enter Try.func65, Try.ntmps65
  go_wp2_with (at_make; refine wpList_make_full _ rfl _ _ 24 rfl w.heap.size 3 i0 (.int .i64 0) 1 Try.underlying24 hi hz0 hz1 .i64 .i64 _ _ n rfl rfl rfl rfl hbz hml (Nat.le_refl _) ?_; intro w1 hown hg)
  have hM := Mine.of_own hown
  have hB : Below w.heap.size w w1 := (Below.refl _ _).grown hg (Nat.le_refl _) (by simp)
  clear hown hg hbz hml hi hz0 hz1 hz2
  go_loopw [4] (fun i wr => ∃ (k : Nat) (ys : List Value), k ≤ n ∧ i = .int .i64 k ∧ Mine wr w.heap.size 1 (some ⟨w.heap.size, 0, none⟩) n n ys ∧ ys.take k = (xs.take k).map (Value.int .i64) ∧ Below w.heap.size w wr) (fun i _ => n - (intOf i).toNat)
  case atStart => exact ⟨0, _, Nat.zero_le _, rfl, hM, by simp, hB⟩
  case round =>
    obtain ⟨k, ys, hk, rfl, hM1, hys, hB1⟩ := hrel
    clear hM hB
    by_cases hlt : k < n
    · obtain ⟨b, o, rfl, hbl, hc⟩ := hr (by omega)
      have hcell : wr.cell? ⟨b, o + k, none⟩ = some (.int .i64 (xs.getD k 0)) := (hB1.cell (p := ⟨b, o + k, none⟩) hbl).trans (hc k (by omega))
      obtain ⟨⟨v0, hv0⟩, hf0⟩ := hM1.can0 (j := k) (by omega)
      have hlen : ys.length = n := by simpa using hM1.1
      have HS := Lib.hid (fill_step (k := k) (by omega) (by omega) hys)
      have HM := Lib.hid (hM1.set0 (j := k) (by omega) (.int .i64 (xs.getD k 0)))
      have HB := Lib.hid (hB1.setCell (p := ⟨w.heap.size, k, none⟩) (Nat.le_refl _) (.int .i64 (xs.getD k 0)))
      obtain ⟨x, hx⟩ : ∃ x, x = xs.getD k 0 := ⟨_, rfl⟩
      rw [← hx] at hcell HS HM HB
      clear hx hc hys hM1 hB1
      go_wp2
      go_roundw
      case rel => exact ⟨k + 1, _, by omega, by go_num, HM.out, HS.out, HB.out⟩
      case measure => simp [intOf]; omega
    · have hkn : k = n := by omega
      have hlen : ys.length = n := by simpa using hM1.1
      have hfin : ys = xs.map (Value.int .i64) := by
        rw [List.take_of_length_le (by omega), List.take_of_length_le (by omega)] at hys
        exact hys
      have HF := Lib.hid hfin
      clear hfin hys hkn hlen
      go_wp2
      go_ret
      exact ⟨rfl, by rw [← HF.out]; exact hM1, hB1⟩

/-- eqIntS where both are equal. -/
theorem eqIntS_same (a a' : Option Addr) (n c c' B B' : Nat) (xs : List Int) (w : World) (hn : xs.length = n) (hb : n ≤ 1048576) (hr : Row .i64 w B a xs) (hr' : Row .i64 w B' a' xs) :
    Calls Try.prog 19 #[.slice a n c, .slice a' n c'] w fun e w' => e = .returned (.bool true) ∧ Below w.heap.size w w' := by
  go_enter Try.func19, Try.ntmps19
  go_wp2
  go_loopw [5] (fun i wr => ∃ (k q : Nat), k ≤ n ∧ i = .int .i64 k ∧ wr = w.drewN q) (fun i _ => n - (intOf i).toNat)
  case atStart => exact ⟨0, 0, Nat.zero_le _, rfl, rfl⟩
  case round =>
    obtain ⟨k, q, hk, rfl, rfl⟩ := hrel
    by_cases hlt : k < n
    · obtain ⟨b, o, rfl, _, hc⟩ := hr (by omega)
      obtain ⟨b', o', rfl, _, hc'⟩ := hr' (by omega)
      have hcell := hc k (by omega)
      have hcell' := hc' k (by omega)
      clear hc hc'
      obtain ⟨x, hx⟩ : ∃ x, x = xs.getD k 0 := ⟨_, rfl⟩
      rw [← hx] at hcell hcell'
      clear hx
      have l1 : (k : Int) < (n : Int) := by omega
      have l2 : (0 : Int) ≤ (k : Int) := by omega
      go_wp2
      go_quiet (fail)
      go_wp2
      go_roundw
      case rel => exact ⟨k + 1, _, by omega, by go_num, rfl⟩
      case measure => simp [intOf]; omega
    · go_wp2
      go_ret
      exact ⟨rfl, (below_drewN (Below.refl _ _) q)⟩

end Go.Proofs.Ytabapkbfolncoaa
