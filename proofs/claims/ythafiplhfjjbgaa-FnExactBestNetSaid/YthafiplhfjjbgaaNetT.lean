/-
  Lists of nets: toNetS, szNetS.
-/
import Derived.Test.YthafiplhfjjbgaaNetE
import Derived.Deep.QuietTactic
import Derived.BigQuiet
namespace Go.Proofs.Ythafiplhfjjbgaa
open Go.RowKit
attribute [local go_sem ↓] Go.wp_at_zero Go.wp_at_succ

theorem net_info : (Try.prog.info? 25).map (fun i => (i.zero, i.size, i.bytes)) = some (some (.agg #[.int .i64 0, .int .i64 0]), 2, 16) := by kernel_rfl

/-- Cells that show nets, the first k of them. -/
def Shows (ys : List Value) (L : List (Int × Int)) (k : Nat) : Prop := ∀ t, t < k → ys[t * 2]? = some (.int .i64 (L.getD t (0, 0)).1) ∧ ys[t * 2 + 1]? = some (.int .i64 (L.getD t (0, 0)).2)
theorem Shows.step {ys : List Value} {L : List (Int × Int)} {k : Nat} (h : Shows ys L k) (hk : k * 2 + 1 < ys.length) : Shows ((ys.set (k * 2) (.int .i64 (L.getD k (0, 0)).1)).set (k * 2 + 1) (.int .i64 (L.getD k (0, 0)).2)) L (k + 1) := by
  intro t ht
  simp only [List.getElem?_set, List.length_set]
  by_cases e : t = k
  · subst e
    refine ⟨?_, ?_⟩
    · rw [if_neg (by omega), if_pos rfl, if_pos (by omega)]
    · rw [if_pos rfl, if_pos (by omega)]
  · have := h t (by omega)
    refine ⟨?_, ?_⟩
    · rw [if_neg (by omega), if_neg (by omega)]; exact this.1
    · rw [if_neg (by omega), if_neg (by omega)]; exact this.2
theorem Shows.row {w : World} {base g n cap : Nat} {ys : List Value} {L : List (Int × Int)} (hm : Mine w base 2 (some ⟨g, 0, none⟩) n cap ys) (h : Shows ys L n) (hn : L.length = n) : NRow w w.heap.size (some ⟨g, 0, none⟩) L := fun _ => by
  refine ⟨g, 0, rfl, (hm.lt rfl).2, fun i hi => ?_⟩
  rw [Nat.zero_add]
  exact ⟨(hm.at0 (j := i * 2) (by omega)).trans (h i (by omega)).1, (hm.at0 (j := i * 2 + 1) (by omega)).trans (h i (by omega)).2⟩

/-- A copy of a list of nets in a new block. -/
def CopiedN (w : World) (n : Nat) (L : List (Int × Int)) (e : Ending) (w' : World) : Prop :=
  e = .returned (.slice (some ⟨w.heap.size, 0, none⟩) n n) ∧ NRow w' w'.heap.size (some ⟨w.heap.size, 0, none⟩) L ∧ Below w.heap.size w w'

theorem szNetS_any (a : Option Addr) (n c : Nat) (w : World) (hn : n ≤ 9223372036854775807) : Calls Try.prog 27 #[.slice a n c, .int .i64 1048576] w fun e w' => e = .returned (.int .i64 (if n ≤ 1048576 then 1048576 - (n : Int) else -1)) ∧ w = w' := by
  by_cases h : n ≤ 1048576
  · rw [if_pos h]
    have h1 : ¬ (1048576 - (n : Int) < 0) := by omega
    go_enter Try.func27, Try.ntmps27
    go_wp2
    go_ret
    exact ⟨rfl, rfl⟩
  · rw [if_neg h]
    have h1 : (1048576 - (n : Int) < 0) := by omega
    go_enter Try.func27, Try.ntmps27
    go_wp2
    go_ret
    exact ⟨rfl, rfl⟩

set_option maxHeartbeats 1600000 in
theorem toNetS_any (a : Option Addr) (n c : Nat) (L : List (Int × Int)) (w : World) (hn : L.length = n) (hb : n ≤ 1048576) (hr : NRow w w.heap.size a L) :
    Calls Try.prog 29 #[.slice a n c] w (CopiedN w n L) := by
  obtain ⟨i0, hi, hz0, hz1, hz2⟩ := info_parts net_info
  have hbz : i0.bytes * n ≤ 281474976710656 := by rw [hz2]; omega
  have hml : n ≤ maxLen := by unfold maxLen; omega
  go_enter Try.func29, Try.ntmps29
  go_wp2_with (at_make; refine wpList_make_full _ rfl _ _ 37 rfl w.heap.size 25 i0 (.agg #[.int .i64 0, .int .i64 0]) 2 Try.underlying37 hi hz0 hz1 .i64 .i64 _ _ n rfl rfl rfl rfl hbz hml (Nat.le_refl _) ?_; intro w1 hown hg)
  have hM := Mine.of_own hown
  have hB : Below w.heap.size w w1 := (Below.refl _ _).grown hg (Nat.le_refl _) (by simp)
  clear hown hg hbz hml hi hz0 hz1 hz2
  go_loopw [4] (fun i wr => ∃ (k : Nat) (ys : List Value), k ≤ n ∧ i = .int .i64 k ∧ Mine wr w.heap.size 2 (some ⟨w.heap.size, 0, none⟩) n n ys ∧ Shows ys L k ∧ Below w.heap.size w wr) (fun i _ => n - (intOf i).toNat)
  case atStart => exact ⟨0, _, Nat.zero_le _, rfl, hM, fun t h => by omega, hB⟩
  case round =>
    obtain ⟨k, ys, hk, rfl, hM1, hys, hB1⟩ := hrel
    clear hM hB
    by_cases hlt : k < n
    · obtain ⟨b, o, rfl, hbl, hc⟩ := hr (by omega)
      have hcell : wr.cell? ⟨b, o + k * 2, none⟩ = some (.int .i64 (L.getD k (0, 0)).1) := (hB1.cell (p := ⟨b, o + k * 2, none⟩) hbl).trans (hc k (by omega)).1
      have hcell1 : wr.cell? ⟨b, o + k * 2 + 1, none⟩ = some (.int .i64 (L.getD k (0, 0)).2) := (hB1.cell (p := ⟨b, o + k * 2 + 1, none⟩) hbl).trans (hc k (by omega)).2
      have hlen : ys.length = n * 2 := by simpa using hM1.1
      have HS := Lib.hid (hys.step (k := k) (by omega))
      obtain ⟨⟨x, y⟩, hx⟩ : ∃ p, p = L.getD k (0, 0) := ⟨_, rfl⟩
      rw [← hx] at hcell HS hcell1
      clear hx hc hys
      have l1 : (k : Int) < (n : Int) := by omega
      have l2 : (0 : Int) ≤ (k : Int) := by omega
      go_wp2_with fail
      refine (toNet_any x y _).mono ?_
      rintro e w2 ⟨rfl, b2⟩
      have m2 := hM1.below b2
      obtain ⟨⟨v0, hv0⟩, hf0⟩ := m2.can0 (j := k * 2) (by omega)
      have HM1 := m2.set0 (j := k * 2) (by omega) (.int .i64 x)
      obtain ⟨⟨v1, hv1⟩, hf1⟩ := HM1.can0 (j := k * 2 + 1) (by omega)
      have HM := Lib.hid (HM1.set0 (j := k * 2 + 1) (by omega) (.int .i64 y))
      have HB := Lib.hid (((next hB1 b2).setCell (p := ⟨w.heap.size, k * 2, none⟩) (Nat.le_refl _) (.int .i64 x)).setCell (p := ⟨w.heap.size, k * 2 + 1, none⟩) (Nat.le_refl _) (.int .i64 y))
      clear hM1 hB1 m2 HM1 b2 hcell hcell1
      go_wp2
      refine ⟨⟨k + 1, _, by omega, by go_num, HM.out, HS.out, HB.out⟩, ?_⟩
      simp [intOf]; omega
    · obtain rfl : k = n := by omega
      go_wp2
      go_ret
      exact ⟨rfl, hys.row hM1 hn, hB1⟩
end Go.Proofs.Ythafiplhfjjbgaa
