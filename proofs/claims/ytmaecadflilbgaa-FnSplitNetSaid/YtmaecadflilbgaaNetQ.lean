/-
  The statements' own helpers on nets: equalNets, where both lists are equal; DrawSplitNet.
-/
import Derived.Test.YtmaecadflilbgaaNetH
import Derived.Test.YtmaecadflilbgaaNetE
import Derived.Test.YtmaecadflilbgaaDrawNet3
namespace Go.Proofs.Ytmaecadflilbgaa
open Go.RowKit
attribute [local go_sem ↓] Go.wp_at_zero Go.wp_at_succ

theorem half_row {w : World} {base g : Nat} {b s : Int} (h : Mine w base 2 (some ⟨g, 0, none⟩) 2 2 (halvesN b s)) : NRow w w.heap.size (some ⟨g, 0, none⟩) [(b, s + 1), (b + szN s / 2, s + 1)] := fun _ => by
  refine ⟨g, 0, rfl, (h.lt rfl).2, fun i hi => ?_⟩
  have hi : i < 2 := hi
  rw [Nat.zero_add]
  refine ⟨(h.at0 (j := i * 2) (by omega)).trans ?_, (h.at0 (j := i * 2 + 1) (by omega)).trans ?_⟩ <;>
  · match i, hi with
    | 0, _ => rfl
    | 1, _ => rfl

/-- '!=' on two nets that are one. -/
theorem run_neq_net (w : World) (b s : Int) : (binOp .neq 24 (.agg #[.int .i64 b, .int .i64 s]) (.agg #[.int .i64 b, .int .i64 s])).run Try.prog w = .ok (.bool false) w := by
  have u3 := Try.underlying3
  have hS : Try.prog.underlying 24 = some (.struct (Try.prog.fieldsOf 24)) := by kernel_rfl
  have hp : Try.prog.stoodInHeld 24 = false := by kernel_rfl
  rw [run_neq_struct, show (10000 : Nat) = 9999 + 1 from rfl, run_equalIn_agg w 9999 24 _ _ hS hp]
  simp only [Program.fieldsOf, Try.underlying24]
  go_simp

set_option maxHeartbeats 800000 in
theorem equalNets_same (a a' : Option Addr) (n c c' B B' : Nat) (L : List (Int × Int)) (w : World) (hn : L.length = n) (hb : n ≤ 1048576) (hr : NRow w B a L) (hr' : NRow w B' a' L) :
    Calls Try.prog 21 #[.slice a n c, .slice a' n c'] w fun e w' => e = .returned (.bool true) ∧ Below w.heap.size w w' := by
  go_enter Try.func21, Try.ntmps21
  go_wp2
  go_loopw [5] (fun i wr => ∃ (k q : Nat), k ≤ n ∧ i = .int .i64 k ∧ wr = w.drewN q) (fun i _ => n - (intOf i).toNat)
  case atStart => exact ⟨0, 0, Nat.zero_le _, rfl, rfl⟩
  case round =>
    obtain ⟨k, q, hk, rfl, rfl⟩ := hrel
    by_cases hlt : k < n
    · obtain ⟨b, o, rfl, _, hc⟩ := hr (by omega)
      obtain ⟨b', o', rfl, _, hc'⟩ := hr' (by omega)
      have ⟨hcell, hcell1⟩ := hc k (by omega)
      have ⟨hcell', hcell1'⟩ := hc' k (by omega)
      clear hc hc' hr hr'
      obtain ⟨⟨x, y⟩, hx⟩ : ∃ p, p = L.getD k (0, 0) := ⟨_, rfl⟩
      rw [← hx] at hcell hcell' hcell1 hcell1'
      clear hx
      have heq := fun w => run_neq_net w x y
      have l1 : (k : Int) < (n : Int) := by omega
      have l2 : (0 : Int) ≤ (k : Int) := by omega
      go_wp2
      go_quiet (fail)
      go_wp2
      go_roundw
      case rel => exact ⟨k + 1, _, by omega, by go_num, rfl⟩
      case measure => simp [intOf]; omega
    · go_wp2
      go_ret
      exact ⟨rfl, (below_drewN (Below.refl _ _) q)⟩

set_option maxHeartbeats 800000 in
theorem DrawSplitNet_any (a : Option Addr) (n c : Nat) (w : World) (hb : Bytes w a n) (hnc : n ≤ c) (hc : c ≤ 9223372036854775807) :
    Calls Try.prog 20 #[.slice a n c] w (DrewNet w netR) := by
  have HT0 := Lib.hid (Two.new_at w w.heap.size rfl 24 0 0)
  have HB0 := Lib.hid ((Below.refl w.heap.size w).alloc (Nat.le_refl _) (.cells #[.int .i64 0, .int .i64 0] 24))
  have hb1 := hb.alloc (.cells #[.int .i64 0, .int .i64 0] 24)
  clear hb
  go_enter Try.func20, Try.ntmps20
  go_wp2_with fail
  refine (newReader_any a n c _ hb1 hnc hc).mono ?_
  rintro e w1 ⟨rfl, r1, b1, z1⟩
  have T1 := Lib.hid (HT0.out.below b1)
  have B1 := Lib.hid (next HB0.out b1)
  have hl := T1.out.lt.2
  simp at r1 z1
  clear b1
  go_wp2_with fail
  refine (anyNet_any (w.heap.size + 1) (w.heap.size + 1) 0 _ r1 (by omega)).mono ?_
  rintro e w2 ⟨b, s, rfl, hQ, r2, g2⟩
  have T2 := T1.out.far g2 (by omega)
  have ⟨q0, q1, q2, q3⟩ := T2.at_
  have E := Lib.hid (drew_end (x := b) (y := s) (Nat.le_refl _) T2 (only_below B1.out g2 (by omega) (by omega)))
  clear T2 g2
  go_wp2
  exact bodyPost_ret (v := .agg #[.int .i64 b, .int .i64 s]) (results_two (g := w.heap.size) rfl _ _ _ _ _ rfl E.out.1.1 E.out.1.2 Try.underlying24 rfl (by kernel_rfl)) rfl ⟨b, s, rfl, hQ, E.out.2⟩
end Go.Proofs.Ytmaecadflilbgaa
