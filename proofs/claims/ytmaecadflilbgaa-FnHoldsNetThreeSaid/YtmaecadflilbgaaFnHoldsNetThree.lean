/-
  'FnHoldsNetThree': for every input the law returns true, and each argument reads afterwards as it read before. No condition.
  The frame of the row's step follows the kit's skeleton; the walk is ours.
-/
import Derived.Test.YtmaecadflilbgaaLawKit
import Derived.Test.YtmaecadflilbgaaDrawNet5
import Derived.Test.YtmaecadflilbgaaPlainNet3
import Derived.Test.YtmaecadflilbgaaNet3
import Derived.Test.YtmaecadflilbgaaNetH
namespace Go.Proofs.Ytmaecadflilbgaa.fnHoldsNetThree
open Go.ChangeShapes Go.WideShapes Go.ChangeAt Go.RowKit
set_option linter.unusedVariables false

set_option maxHeartbeats 1600000 in
theorem walk (a : Option Addr) (n c : Nat) (w : World) (w0 : Bytes w a n) (hnc : n ≤ c) (hc : c ≤ 9223372036854775807) :
    Calls Try.prog 7 #[.slice a n c] w fun e w' => e = .returned (.bool true) ∧ Below w.heap.size w w' := by
  by_cases hl : n ≤ 1048576
  · go_enter Try.func7, Try.ntmps7
    go_wp2_with fail
    refine (DrawHoldsNet_any a n c _ w0 hnc hc).mono ?_
    rintro e w1 ⟨b, s, b', s', rfl, b1⟩
    have K1 := Lib.hid (Boxes.new_at w1 w1.heap.size rfl 24 24 b s b' s')
    have B1 := Lib.hid ((b1.alloc b1.size (.cells #[.int .i64 b, .int .i64 s] 24)).alloc (by have := b1.size; simp; omega) (.cells #[.int .i64 b', .int .i64 s'] 24))
    clear w0 hnc hc b1
    go_wp2_with fail
    refine (HoldsNet_any b s b' s' _).mono ?_
    rintro e w2 ⟨rfl, b2⟩
    have K2 := Lib.hid (K1.out.on b2)
    have B2 := Lib.hid (next B1.out b2)
    clear b2 K1
    obtain ⟨⟨⟨k0, k1⟩, -⟩, ⟨k2, k3⟩, -⟩ := K2.out
    go_wp2_with fail
    refine (specHoldsNet_any b s b' s' _).mono ?_
    rintro e w3 ⟨rfl, b3⟩
    have K3 := Lib.hid (K2.out.on b3)
    have B3 := Lib.hid (next B2.out b3)
    clear b3 K2 k0 k1 k2 k3
    obtain ⟨⟨⟨k0, k1⟩, -⟩, ⟨k2, k3⟩, -⟩ := K3.out
    cases hv : holdsN b s b' s'
    · have HV := Lib.hid (hv)
      clear hv
      go_wp2_with fail
      refine (specHoldsNet_any b s b' s' _).mono ?_
      rintro e w4 ⟨rfl, b4⟩
      have K4 := Lib.hid (K3.out.on b4)
      have B4 := Lib.hid (next B3.out b4)
      rw [HV.out]
      clear b4 K3 k0 k1 k2 k3
      obtain ⟨⟨⟨k0, k1⟩, -⟩, ⟨k2, k3⟩, -⟩ := K4.out
      go_wp2
      go_ret
      exact ⟨rfl, B4.out⟩
    · have HV := Lib.hid hv
      clear hv
      cases ht : twoN b' s'
      · have HT := Lib.hid ht
        clear ht
        go_wp2_with fail
        refine (SplitNet_no b' s' _ HT.out).mono ?_
        rintro e w4 ⟨rfl, b4⟩
        have K4 := Lib.hid (K3.out.on b4)
        have B4 := Lib.hid (next B3.out b4)
        clear b4 K3 k0 k1 k2 k3
        obtain ⟨⟨⟨k0, k1⟩, -⟩, ⟨k2, k3⟩, -⟩ := K4.out
        clear k0 k1 k2 k3
        go_wp2_with fail
        go_loopw [7] (fun i wr => i = .int .i64 0 ∧ Below w.heap.size w wr) (fun _ _ => 0)
        case atStart => exact ⟨rfl, B4.out⟩
        case round =>
          obtain ⟨rfl, hB⟩ := hrel
          have BB := Lib.hid hB
          clear hB K4
          go_wp2
          go_ret
          exact ⟨rfl, BB.out⟩
      · have HT := Lib.hid ht
        clear ht
        have HS := Lib.hid (twoN_lt HT.out).2
        have HW' := Lib.hid (twoN_vN HT.out)
        go_wp2_with fail
        refine (SplitNet_yes b' s' _ HT.out).mono ?_
        rintro e w4 ⟨g, rfl, m4, b4⟩
        have K4 := Lib.hid (K3.out.on b4)
        have B4 := Lib.hid (next B3.out b4)
        clear b4 K3 k0 k1 k2 k3
        have M4 := Lib.hid m4
        clear m4
        go_wp2_with fail
        go_loopw [7] (fun i wr => ∃ k : Nat, k ≤ 2 ∧ i = .int .i64 k ∧ Boxes wr w1.heap.size b s b' s' ∧ Mine wr w3.heap.size 2 (some ⟨g, 0, none⟩) 2 2 (halvesN b' s') ∧ Below w.heap.size w wr) (fun i _ => 2 - (intOf i).toNat)
        case atStart => exact ⟨0, Nat.zero_le _, rfl, K4.out, M4.out, B4.out⟩
        case round =>
          obtain ⟨k, hk, rfl, hK, hM, hB⟩ := hrel
          obtain ⟨wo, rfl⟩ : ∃ wo : World, wo = wr := ⟨_, rfl⟩
          have K6 := Lib.hid hK
          have M6 := Lib.hid hM
          have B6 := Lib.hid hB
          clear hK hM hB K4 M4
          obtain ⟨⟨⟨k0, k1⟩, -⟩, ⟨k2, k3⟩, -⟩ := K6.out
          obtain ⟨p0, p1, p2, p3⟩ := half_at M6.out
          obtain rfl | rfl | rfl : k = 0 ∨ k = 1 ∨ k = 2 := by omega
          · clear hk
            have HX := Lib.hid (half_v1 HW'.out HS.out)
            have HY := Lib.hid (holds_trans HV.out (half_h1 HW'.out HS.out))
            cases ht : twoN b' (s' + 1)
            · have HU := Lib.hid ht
              clear ht
              go_wp2_with fail
              refine (SplitNet_no b' (s' + 1) _ HU.out).mono ?_
              rintro e w7 ⟨rfl, b7⟩
              have K7 := Lib.hid (K6.out.on b7)
              have M7 := Lib.hid (M6.out.below b7)
              have B7 := Lib.hid (next B6.out b7)
              clear b7 K6 M6 B6 p0 p1 p2 p3 k0 k1 k2 k3
              go_wp2_with fail
              go_loopw [9] (fun j wi => j = .int .i64 0 ∧ Boxes wi w1.heap.size b s b' s' ∧ Mine wi w3.heap.size 2 (some ⟨g, 0, none⟩) 2 2 (halvesN b' s') ∧ Below w.heap.size w wi) (fun _ _ => 0)
              case atStart => exact ⟨rfl, K7.out, M7.out, B7.out⟩
              case round =>
                obtain ⟨rfl, hK, hM, hB⟩ := hrel
                have K8 := Lib.hid hK
                have M8 := Lib.hid hM
                have B8 := Lib.hid hB
                clear hK hM hB K7 M7
                obtain ⟨⟨⟨k0, k1⟩, -⟩, ⟨k2, k3⟩, -⟩ := K8.out
                obtain ⟨p0, p1, p2, p3⟩ := half_at M8.out
                obtain ⟨S, f, hne, HF, HI⟩ := cls_more wr
                have c0 := Lib.hid (fun x => cls_call (x := x) HI (fun w' k => next (HF.out x) k) ((HoldsNet_any b s b' (s' + 1) (f x)).mono fun _ _ ⟨he, hb⟩ => ⟨by rw [he, HY.out], hb⟩))
                go_wp2
                clear k0 k1 k2 k3 p0 p1 p2 p3
                have k0 : ∀ x, (f x).cell? ⟨w1.heap.size, 0, none⟩ = some (.int .i64 b) := fun x => (K8.out.on (HF.out x)).1.1.1
                have k1 : ∀ x, (f x).cell? ⟨w1.heap.size, 1, none⟩ = some (.int .i64 s) := fun x => (K8.out.on (HF.out x)).1.1.2
                have k2 : ∀ x, (f x).cell? ⟨w1.heap.size + 1, 0, none⟩ = some (.int .i64 b') := fun x => (K8.out.on (HF.out x)).2.1.1
                have k3 : ∀ x, (f x).cell? ⟨w1.heap.size + 1, 1, none⟩ = some (.int .i64 s') := fun x => (K8.out.on (HF.out x)).2.1.2
                have p0 : ∀ x, (f x).cell? ⟨g, 0, none⟩ = some (.int .i64 b') := fun x => (half_at (M8.out.below (HF.out x))).1
                have p1 : ∀ x, (f x).cell? ⟨g, 1, none⟩ = some (.int .i64 (s' + 1)) := fun x => (half_at (M8.out.below (HF.out x))).2.1
                have p2 : ∀ x, (f x).cell? ⟨g, 2, none⟩ = some (.int .i64 (b' + szN s' / 2)) := fun x => (half_at (M8.out.below (HF.out x))).2.2.1
                have p3 : ∀ x, (f x).cell? ⟨g, 3, none⟩ = some (.int .i64 (s' + 1)) := fun x => (half_at (M8.out.below (HF.out x))).2.2.2
                refine wp_region_cls f (by kernel_rfl) (by kernel_rfl) (HI.out _ (Below.refl _ _).drew) ?_
                repeat (go_big_quiet_step ((first | (go_at_call 13; with_reducible exact c0.out _))))
                refine wpQuiet_nil ?_
                rintro _ ⟨x, rfl⟩
                have b9 := HF.out x
                clear HF HI hne c0 k0 k1 k2 k3 p0 p1 p2 p3
                generalize f x = w9 at b9 ⊢
                clear x f S
                have K9 := Lib.hid (K8.out.on b9)
                have B9 := Lib.hid (next B8.out b9)
                have bb9 := b9
                clear b9 K8
                obtain ⟨⟨⟨k0, k1⟩, -⟩, ⟨k2, k3⟩, -⟩ := K9.out
                have M9 := Lib.hid (M8.out.below bb9)
                clear M8 bb9
                go_wp2
                go_roundw
                case rel => exact ⟨1, by omega, rfl, K9.out, M9.out, B9.out⟩
                case measure => simp [intOf]
            · have HU := Lib.hid ht
              clear ht
              have HZ := Lib.hid (twoN_lt HU.out).2
              go_wp2_with fail
              refine (SplitNet_yes b' (s' + 1) _ HU.out).mono ?_
              rintro e w7 ⟨g2, rfl, n7, b7⟩
              have K7 := Lib.hid (K6.out.on b7)
              have M7 := Lib.hid (M6.out.below b7)
              have N7 := Lib.hid n7
              have B7 := Lib.hid (next B6.out b7)
              clear b7 n7 K6 M6 B6 p0 p1 p2 p3 k0 k1 k2 k3
              go_wp2_with fail
              go_loopw [9] (fun j wi => ∃ l : Nat, l ≤ 2 ∧ j = .int .i64 l ∧ Boxes wi w1.heap.size b s b' s' ∧ Mine wi w3.heap.size 2 (some ⟨g, 0, none⟩) 2 2 (halvesN b' s') ∧ Mine wi wo.heap.size 2 (some ⟨g2, 0, none⟩) 2 2 (halvesN b' (s' + 1)) ∧ Below w.heap.size w wi) (fun j _ => 2 - (intOf j).toNat)
              case atStart => exact ⟨0, Nat.zero_le _, rfl, K7.out, M7.out, N7.out, B7.out⟩
              case round =>
                obtain ⟨l, hl', rfl, hK, hM, hN, hB⟩ := hrel
                have K8 := Lib.hid hK
                have M8 := Lib.hid hM
                have N8 := Lib.hid hN
                have B8 := Lib.hid hB
                clear hK hM hN hB K7 M7 N7
                obtain ⟨⟨⟨k0, k1⟩, -⟩, ⟨k2, k3⟩, -⟩ := K8.out
                obtain rfl | rfl | rfl : l = 0 ∨ l = 1 ∨ l = 2 := by omega
                · clear hl'
                  obtain ⟨q0, q1, q2, q3⟩ := half_at N8.out
                  obtain ⟨S, f, hne, HF, HI⟩ := cls_more wr
                  have c0 := Lib.hid (fun x => cls_call (x := x) HI (fun w' k => next (HF.out x) k) ((HoldsNet_any b s b' (s' + 1 + 1) (f x)).mono fun _ _ ⟨he, hb⟩ => ⟨by rw [he, holds_trans HY.out (half_h1 HX.out HZ.out)], hb⟩))
                  go_wp2
                  clear k0 k1 k2 k3 q0 q1 q2 q3
                  have k0 : ∀ x, (f x).cell? ⟨w1.heap.size, 0, none⟩ = some (.int .i64 b) := fun x => (K8.out.on (HF.out x)).1.1.1
                  have k1 : ∀ x, (f x).cell? ⟨w1.heap.size, 1, none⟩ = some (.int .i64 s) := fun x => (K8.out.on (HF.out x)).1.1.2
                  have k2 : ∀ x, (f x).cell? ⟨w1.heap.size + 1, 0, none⟩ = some (.int .i64 b') := fun x => (K8.out.on (HF.out x)).2.1.1
                  have k3 : ∀ x, (f x).cell? ⟨w1.heap.size + 1, 1, none⟩ = some (.int .i64 s') := fun x => (K8.out.on (HF.out x)).2.1.2
                  have q0 : ∀ x, (f x).cell? ⟨g2, 0, none⟩ = some (.int .i64 b') := fun x => (half_at (N8.out.below (HF.out x))).1
                  have q1 : ∀ x, (f x).cell? ⟨g2, 1, none⟩ = some (.int .i64 ((s' + 1) + 1)) := fun x => (half_at (N8.out.below (HF.out x))).2.1
                  have q2 : ∀ x, (f x).cell? ⟨g2, 2, none⟩ = some (.int .i64 (b' + szN (s' + 1) / 2)) := fun x => (half_at (N8.out.below (HF.out x))).2.2.1
                  have q3 : ∀ x, (f x).cell? ⟨g2, 3, none⟩ = some (.int .i64 ((s' + 1) + 1)) := fun x => (half_at (N8.out.below (HF.out x))).2.2.2
                  refine wp_region_cls f (by kernel_rfl) (by kernel_rfl) (HI.out _ (Below.refl _ _).drew) ?_
                  repeat (go_big_quiet_step ((first | (go_at_call 13; with_reducible exact c0.out _))))
                  refine wpQuiet_nil ?_
                  rintro _ ⟨x, rfl⟩
                  have b9 := HF.out x
                  clear HF HI hne c0 k0 k1 k2 k3 q0 q1 q2 q3
                  generalize f x = w9 at b9 ⊢
                  clear x f S
                  have K9 := Lib.hid (K8.out.on b9)
                  have B9 := Lib.hid (next B8.out b9)
                  have bb9 := b9
                  clear b9 K8
                  obtain ⟨⟨⟨k0, k1⟩, -⟩, ⟨k2, k3⟩, -⟩ := K9.out
                  have M9 := Lib.hid (M8.out.below bb9)
                  have N9 := Lib.hid (N8.out.below bb9)
                  clear M8 N8 bb9
                  go_wp2
                  go_roundw
                  case rel => exact ⟨1, by omega, rfl, K9.out, M9.out, N9.out, B9.out⟩
                  case measure => simp [intOf]
                · clear hl'
                  obtain ⟨q0, q1, q2, q3⟩ := half_at N8.out
                  obtain ⟨S, f, hne, HF, HI⟩ := cls_more wr
                  have c0 := Lib.hid (fun x => cls_call (x := x) HI (fun w' k => next (HF.out x) k) ((HoldsNet_any b s (b' + szN (s' + 1) / 2) (s' + 1 + 1) (f x)).mono fun _ _ ⟨he, hb⟩ => ⟨by rw [he, holds_trans HY.out (half_h2 HX.out HZ.out)], hb⟩))
                  go_wp2
                  clear k0 k1 k2 k3 q0 q1 q2 q3
                  have k0 : ∀ x, (f x).cell? ⟨w1.heap.size, 0, none⟩ = some (.int .i64 b) := fun x => (K8.out.on (HF.out x)).1.1.1
                  have k1 : ∀ x, (f x).cell? ⟨w1.heap.size, 1, none⟩ = some (.int .i64 s) := fun x => (K8.out.on (HF.out x)).1.1.2
                  have k2 : ∀ x, (f x).cell? ⟨w1.heap.size + 1, 0, none⟩ = some (.int .i64 b') := fun x => (K8.out.on (HF.out x)).2.1.1
                  have k3 : ∀ x, (f x).cell? ⟨w1.heap.size + 1, 1, none⟩ = some (.int .i64 s') := fun x => (K8.out.on (HF.out x)).2.1.2
                  have q0 : ∀ x, (f x).cell? ⟨g2, 0, none⟩ = some (.int .i64 b') := fun x => (half_at (N8.out.below (HF.out x))).1
                  have q1 : ∀ x, (f x).cell? ⟨g2, 1, none⟩ = some (.int .i64 ((s' + 1) + 1)) := fun x => (half_at (N8.out.below (HF.out x))).2.1
                  have q2 : ∀ x, (f x).cell? ⟨g2, 2, none⟩ = some (.int .i64 (b' + szN (s' + 1) / 2)) := fun x => (half_at (N8.out.below (HF.out x))).2.2.1
                  have q3 : ∀ x, (f x).cell? ⟨g2, 3, none⟩ = some (.int .i64 ((s' + 1) + 1)) := fun x => (half_at (N8.out.below (HF.out x))).2.2.2
                  refine wp_region_cls f (by kernel_rfl) (by kernel_rfl) (HI.out _ (Below.refl _ _).drew) ?_
                  repeat (go_big_quiet_step ((first | (go_at_call 13; with_reducible exact c0.out _))))
                  refine wpQuiet_nil ?_
                  rintro _ ⟨x, rfl⟩
                  have b9 := HF.out x
                  clear HF HI hne c0 k0 k1 k2 k3 q0 q1 q2 q3
                  generalize f x = w9 at b9 ⊢
                  clear x f S
                  have K9 := Lib.hid (K8.out.on b9)
                  have B9 := Lib.hid (next B8.out b9)
                  have bb9 := b9
                  clear b9 K8
                  obtain ⟨⟨⟨k0, k1⟩, -⟩, ⟨k2, k3⟩, -⟩ := K9.out
                  have M9 := Lib.hid (M8.out.below bb9)
                  have N9 := Lib.hid (N8.out.below bb9)
                  clear M8 N8 bb9
                  go_wp2
                  go_roundw
                  case rel => exact ⟨2, by omega, rfl, K9.out, M9.out, N9.out, B9.out⟩
                  case measure => simp [intOf]
                · obtain ⟨p0, p1, p2, p3⟩ := half_at M8.out
                  obtain ⟨S, f, hne, HF, HI⟩ := cls_more wr
                  have c0 := Lib.hid (fun x => cls_call (x := x) HI (fun w' k => next (HF.out x) k) ((HoldsNet_any b s b' (s' + 1) (f x)).mono fun _ _ ⟨he, hb⟩ => ⟨by rw [he, HY.out], hb⟩))
                  go_wp2
                  clear k0 k1 k2 k3 p0 p1 p2 p3
                  have k0 : ∀ x, (f x).cell? ⟨w1.heap.size, 0, none⟩ = some (.int .i64 b) := fun x => (K8.out.on (HF.out x)).1.1.1
                  have k1 : ∀ x, (f x).cell? ⟨w1.heap.size, 1, none⟩ = some (.int .i64 s) := fun x => (K8.out.on (HF.out x)).1.1.2
                  have k2 : ∀ x, (f x).cell? ⟨w1.heap.size + 1, 0, none⟩ = some (.int .i64 b') := fun x => (K8.out.on (HF.out x)).2.1.1
                  have k3 : ∀ x, (f x).cell? ⟨w1.heap.size + 1, 1, none⟩ = some (.int .i64 s') := fun x => (K8.out.on (HF.out x)).2.1.2
                  have p0 : ∀ x, (f x).cell? ⟨g, 0, none⟩ = some (.int .i64 b') := fun x => (half_at (M8.out.below (HF.out x))).1
                  have p1 : ∀ x, (f x).cell? ⟨g, 1, none⟩ = some (.int .i64 (s' + 1)) := fun x => (half_at (M8.out.below (HF.out x))).2.1
                  have p2 : ∀ x, (f x).cell? ⟨g, 2, none⟩ = some (.int .i64 (b' + szN s' / 2)) := fun x => (half_at (M8.out.below (HF.out x))).2.2.1
                  have p3 : ∀ x, (f x).cell? ⟨g, 3, none⟩ = some (.int .i64 (s' + 1)) := fun x => (half_at (M8.out.below (HF.out x))).2.2.2
                  refine wp_region_cls f (by kernel_rfl) (by kernel_rfl) (HI.out _ (Below.refl _ _).drew) ?_
                  repeat (go_big_quiet_step ((first | (go_at_call 13; with_reducible exact c0.out _))))
                  refine wpQuiet_nil ?_
                  rintro _ ⟨x, rfl⟩
                  have b9 := HF.out x
                  clear HF HI hne c0 k0 k1 k2 k3 p0 p1 p2 p3
                  generalize f x = w9 at b9 ⊢
                  clear x f S
                  have K9 := Lib.hid (K8.out.on b9)
                  have B9 := Lib.hid (next B8.out b9)
                  have bb9 := b9
                  clear b9 K8
                  obtain ⟨⟨⟨k0, k1⟩, -⟩, ⟨k2, k3⟩, -⟩ := K9.out
                  have M9 := Lib.hid (M8.out.below bb9)
                  clear M8 N8 bb9
                  go_wp2
                  go_roundw
                  case rel => exact ⟨1, by omega, rfl, K9.out, M9.out, B9.out⟩
                  case measure => simp [intOf]
          · clear hk
            have HX := Lib.hid (half_v2 HW'.out HS.out)
            have HY := Lib.hid (holds_trans HV.out (half_h2 HW'.out HS.out))
            cases ht : twoN (b' + szN s' / 2) (s' + 1)
            · have HU := Lib.hid ht
              clear ht
              go_wp2_with fail
              refine (SplitNet_no (b' + szN s' / 2) (s' + 1) _ HU.out).mono ?_
              rintro e w7 ⟨rfl, b7⟩
              have K7 := Lib.hid (K6.out.on b7)
              have M7 := Lib.hid (M6.out.below b7)
              have B7 := Lib.hid (next B6.out b7)
              clear b7 K6 M6 B6 p0 p1 p2 p3 k0 k1 k2 k3
              go_wp2_with fail
              go_loopw [9] (fun j wi => j = .int .i64 0 ∧ Boxes wi w1.heap.size b s b' s' ∧ Mine wi w3.heap.size 2 (some ⟨g, 0, none⟩) 2 2 (halvesN b' s') ∧ Below w.heap.size w wi) (fun _ _ => 0)
              case atStart => exact ⟨rfl, K7.out, M7.out, B7.out⟩
              case round =>
                obtain ⟨rfl, hK, hM, hB⟩ := hrel
                have K8 := Lib.hid hK
                have M8 := Lib.hid hM
                have B8 := Lib.hid hB
                clear hK hM hB K7 M7
                obtain ⟨⟨⟨k0, k1⟩, -⟩, ⟨k2, k3⟩, -⟩ := K8.out
                obtain ⟨p0, p1, p2, p3⟩ := half_at M8.out
                obtain ⟨S, f, hne, HF, HI⟩ := cls_more wr
                have c0 := Lib.hid (fun x => cls_call (x := x) HI (fun w' k => next (HF.out x) k) ((HoldsNet_any b s (b' + szN s' / 2) (s' + 1) (f x)).mono fun _ _ ⟨he, hb⟩ => ⟨by rw [he, HY.out], hb⟩))
                go_wp2
                clear k0 k1 k2 k3 p0 p1 p2 p3
                have k0 : ∀ x, (f x).cell? ⟨w1.heap.size, 0, none⟩ = some (.int .i64 b) := fun x => (K8.out.on (HF.out x)).1.1.1
                have k1 : ∀ x, (f x).cell? ⟨w1.heap.size, 1, none⟩ = some (.int .i64 s) := fun x => (K8.out.on (HF.out x)).1.1.2
                have k2 : ∀ x, (f x).cell? ⟨w1.heap.size + 1, 0, none⟩ = some (.int .i64 b') := fun x => (K8.out.on (HF.out x)).2.1.1
                have k3 : ∀ x, (f x).cell? ⟨w1.heap.size + 1, 1, none⟩ = some (.int .i64 s') := fun x => (K8.out.on (HF.out x)).2.1.2
                have p0 : ∀ x, (f x).cell? ⟨g, 0, none⟩ = some (.int .i64 b') := fun x => (half_at (M8.out.below (HF.out x))).1
                have p1 : ∀ x, (f x).cell? ⟨g, 1, none⟩ = some (.int .i64 (s' + 1)) := fun x => (half_at (M8.out.below (HF.out x))).2.1
                have p2 : ∀ x, (f x).cell? ⟨g, 2, none⟩ = some (.int .i64 (b' + szN s' / 2)) := fun x => (half_at (M8.out.below (HF.out x))).2.2.1
                have p3 : ∀ x, (f x).cell? ⟨g, 3, none⟩ = some (.int .i64 (s' + 1)) := fun x => (half_at (M8.out.below (HF.out x))).2.2.2
                refine wp_region_cls f (by kernel_rfl) (by kernel_rfl) (HI.out _ (Below.refl _ _).drew) ?_
                repeat (go_big_quiet_step ((first | (go_at_call 13; with_reducible exact c0.out _))))
                refine wpQuiet_nil ?_
                rintro _ ⟨x, rfl⟩
                have b9 := HF.out x
                clear HF HI hne c0 k0 k1 k2 k3 p0 p1 p2 p3
                generalize f x = w9 at b9 ⊢
                clear x f S
                have K9 := Lib.hid (K8.out.on b9)
                have B9 := Lib.hid (next B8.out b9)
                have bb9 := b9
                clear b9 K8
                obtain ⟨⟨⟨k0, k1⟩, -⟩, ⟨k2, k3⟩, -⟩ := K9.out
                have M9 := Lib.hid (M8.out.below bb9)
                clear M8 bb9
                go_wp2
                go_roundw
                case rel => exact ⟨2, by omega, rfl, K9.out, M9.out, B9.out⟩
                case measure => simp [intOf]
            · have HU := Lib.hid ht
              clear ht
              have HZ := Lib.hid (twoN_lt HU.out).2
              go_wp2_with fail
              refine (SplitNet_yes (b' + szN s' / 2) (s' + 1) _ HU.out).mono ?_
              rintro e w7 ⟨g2, rfl, n7, b7⟩
              have K7 := Lib.hid (K6.out.on b7)
              have M7 := Lib.hid (M6.out.below b7)
              have N7 := Lib.hid n7
              have B7 := Lib.hid (next B6.out b7)
              clear b7 n7 K6 M6 B6 p0 p1 p2 p3 k0 k1 k2 k3
              go_wp2_with fail
              go_loopw [9] (fun j wi => ∃ l : Nat, l ≤ 2 ∧ j = .int .i64 l ∧ Boxes wi w1.heap.size b s b' s' ∧ Mine wi w3.heap.size 2 (some ⟨g, 0, none⟩) 2 2 (halvesN b' s') ∧ Mine wi wo.heap.size 2 (some ⟨g2, 0, none⟩) 2 2 (halvesN (b' + szN s' / 2) (s' + 1)) ∧ Below w.heap.size w wi) (fun j _ => 2 - (intOf j).toNat)
              case atStart => exact ⟨0, Nat.zero_le _, rfl, K7.out, M7.out, N7.out, B7.out⟩
              case round =>
                obtain ⟨l, hl', rfl, hK, hM, hN, hB⟩ := hrel
                have K8 := Lib.hid hK
                have M8 := Lib.hid hM
                have N8 := Lib.hid hN
                have B8 := Lib.hid hB
                clear hK hM hN hB K7 M7 N7
                obtain ⟨⟨⟨k0, k1⟩, -⟩, ⟨k2, k3⟩, -⟩ := K8.out
                obtain rfl | rfl | rfl : l = 0 ∨ l = 1 ∨ l = 2 := by omega
                · clear hl'
                  obtain ⟨q0, q1, q2, q3⟩ := half_at N8.out
                  obtain ⟨S, f, hne, HF, HI⟩ := cls_more wr
                  have c0 := Lib.hid (fun x => cls_call (x := x) HI (fun w' k => next (HF.out x) k) ((HoldsNet_any b s (b' + szN s' / 2) (s' + 1 + 1) (f x)).mono fun _ _ ⟨he, hb⟩ => ⟨by rw [he, holds_trans HY.out (half_h1 HX.out HZ.out)], hb⟩))
                  go_wp2
                  clear k0 k1 k2 k3 q0 q1 q2 q3
                  have k0 : ∀ x, (f x).cell? ⟨w1.heap.size, 0, none⟩ = some (.int .i64 b) := fun x => (K8.out.on (HF.out x)).1.1.1
                  have k1 : ∀ x, (f x).cell? ⟨w1.heap.size, 1, none⟩ = some (.int .i64 s) := fun x => (K8.out.on (HF.out x)).1.1.2
                  have k2 : ∀ x, (f x).cell? ⟨w1.heap.size + 1, 0, none⟩ = some (.int .i64 b') := fun x => (K8.out.on (HF.out x)).2.1.1
                  have k3 : ∀ x, (f x).cell? ⟨w1.heap.size + 1, 1, none⟩ = some (.int .i64 s') := fun x => (K8.out.on (HF.out x)).2.1.2
                  have q0 : ∀ x, (f x).cell? ⟨g2, 0, none⟩ = some (.int .i64 (b' + szN s' / 2)) := fun x => (half_at (N8.out.below (HF.out x))).1
                  have q1 : ∀ x, (f x).cell? ⟨g2, 1, none⟩ = some (.int .i64 ((s' + 1) + 1)) := fun x => (half_at (N8.out.below (HF.out x))).2.1
                  have q2 : ∀ x, (f x).cell? ⟨g2, 2, none⟩ = some (.int .i64 ((b' + szN s' / 2) + szN (s' + 1) / 2)) := fun x => (half_at (N8.out.below (HF.out x))).2.2.1
                  have q3 : ∀ x, (f x).cell? ⟨g2, 3, none⟩ = some (.int .i64 ((s' + 1) + 1)) := fun x => (half_at (N8.out.below (HF.out x))).2.2.2
                  refine wp_region_cls f (by kernel_rfl) (by kernel_rfl) (HI.out _ (Below.refl _ _).drew) ?_
                  repeat (go_big_quiet_step ((first | (go_at_call 13; with_reducible exact c0.out _))))
                  refine wpQuiet_nil ?_
                  rintro _ ⟨x, rfl⟩
                  have b9 := HF.out x
                  clear HF HI hne c0 k0 k1 k2 k3 q0 q1 q2 q3
                  generalize f x = w9 at b9 ⊢
                  clear x f S
                  have K9 := Lib.hid (K8.out.on b9)
                  have B9 := Lib.hid (next B8.out b9)
                  have bb9 := b9
                  clear b9 K8
                  obtain ⟨⟨⟨k0, k1⟩, -⟩, ⟨k2, k3⟩, -⟩ := K9.out
                  have M9 := Lib.hid (M8.out.below bb9)
                  have N9 := Lib.hid (N8.out.below bb9)
                  clear M8 N8 bb9
                  go_wp2
                  go_roundw
                  case rel => exact ⟨1, by omega, rfl, K9.out, M9.out, N9.out, B9.out⟩
                  case measure => simp [intOf]
                · clear hl'
                  obtain ⟨q0, q1, q2, q3⟩ := half_at N8.out
                  obtain ⟨S, f, hne, HF, HI⟩ := cls_more wr
                  have c0 := Lib.hid (fun x => cls_call (x := x) HI (fun w' k => next (HF.out x) k) ((HoldsNet_any b s ((b' + szN s' / 2) + szN (s' + 1) / 2) (s' + 1 + 1) (f x)).mono fun _ _ ⟨he, hb⟩ => ⟨by rw [he, holds_trans HY.out (half_h2 HX.out HZ.out)], hb⟩))
                  go_wp2
                  clear k0 k1 k2 k3 q0 q1 q2 q3
                  have k0 : ∀ x, (f x).cell? ⟨w1.heap.size, 0, none⟩ = some (.int .i64 b) := fun x => (K8.out.on (HF.out x)).1.1.1
                  have k1 : ∀ x, (f x).cell? ⟨w1.heap.size, 1, none⟩ = some (.int .i64 s) := fun x => (K8.out.on (HF.out x)).1.1.2
                  have k2 : ∀ x, (f x).cell? ⟨w1.heap.size + 1, 0, none⟩ = some (.int .i64 b') := fun x => (K8.out.on (HF.out x)).2.1.1
                  have k3 : ∀ x, (f x).cell? ⟨w1.heap.size + 1, 1, none⟩ = some (.int .i64 s') := fun x => (K8.out.on (HF.out x)).2.1.2
                  have q0 : ∀ x, (f x).cell? ⟨g2, 0, none⟩ = some (.int .i64 (b' + szN s' / 2)) := fun x => (half_at (N8.out.below (HF.out x))).1
                  have q1 : ∀ x, (f x).cell? ⟨g2, 1, none⟩ = some (.int .i64 ((s' + 1) + 1)) := fun x => (half_at (N8.out.below (HF.out x))).2.1
                  have q2 : ∀ x, (f x).cell? ⟨g2, 2, none⟩ = some (.int .i64 ((b' + szN s' / 2) + szN (s' + 1) / 2)) := fun x => (half_at (N8.out.below (HF.out x))).2.2.1
                  have q3 : ∀ x, (f x).cell? ⟨g2, 3, none⟩ = some (.int .i64 ((s' + 1) + 1)) := fun x => (half_at (N8.out.below (HF.out x))).2.2.2
                  refine wp_region_cls f (by kernel_rfl) (by kernel_rfl) (HI.out _ (Below.refl _ _).drew) ?_
                  repeat (go_big_quiet_step ((first | (go_at_call 13; with_reducible exact c0.out _))))
                  refine wpQuiet_nil ?_
                  rintro _ ⟨x, rfl⟩
                  have b9 := HF.out x
                  clear HF HI hne c0 k0 k1 k2 k3 q0 q1 q2 q3
                  generalize f x = w9 at b9 ⊢
                  clear x f S
                  have K9 := Lib.hid (K8.out.on b9)
                  have B9 := Lib.hid (next B8.out b9)
                  have bb9 := b9
                  clear b9 K8
                  obtain ⟨⟨⟨k0, k1⟩, -⟩, ⟨k2, k3⟩, -⟩ := K9.out
                  have M9 := Lib.hid (M8.out.below bb9)
                  have N9 := Lib.hid (N8.out.below bb9)
                  clear M8 N8 bb9
                  go_wp2
                  go_roundw
                  case rel => exact ⟨2, by omega, rfl, K9.out, M9.out, N9.out, B9.out⟩
                  case measure => simp [intOf]
                · obtain ⟨p0, p1, p2, p3⟩ := half_at M8.out
                  obtain ⟨S, f, hne, HF, HI⟩ := cls_more wr
                  have c0 := Lib.hid (fun x => cls_call (x := x) HI (fun w' k => next (HF.out x) k) ((HoldsNet_any b s (b' + szN s' / 2) (s' + 1) (f x)).mono fun _ _ ⟨he, hb⟩ => ⟨by rw [he, HY.out], hb⟩))
                  go_wp2
                  clear k0 k1 k2 k3 p0 p1 p2 p3
                  have k0 : ∀ x, (f x).cell? ⟨w1.heap.size, 0, none⟩ = some (.int .i64 b) := fun x => (K8.out.on (HF.out x)).1.1.1
                  have k1 : ∀ x, (f x).cell? ⟨w1.heap.size, 1, none⟩ = some (.int .i64 s) := fun x => (K8.out.on (HF.out x)).1.1.2
                  have k2 : ∀ x, (f x).cell? ⟨w1.heap.size + 1, 0, none⟩ = some (.int .i64 b') := fun x => (K8.out.on (HF.out x)).2.1.1
                  have k3 : ∀ x, (f x).cell? ⟨w1.heap.size + 1, 1, none⟩ = some (.int .i64 s') := fun x => (K8.out.on (HF.out x)).2.1.2
                  have p0 : ∀ x, (f x).cell? ⟨g, 0, none⟩ = some (.int .i64 b') := fun x => (half_at (M8.out.below (HF.out x))).1
                  have p1 : ∀ x, (f x).cell? ⟨g, 1, none⟩ = some (.int .i64 (s' + 1)) := fun x => (half_at (M8.out.below (HF.out x))).2.1
                  have p2 : ∀ x, (f x).cell? ⟨g, 2, none⟩ = some (.int .i64 (b' + szN s' / 2)) := fun x => (half_at (M8.out.below (HF.out x))).2.2.1
                  have p3 : ∀ x, (f x).cell? ⟨g, 3, none⟩ = some (.int .i64 (s' + 1)) := fun x => (half_at (M8.out.below (HF.out x))).2.2.2
                  refine wp_region_cls f (by kernel_rfl) (by kernel_rfl) (HI.out _ (Below.refl _ _).drew) ?_
                  repeat (go_big_quiet_step ((first | (go_at_call 13; with_reducible exact c0.out _))))
                  refine wpQuiet_nil ?_
                  rintro _ ⟨x, rfl⟩
                  have b9 := HF.out x
                  clear HF HI hne c0 k0 k1 k2 k3 p0 p1 p2 p3
                  generalize f x = w9 at b9 ⊢
                  clear x f S
                  have K9 := Lib.hid (K8.out.on b9)
                  have B9 := Lib.hid (next B8.out b9)
                  have bb9 := b9
                  clear b9 K8
                  obtain ⟨⟨⟨k0, k1⟩, -⟩, ⟨k2, k3⟩, -⟩ := K9.out
                  have M9 := Lib.hid (M8.out.below bb9)
                  clear M8 N8 bb9
                  go_wp2
                  go_roundw
                  case rel => exact ⟨2, by omega, rfl, K9.out, M9.out, B9.out⟩
                  case measure => simp [intOf]
          · go_wp2
            go_ret
            exact ⟨rfl, B6.out⟩
  · go_enter Try.func7, Try.ntmps7
    go_wp2
    go_ret
    exact ⟨rfl, Below.refl _ _⟩

set_option maxRecDepth 100000 in
theorem lifted (os : Os) (started : os.Started) (H : Type) (enc : TypeId × Value → H) :
    ReturnsInHanded {} Try.checked os 7 .any (Rows.fnHoldsNetThreeSpec.pre6 enc Try.prog Try.f7 Rows.fnHoldsNetThreeRow.domain false) (Rows.fnHoldsNetThreeSpec.post enc Try.prog Try.f7 false true false false) := by
  refine returnsInHanded_of_change (C := Try.checked) own started (by kernel_rfl) Try.func7
    (ChangeSpec.witness6 (enc := enc) (C := Try.checked) false ⟨#[], #[.slice none 0 0], []⟩ 8 (by kernel_rfl) (by kernel_rfl) (by kernel_rfl) (by kernel_rfl)) ?_
  intro W base args ds gs before hval0 hW hcnd _
  have hval : ∀ (j : Nat) t v, Try.f7.params[j]? = some t → args[j]? = some v → Value.okWide Try.prog W .any base t v := hval0
  have hW' := hW
  obtain ⟨p, q, hA0, hV, rfl, hfz, hnd⟩ := hW
  have hA : DataW.TrodAll enc Try.prog W 0 (fun _ => true) true Try.f7.params.toList args.toList ds p := hA0
  rw [Try.params7] at hA hval
  obtain ⟨v0, vs0, d0, ds0, p0, q0, hargs, rfl, rfl, h0, r0⟩ := trodAll_cons hA
  obtain ⟨rfl, rfl, rfl⟩ := trodAll_nil r0
  obtain rfl : args = #[v0] := by cases args; simp_all
  obtain ⟨rfl, rfl⟩ := trodVars_none hV
  have k0 := h0
  have lt0 : ∀ x ∈ p0, x.block < W.heap.size := by obtain ⟨m, hm⟩ := k0; exact DataW.trod_lt m _ _ _ hm
  obtain ⟨a0, len0, cap0, rfl⟩ := okWide_slice Try.underlying22 (hval 0 22 v0 rfl rfl)
  obtain ⟨w0, lc0, cm0⟩ : Bytes W a0 len0 ∧ len0 ≤ cap0 ∧ cap0 ≤ 9223372036854775807 := by
    obtain ⟨fuel, hf⟩ := h0
    rcases open_ints Try.underlying22 Try.underlying5 (by kernel_rfl) hf with ⟨hcs, _⟩ | ⟨x, l, c, zs, hcs, _, hl, hm, hz, _, hcell, hwz⟩
    · simp [Value.cells] at hcs
      obtain ⟨rfl, rfl, rfl⟩ := hcs
      exact ⟨fun h => absurd h (by omega), by omega, by omega⟩
    · simp [Value.cells] at hcs
      obtain ⟨rfl, rfl, rfl⟩ := hcs
      have hz' : zs.length = cap0 := by simpa using hz
      exact ⟨bytes_of (by omega) hcell hwz, hl, hm⟩
  clear hA0 hval0
  refine (walk a0 len0 cap0 W w0 lc0 cm0).mono fun e W' ⟨he, bel⟩ => ?_
  subst he
  exact ⟨_, rfl, _, _, _, [], _, [], hW', trodAll_mk1 (shut_bool Try.underlying4 _), (trodAll_cons_mk (Below.trod laidOut (by kernel_rfl) (of_decide_eq_true (by kernel_rfl)) k0 bel lt0) trodAll_mk0), rfl, bel.frame _, fun h => by cases h⟩

theorem over : Rows.fnHoldsNetThreeRow.holds Try.pinned (OpenSpec.ofChange Rows.fnHoldsNetThreeSpec) :=
  OpenClaim.holds_of_wide 7 Try.f7 rfl rfl rfl rfl rfl rfl rfl ⟨rfl, rfl, rfl, rfl, rfl⟩ rfl rfl rfl rfl rfl (by kernel_rfl) Try.func7 (by kernel_rfl)
    (of_decide_eq_true (by kernel_rfl)) (by unfold Func.isWrapper; first | (rw [if_pos (by decide +kernel)]; kernel_rfl) | (rw [if_neg (by decide +kernel)]; exact ⟨rfl, rfl⟩))
    (fun os started H enc _ => lifted os started H enc)

theorem proved : Rows.FnHoldsNetThreeSaid := over
#print axioms proved
end Go.Proofs.Ytmaecadflilbgaa.fnHoldsNetThree
