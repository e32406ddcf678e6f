/-
  'FnHoldsNetIn': for every input the law returns true, and each argument reads afterwards as it read before. No condition.
  The frame of the row's step follows the kit's skeleton; the walk is ours.
-/
import Derived.Test.YtmaecadflilbgaaLawKit
import Derived.Test.YtmaecadflilbgaaDrawNet5
import Derived.Test.YtmaecadflilbgaaPlainNet3
import Derived.Test.YtmaecadflilbgaaNet3
import Derived.Test.YtmaecadflilbgaaNetH
namespace Go.Proofs.Ytmaecadflilbgaa.fnHoldsNetIn
open Go.ChangeShapes Go.WideShapes Go.ChangeAt Go.RowKit
set_option linter.unusedVariables false

set_option maxHeartbeats 1600000 in
theorem walk (a : Option Addr) (n c : Nat) (w : World) (w0 : Bytes w a n) (hnc : n ≤ c) (hc : c ≤ 9223372036854775807) :
    Calls Try.prog 3 #[.slice a n c] w fun e w' => e = .returned (.bool true) ∧ Below w.heap.size w w' := by
  by_cases hl : n ≤ 1048576
  · go_enter Try.func3, Try.ntmps3
    go_wp2_with fail
    refine (DrawHoldsNet_any a n c _ w0 hnc hc).mono ?_
    rintro e w1 ⟨b, s, b', s', rfl, b1⟩
    have K1 := Lib.hid (Boxes.new_at w1 w1.heap.size rfl 24 24 b s b' s')
    have B1 := Lib.hid ((b1.alloc b1.size (.cells #[.int .i64 b, .int .i64 s] 24)).alloc (by have := b1.size; simp; omega) (.cells #[.int .i64 b', .int .i64 s'] 24))
    clear w0 hnc hc b1
    go_wp2_with fail
    refine (HoldsNet_any b s b' s' _).mono ?_
    rintro e w2 ⟨rfl, b2⟩
    have K2 := Lib.hid (K1.out.on b2)
    have B2 := Lib.hid (next B1.out b2)
    clear b2 K1
    obtain ⟨⟨⟨k0, k1⟩, -⟩, ⟨k2, k3⟩, -⟩ := K2.out
    go_wp2_with fail
    refine (specHoldsNet_any b s b' s' _).mono ?_
    rintro e w3 ⟨rfl, b3⟩
    have K3 := Lib.hid (K2.out.on b3)
    have B3 := Lib.hid (next B2.out b3)
    clear b3 K2 k0 k1 k2 k3
    obtain ⟨⟨⟨k0, k1⟩, -⟩, ⟨k2, k3⟩, -⟩ := K3.out
    go_wp2_with fail
    refine (ValidNet_any b s _).mono ?_
    rintro e w4 ⟨rfl, b4⟩
    have K4 := Lib.hid (K3.out.on b4)
    have B4 := Lib.hid (next B3.out b4)
    clear b4 K3 k0 k1 k2 k3
    obtain ⟨⟨⟨k0, k1⟩, -⟩, ⟨k2, k3⟩, -⟩ := K4.out
    cases hv : vN b s
    · have HV := Lib.hid (holdsN_no1 (b' := b') (s' := s') hv)
      clear hv
      go_wp2_with fail
      refine (specHoldsNet_any b s b' s' _).mono ?_
      rintro e w5 ⟨rfl, b5⟩
      have K5 := Lib.hid (K4.out.on b5)
      have B5 := Lib.hid (next B4.out b5)
      rw [HV.out]
      clear b5 K4 k0 k1 k2 k3
      obtain ⟨⟨⟨k0, k1⟩, -⟩, ⟨k2, k3⟩, -⟩ := K5.out
      go_wp2
      go_ret
      exact ⟨rfl, B5.out⟩
    · have HV := Lib.hid hv
      clear hv
      go_wp2_with fail
      refine (ValidNet_any b' s' _).mono ?_
      rintro e w5 ⟨rfl, b5⟩
      have K5 := Lib.hid (K4.out.on b5)
      have B5 := Lib.hid (next B4.out b5)
      clear b5 K4 k0 k1 k2 k3
      obtain ⟨⟨⟨k0, k1⟩, -⟩, ⟨k2, k3⟩, -⟩ := K5.out
      cases hv : vN b' s'
      · have HV := Lib.hid (holdsN_no2 (b := b) (s := s) hv)
        clear hv
        go_wp2_with fail
        refine (specHoldsNet_any b s b' s' _).mono ?_
        rintro e w6 ⟨rfl, b6⟩
        have K6 := Lib.hid (K5.out.on b6)
        have B6 := Lib.hid (next B5.out b6)
        rw [HV.out]
        clear b6 K5 k0 k1 k2 k3
        obtain ⟨⟨⟨k0, k1⟩, -⟩, ⟨k2, k3⟩, -⟩ := K6.out
        go_wp2
        go_ret
        exact ⟨rfl, B6.out⟩
      · have HA := Lib.hid (holds_in HV.out hv)
        have HC := Lib.hid (holds_both HV.out hv)
        clear hv
        have heq := fun w => run_eql_net w b s b' s'
        cases hi : inN b s b'
        · have HI' := Lib.hid hi
          clear hi
          by_cases hle : s ≤ s'
          · have HH := Lib.hid (show holdsN b s b' s' = false by rw [HA.out, HI'.out]; simp [hle])
            rw [HH.out]
            cases hh : holdsN b' s' b s
            · have HG := Lib.hid hh
              clear hh
              obtain ⟨S, f, hne, HF, HI⟩ := cls_more w5
              have c0 := Lib.hid (fun x => cls_call (x := x) HI (fun w' k => next (HF.out x) k) ((InNet_any b s b' (f x)).mono fun _ _ ⟨he, hb⟩ => ⟨by rw [he, HI'.out], hb⟩))
              have c1 := Lib.hid (fun x => cls_call (x := x) HI (fun w' k => next (HF.out x) k) ((HoldsNet_any b' s' b s (f x)).mono fun _ _ ⟨he, hb⟩ => ⟨by rw [he, HG.out], hb⟩))
              go_wp2
              clear k0 k1 k2 k3
              have k0 : ∀ x, (f x).cell? ⟨w1.heap.size, 0, none⟩ = some (.int .i64 b) := fun x => (K5.out.on (HF.out x)).1.1.1
              have k1 : ∀ x, (f x).cell? ⟨w1.heap.size, 1, none⟩ = some (.int .i64 s) := fun x => (K5.out.on (HF.out x)).1.1.2
              have k2 : ∀ x, (f x).cell? ⟨w1.heap.size + 1, 0, none⟩ = some (.int .i64 b') := fun x => (K5.out.on (HF.out x)).2.1.1
              have k3 : ∀ x, (f x).cell? ⟨w1.heap.size + 1, 1, none⟩ = some (.int .i64 s') := fun x => (K5.out.on (HF.out x)).2.1.2
              refine wp_region_cls f (by kernel_rfl) (by kernel_rfl) (HI.out _ (Below.refl _ _).drew) ?_
              repeat (go_big_quiet_step ((first | (go_at_call 16; exact c0.out _) | (go_at_call 13; exact c1.out _))))
              refine wpQuiet_nil ?_
              rintro _ ⟨x, rfl⟩
              have b6 := HF.out x
              clear HF HI hne c0 c1 k0 k1 k2 k3
              generalize f x = w6 at b6 ⊢
              clear x f S
              have K6 := Lib.hid (K5.out.on b6)
              have B6 := Lib.hid (next B5.out b6)
              clear b6 K5
              obtain ⟨⟨⟨k0, k1⟩, -⟩, ⟨k2, k3⟩, -⟩ := K6.out
              go_wp2
              go_ret
              exact ⟨ret_bool (by have h := HC.out; rw [HG.out, HH.out] at h; revert h; by_cases q1 : b = b' <;> by_cases q2 : s = s' <;> simp [q1, q2]), B6.out⟩
            · have HG := Lib.hid hh
              clear hh
              obtain ⟨S, f, hne, HF, HI⟩ := cls_more w5
              have c0 := Lib.hid (fun x => cls_call (x := x) HI (fun w' k => next (HF.out x) k) ((InNet_any b s b' (f x)).mono fun _ _ ⟨he, hb⟩ => ⟨by rw [he, HI'.out], hb⟩))
              have c1 := Lib.hid (fun x => cls_call (x := x) HI (fun w' k => next (HF.out x) k) ((HoldsNet_any b' s' b s (f x)).mono fun _ _ ⟨he, hb⟩ => ⟨by rw [he, HG.out], hb⟩))
              go_wp2
              clear k0 k1 k2 k3
              have k0 : ∀ x, (f x).cell? ⟨w1.heap.size, 0, none⟩ = some (.int .i64 b) := fun x => (K5.out.on (HF.out x)).1.1.1
              have k1 : ∀ x, (f x).cell? ⟨w1.heap.size, 1, none⟩ = some (.int .i64 s) := fun x => (K5.out.on (HF.out x)).1.1.2
              have k2 : ∀ x, (f x).cell? ⟨w1.heap.size + 1, 0, none⟩ = some (.int .i64 b') := fun x => (K5.out.on (HF.out x)).2.1.1
              have k3 : ∀ x, (f x).cell? ⟨w1.heap.size + 1, 1, none⟩ = some (.int .i64 s') := fun x => (K5.out.on (HF.out x)).2.1.2
              refine wp_region_cls f (by kernel_rfl) (by kernel_rfl) (HI.out _ (Below.refl _ _).drew) ?_
              repeat (go_big_quiet_step ((first | (go_at_call 16; exact c0.out _) | (go_at_call 13; exact c1.out _))))
              refine wpQuiet_nil ?_
              rintro _ ⟨x, rfl⟩
              have b6 := HF.out x
              clear HF HI hne c0 c1 k0 k1 k2 k3
              generalize f x = w6 at b6 ⊢
              clear x f S
              have K6 := Lib.hid (K5.out.on b6)
              have B6 := Lib.hid (next B5.out b6)
              clear b6 K5
              obtain ⟨⟨⟨k0, k1⟩, -⟩, ⟨k2, k3⟩, -⟩ := K6.out
              go_wp2
              go_ret
              exact ⟨ret_bool (by have h := HC.out; rw [HG.out, HH.out] at h; revert h; by_cases q1 : b = b' <;> by_cases q2 : s = s' <;> simp [q1, q2]), B6.out⟩
          · have HH := Lib.hid (show holdsN b s b' s' = false by rw [HA.out, HI'.out]; simp [hle])
            rw [HH.out]
            have hd : decide (s ≤ s') = false := by simpa using hle
            cases hh : holdsN b' s' b s
            · have HG := Lib.hid hh
              clear hh
              obtain ⟨S, f, hne, HF, HI⟩ := cls_more w5
              have c0 := Lib.hid (fun x => cls_call (x := x) HI (fun w' k => next (HF.out x) k) ((InNet_any b s b' (f x)).mono fun _ _ ⟨he, hb⟩ => ⟨by rw [he, HI'.out], hb⟩))
              have c1 := Lib.hid (fun x => cls_call (x := x) HI (fun w' k => next (HF.out x) k) ((HoldsNet_any b' s' b s (f x)).mono fun _ _ ⟨he, hb⟩ => ⟨by rw [he, HG.out], hb⟩))
              go_wp2
              clear k0 k1 k2 k3
              have k0 : ∀ x, (f x).cell? ⟨w1.heap.size, 0, none⟩ = some (.int .i64 b) := fun x => (K5.out.on (HF.out x)).1.1.1
              have k1 : ∀ x, (f x).cell? ⟨w1.heap.size, 1, none⟩ = some (.int .i64 s) := fun x => (K5.out.on (HF.out x)).1.1.2
              have k2 : ∀ x, (f x).cell? ⟨w1.heap.size + 1, 0, none⟩ = some (.int .i64 b') := fun x => (K5.out.on (HF.out x)).2.1.1
              have k3 : ∀ x, (f x).cell? ⟨w1.heap.size + 1, 1, none⟩ = some (.int .i64 s') := fun x => (K5.out.on (HF.out x)).2.1.2
              refine wp_region_cls f (by kernel_rfl) (by kernel_rfl) (HI.out _ (Below.refl _ _).drew) ?_
              repeat (go_big_quiet_step ((first | (go_at_call 16; exact c0.out _) | (go_at_call 13; exact c1.out _))))
              refine wpQuiet_nil ?_
              rintro _ ⟨x, rfl⟩
              have b6 := HF.out x
              clear HF HI hne c0 c1 k0 k1 k2 k3
              generalize f x = w6 at b6 ⊢
              clear x f S
              have K6 := Lib.hid (K5.out.on b6)
              have B6 := Lib.hid (next B5.out b6)
              clear b6 K5
              obtain ⟨⟨⟨k0, k1⟩, -⟩, ⟨k2, k3⟩, -⟩ := K6.out
              go_wp2
              go_ret
              exact ⟨ret_bool (by have h := HC.out; rw [HG.out, HH.out] at h; revert h; by_cases q1 : b = b' <;> by_cases q2 : s = s' <;> simp [q1, q2]), B6.out⟩
            · have HG := Lib.hid hh
              clear hh
              obtain ⟨S, f, hne, HF, HI⟩ := cls_more w5
              have c0 := Lib.hid (fun x => cls_call (x := x) HI (fun w' k => next (HF.out x) k) ((InNet_any b s b' (f x)).mono fun _ _ ⟨he, hb⟩ => ⟨by rw [he, HI'.out], hb⟩))
              have c1 := Lib.hid (fun x => cls_call (x := x) HI (fun w' k => next (HF.out x) k) ((HoldsNet_any b' s' b s (f x)).mono fun _ _ ⟨he, hb⟩ => ⟨by rw [he, HG.out], hb⟩))
              go_wp2
              clear k0 k1 k2 k3
              have k0 : ∀ x, (f x).cell? ⟨w1.heap.size, 0, none⟩ = some (.int .i64 b) := fun x => (K5.out.on (HF.out x)).1.1.1
              have k1 : ∀ x, (f x).cell? ⟨w1.heap.size, 1, none⟩ = some (.int .i64 s) := fun x => (K5.out.on (HF.out x)).1.1.2
              have k2 : ∀ x, (f x).cell? ⟨w1.heap.size + 1, 0, none⟩ = some (.int .i64 b') := fun x => (K5.out.on (HF.out x)).2.1.1
              have k3 : ∀ x, (f x).cell? ⟨w1.heap.size + 1, 1, none⟩ = some (.int .i64 s') := fun x => (K5.out.on (HF.out x)).2.1.2
              refine wp_region_cls f (by kernel_rfl) (by kernel_rfl) (HI.out _ (Below.refl _ _).drew) ?_
              repeat (go_big_quiet_step ((first | (go_at_call 16; exact c0.out _) | (go_at_call 13; exact c1.out _))))
              refine wpQuiet_nil ?_
              rintro _ ⟨x, rfl⟩
              have b6 := HF.out x
              clear HF HI hne c0 c1 k0 k1 k2 k3
              generalize f x = w6 at b6 ⊢
              clear x f S
              have K6 := Lib.hid (K5.out.on b6)
              have B6 := Lib.hid (next B5.out b6)
              clear b6 K5
              obtain ⟨⟨⟨k0, k1⟩, -⟩, ⟨k2, k3⟩, -⟩ := K6.out
              go_wp2
              go_ret
              exact ⟨ret_bool (by have h := HC.out; rw [HG.out, HH.out] at h; revert h; by_cases q1 : b = b' <;> by_cases q2 : s = s' <;> simp [q1, q2]), B6.out⟩
        · have HI' := Lib.hid hi
          clear hi
          by_cases hle : s ≤ s'
          · have HH := Lib.hid (show holdsN b s b' s' = true by rw [HA.out, HI'.out]; simp [hle])
            rw [HH.out]
            cases hh : holdsN b' s' b s
            · have HG := Lib.hid hh
              clear hh
              obtain ⟨S, f, hne, HF, HI⟩ := cls_more w5
              have c0 := Lib.hid (fun x => cls_call (x := x) HI (fun w' k => next (HF.out x) k) ((InNet_any b s b' (f x)).mono fun _ _ ⟨he, hb⟩ => ⟨by rw [he, HI'.out], hb⟩))
              have c1 := Lib.hid (fun x => cls_call (x := x) HI (fun w' k => next (HF.out x) k) ((HoldsNet_any b' s' b s (f x)).mono fun _ _ ⟨he, hb⟩ => ⟨by rw [he, HG.out], hb⟩))
              go_wp2
              clear k0 k1 k2 k3
              have k0 : ∀ x, (f x).cell? ⟨w1.heap.size, 0, none⟩ = some (.int .i64 b) := fun x => (K5.out.on (HF.out x)).1.1.1
              have k1 : ∀ x, (f x).cell? ⟨w1.heap.size, 1, none⟩ = some (.int .i64 s) := fun x => (K5.out.on (HF.out x)).1.1.2
              have k2 : ∀ x, (f x).cell? ⟨w1.heap.size + 1, 0, none⟩ = some (.int .i64 b') := fun x => (K5.out.on (HF.out x)).2.1.1
              have k3 : ∀ x, (f x).cell? ⟨w1.heap.size + 1, 1, none⟩ = some (.int .i64 s') := fun x => (K5.out.on (HF.out x)).2.1.2
              refine wp_region_cls f (by kernel_rfl) (by kernel_rfl) (HI.out _ (Below.refl _ _).drew) ?_
              repeat (go_big_quiet_step ((first | (go_at_call 16; exact c0.out _) | (go_at_call 13; exact c1.out _))))
              refine wpQuiet_nil ?_
              rintro _ ⟨x, rfl⟩
              have b6 := HF.out x
              clear HF HI hne c0 c1 k0 k1 k2 k3
              generalize f x = w6 at b6 ⊢
              clear x f S
              have K6 := Lib.hid (K5.out.on b6)
              have B6 := Lib.hid (next B5.out b6)
              clear b6 K5
              obtain ⟨⟨⟨k0, k1⟩, -⟩, ⟨k2, k3⟩, -⟩ := K6.out
              go_wp2
              go_ret
              exact ⟨ret_bool (by have h := HC.out; rw [HG.out, HH.out] at h; revert h; by_cases q1 : b = b' <;> by_cases q2 : s = s' <;> simp [q1, q2]), B6.out⟩
            · have HG := Lib.hid hh
              clear hh
              obtain ⟨S, f, hne, HF, HI⟩ := cls_more w5
              have c0 := Lib.hid (fun x => cls_call (x := x) HI (fun w' k => next (HF.out x) k) ((InNet_any b s b' (f x)).mono fun _ _ ⟨he, hb⟩ => ⟨by rw [he, HI'.out], hb⟩))
              have c1 := Lib.hid (fun x => cls_call (x := x) HI (fun w' k => next (HF.out x) k) ((HoldsNet_any b' s' b s (f x)).mono fun _ _ ⟨he, hb⟩ => ⟨by rw [he, HG.out], hb⟩))
              go_wp2
              clear k0 k1 k2 k3
              have k0 : ∀ x, (f x).cell? ⟨w1.heap.size, 0, none⟩ = some (.int .i64 b) := fun x => (K5.out.on (HF.out x)).1.1.1
              have k1 : ∀ x, (f x).cell? ⟨w1.heap.size, 1, none⟩ = some (.int .i64 s) := fun x => (K5.out.on (HF.out x)).1.1.2
              have k2 : ∀ x, (f x).cell? ⟨w1.heap.size + 1, 0, none⟩ = some (.int .i64 b') := fun x => (K5.out.on (HF.out x)).2.1.1
              have k3 : ∀ x, (f x).cell? ⟨w1.heap.size + 1, 1, none⟩ = some (.int .i64 s') := fun x => (K5.out.on (HF.out x)).2.1.2
              refine wp_region_cls f (by kernel_rfl) (by kernel_rfl) (HI.out _ (Below.refl _ _).drew) ?_
              repeat (go_big_quiet_step ((first | (go_at_call 16; exact c0.out _) | (go_at_call 13; exact c1.out _))))
              refine wpQuiet_nil ?_
              rintro _ ⟨x, rfl⟩
              have b6 := HF.out x
              clear HF HI hne c0 c1 k0 k1 k2 k3
              generalize f x = w6 at b6 ⊢
              clear x f S
              have K6 := Lib.hid (K5.out.on b6)
              have B6 := Lib.hid (next B5.out b6)
              clear b6 K5
              obtain ⟨⟨⟨k0, k1⟩, -⟩, ⟨k2, k3⟩, -⟩ := K6.out
              go_wp2
              go_ret
              exact ⟨ret_bool (by have h := HC.out; rw [HG.out, HH.out] at h; revert h; by_cases q1 : b = b' <;> by_cases q2 : s = s' <;> simp [q1, q2]), B6.out⟩
          · have HH := Lib.hid (show holdsN b s b' s' = false by rw [HA.out, HI'.out]; simp [hle])
            rw [HH.out]
            have hd : decide (s ≤ s') = false := by simpa using hle
            cases hh : holdsN b' s' b s
            · have HG := Lib.hid hh
              clear hh
              obtain ⟨S, f, hne, HF, HI⟩ := cls_more w5
              have c0 := Lib.hid (fun x => cls_call (x := x) HI (fun w' k => next (HF.out x) k) ((InNet_any b s b' (f x)).mono fun _ _ ⟨he, hb⟩ => ⟨by rw [he, HI'.out], hb⟩))
              have c1 := Lib.hid (fun x => cls_call (x := x) HI (fun w' k => next (HF.out x) k) ((HoldsNet_any b' s' b s (f x)).mono fun _ _ ⟨he, hb⟩ => ⟨by rw [he, HG.out], hb⟩))
              go_wp2
              clear k0 k1 k2 k3
              have k0 : ∀ x, (f x).cell? ⟨w1.heap.size, 0, none⟩ = some (.int .i64 b) := fun x => (K5.out.on (HF.out x)).1.1.1
              have k1 : ∀ x, (f x).cell? ⟨w1.heap.size, 1, none⟩ = some (.int .i64 s) := fun x => (K5.out.on (HF.out x)).1.1.2
              have k2 : ∀ x, (f x).cell? ⟨w1.heap.size + 1, 0, none⟩ = some (.int .i64 b') := fun x => (K5.out.on (HF.out x)).2.1.1
              have k3 : ∀ x, (f x).cell? ⟨w1.heap.size + 1, 1, none⟩ = some (.int .i64 s') := fun x => (K5.out.on (HF.out x)).2.1.2
              refine wp_region_cls f (by kernel_rfl) (by kernel_rfl) (HI.out _ (Below.refl _ _).drew) ?_
              repeat (go_big_quiet_step ((first | (go_at_call 16; exact c0.out _) | (go_at_call 13; exact c1.out _))))
              refine wpQuiet_nil ?_
              rintro _ ⟨x, rfl⟩
              have b6 := HF.out x
              clear HF HI hne c0 c1 k0 k1 k2 k3
              generalize f x = w6 at b6 ⊢
              clear x f S
              have K6 := Lib.hid (K5.out.on b6)
              have B6 := Lib.hid (next B5.out b6)
              clear b6 K5
              obtain ⟨⟨⟨k0, k1⟩, -⟩, ⟨k2, k3⟩, -⟩ := K6.out
              go_wp2
              go_ret
              exact ⟨ret_bool (by have h := HC.out; rw [HG.out, HH.out] at h; revert h; by_cases q1 : b = b' <;> by_cases q2 : s = s' <;> simp [q1, q2]), B6.out⟩
            · have HG := Lib.hid hh
              clear hh
              obtain ⟨S, f, hne, HF, HI⟩ := cls_more w5
              have c0 := Lib.hid (fun x => cls_call (x := x) HI (fun w' k => next (HF.out x) k) ((InNet_any b s b' (f x)).mono fun _ _ ⟨he, hb⟩ => ⟨by rw [he, HI'.out], hb⟩))
              have c1 := Lib.hid (fun x => cls_call (x := x) HI (fun w' k => next (HF.out x) k) ((HoldsNet_any b' s' b s (f x)).mono fun _ _ ⟨he, hb⟩ => ⟨by rw [he, HG.out], hb⟩))
              go_wp2
              clear k0 k1 k2 k3
              have k0 : ∀ x, (f x).cell? ⟨w1.heap.size, 0, none⟩ = some (.int .i64 b) := fun x => (K5.out.on (HF.out x)).1.1.1
              have k1 : ∀ x, (f x).cell? ⟨w1.heap.size, 1, none⟩ = some (.int .i64 s) := fun x => (K5.out.on (HF.out x)).1.1.2
              have k2 : ∀ x, (f x).cell? ⟨w1.heap.size + 1, 0, none⟩ = some (.int .i64 b') := fun x => (K5.out.on (HF.out x)).2.1.1
              have k3 : ∀ x, (f x).cell? ⟨w1.heap.size + 1, 1, none⟩ = some (.int .i64 s') := fun x => (K5.out.on (HF.out x)).2.1.2
              refine wp_region_cls f (by kernel_rfl) (by kernel_rfl) (HI.out _ (Below.refl _ _).drew) ?_
              repeat (go_big_quiet_step ((first | (go_at_call 16; exact c0.out _) | (go_at_call 13; exact c1.out _))))
              refine wpQuiet_nil ?_
              rintro _ ⟨x, rfl⟩
              have b6 := HF.out x
              clear HF HI hne c0 c1 k0 k1 k2 k3
              generalize f x = w6 at b6 ⊢
              clear x f S
              have K6 := Lib.hid (K5.out.on b6)
              have B6 := Lib.hid (next B5.out b6)
              clear b6 K5
              obtain ⟨⟨⟨k0, k1⟩, -⟩, ⟨k2, k3⟩, -⟩ := K6.out
              go_wp2
              go_ret
              exact ⟨ret_bool (by have h := HC.out; rw [HG.out, HH.out] at h; revert h; by_cases q1 : b = b' <;> by_cases q2 : s = s' <;> simp [q1, q2]), B6.out⟩
  · go_enter Try.func3, Try.ntmps3
    go_wp2
    go_ret
    exact ⟨rfl, Below.refl _ _⟩

set_option maxRecDepth 100000 in
theorem lifted (os : Os) (started : os.Started) (H : Type) (enc : TypeId × Value → H) :
    ReturnsInHanded {} Try.checked os 3 .any (Rows.fnHoldsNetInSpec.pre6 enc Try.prog Try.f3 Rows.fnHoldsNetInRow.domain false) (Rows.fnHoldsNetInSpec.post enc Try.prog Try.f3 false true false false) := by
  refine returnsInHanded_of_change (C := Try.checked) own started (by kernel_rfl) Try.func3
    (ChangeSpec.witness6 (enc := enc) (C := Try.checked) false ⟨#[], #[.slice none 0 0], []⟩ 8 (by kernel_rfl) (by kernel_rfl) (by kernel_rfl) (by kernel_rfl)) ?_
  intro W base args ds gs before hval0 hW hcnd _
  have hval : ∀ (j : Nat) t v, Try.f3.params[j]? = some t → args[j]? = some v → Value.okWide Try.prog W .any base t v := hval0
  have hW' := hW
  obtain ⟨p, q, hA0, hV, rfl, hfz, hnd⟩ := hW
  have hA : DataW.TrodAll enc Try.prog W 0 (fun _ => true) true Try.f3.params.toList args.toList ds p := hA0
  rw [Try.params3] at hA hval
  obtain ⟨v0, vs0, d0, ds0, p0, q0, hargs, rfl, rfl, h0, r0⟩ := trodAll_cons hA
  obtain ⟨rfl, rfl, rfl⟩ := trodAll_nil r0
  obtain rfl : args = #[v0] := by cases args; simp_all
  obtain ⟨rfl, rfl⟩ := trodVars_none hV
  have k0 := h0
  have lt0 : ∀ x ∈ p0, x.block < W.heap.size := by obtain ⟨m, hm⟩ := k0; exact DataW.trod_lt m _ _ _ hm
  obtain ⟨a0, len0, cap0, rfl⟩ := okWide_slice Try.underlying22 (hval 0 22 v0 rfl rfl)
  obtain ⟨w0, lc0, cm0⟩ : Bytes W a0 len0 ∧ len0 ≤ cap0 ∧ cap0 ≤ 9223372036854775807 := by
    obtain ⟨fuel, hf⟩ := h0
    rcases open_ints Try.underlying22 Try.underlying5 (by kernel_rfl) hf with ⟨hcs, _⟩ | ⟨x, l, c, zs, hcs, _, hl, hm, hz, _, hcell, hwz⟩
    · simp [Value.cells] at hcs
      obtain ⟨rfl, rfl, rfl⟩ := hcs
      exact ⟨fun h => absurd h (by omega), by omega, by omega⟩
    · simp [Value.cells] at hcs
      obtain ⟨rfl, rfl, rfl⟩ := hcs
      have hz' : zs.length = cap0 := by simpa using hz
      exact ⟨bytes_of (by omega) hcell hwz, hl, hm⟩
  clear hA0 hval0
  refine (walk a0 len0 cap0 W w0 lc0 cm0).mono fun e W' ⟨he, bel⟩ => ?_
  subst he
  exact ⟨_, rfl, _, _, _, [], _, [], hW', trodAll_mk1 (shut_bool Try.underlying4 _), (trodAll_cons_mk (Below.trod laidOut (by kernel_rfl) (of_decide_eq_true (by kernel_rfl)) k0 bel lt0) trodAll_mk0), rfl, bel.frame _, fun h => by cases h⟩

theorem over : Rows.fnHoldsNetInRow.holds Try.pinned (OpenSpec.ofChange Rows.fnHoldsNetInSpec) :=
  OpenClaim.holds_of_wide 3 Try.f3 rfl rfl rfl rfl rfl rfl rfl ⟨rfl, rfl, rfl, rfl, rfl⟩ rfl rfl rfl rfl rfl (by kernel_rfl) Try.func3 (by kernel_rfl)
    (of_decide_eq_true (by kernel_rfl)) (by unfold Func.isWrapper; first | (rw [if_pos (by decide +kernel)]; kernel_rfl) | (rw [if_neg (by decide +kernel)]; exact ⟨rfl, rfl⟩))
    (fun os started H enc _ => lifted os started H enc)

theorem proved : Rows.FnHoldsNetInSaid := over
#print axioms proved
end Go.Proofs.Ytmaecadflilbgaa.fnHoldsNetIn
