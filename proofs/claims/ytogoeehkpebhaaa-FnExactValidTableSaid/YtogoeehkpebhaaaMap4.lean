/-
  ValidTable of the program. (Written by genmap4.py.)
-/
import Derived.Test.YtogoeehkpebhaaaMap3
namespace Go.Proofs.Ytogoeehkpebhaaa
open Go.RowKit
attribute [local go_sem ↓] Go.wp_at_zero Go.wp_at_succ

set_option maxHeartbeats 3200000 in
theorem ValidTable_any (A : Option Addr) (n c : Nat) (L : List Mp) (w : World) (hn : L.length = n) (hnc : n ≤ c) (hm : c ≤ 9223372036854775807) (hr : MRow w w.heap.size A L) :
    Calls Try.prog 21 #[.slice A n c] w fun e w' => e = .returned (.bool (validM L)) ∧ Below w.heap.size w w' := by
  go_enter Try.func21, Try.ntmps21
  go_wp2
  go_loopw [7] (fun i wr => ∃ k : Nat, k ≤ n ∧ i = .int .i64 k ∧ Below w.heap.size w wr ∧ ∀ j, j < k → goodM L j = true) (fun i _ => n - (intOf i).toNat)
  case atStart => exact ⟨0, Nat.zero_le _, rfl, Below.refl _ _, fun j hj => absurd hj (by omega)⟩
  case round =>
    obtain ⟨k, hk, rfl, hB, hgood⟩ := hrel
    have BB := Lib.hid hB
    have GG := Lib.hid hgood
    have hr1 := Lib.hid ((Sees.below hr hB).more hB.size)
    clear hB hgood
    by_cases hlt : k < n
    · obtain ⟨b, o, rfl, hbl, hc⟩ := hr.get (by omega)
      obtain ⟨q0, q1, q2, q3⟩ := hc k (by omega)
      obtain ⟨⟨x, y, p, t⟩, hx⟩ : ∃ q, q = L.getD k (0, 0, 0, 0) := ⟨_, rfl⟩
      rw [← hx] at q0 q1 q2 q3
      have HX := Lib.hid hx
      have c0 := (BB.out.cell (p := ⟨b, o + k * 4, none⟩) hbl).trans q0
      have c1 := (BB.out.cell (p := ⟨b, o + k * 4 + 1, none⟩) hbl).trans q1
      have c2 := (BB.out.cell (p := ⟨b, o + k * 4 + 2, none⟩) hbl).trans q2
      have c3 := (BB.out.cell (p := ⟨b, o + k * 4 + 3, none⟩) hbl).trans q3
      have l1 : (k : Int) < (n : Int) := by omega
      have l2 : (0 : Int) ≤ (k : Int) := by omega
      have l3 : (k : Int) ≤ (c : Int) := by omega
      clear hc hx q0 q1 q2 q3
      have hb2 := (Below.refl wr.heap.size wr).alloc (Nat.le_refl _) (.cells #[.int .i64 x, .int .i64 y, .int .i64 p, .int .i64 t] 71)
      have B2 := Lib.hid (next BB.out hb2)
      have hrow2 := Lib.hid (show MRow (wr.alloc (.cells #[.int .i64 x, .int .i64 y, .int .i64 p, .int .i64 t] 71)) (wr.alloc (.cells #[.int .i64 x, .int .i64 y, .int .i64 p, .int .i64 t] 71)).heap.size (some ⟨b, o, none⟩) (L.take k) from MRow.take (Sees.on hr1.out hb2) k)
      have K2 := Lib.hid (Box.new_at wr wr.heap.size rfl 71 #[.int .i64 x, .int .i64 y, .int .i64 p, .int .i64 t] (by simp [maxLen]))
      have HL : Hid ((L.take k).length = k) := Lib.hid (by rw [List.length_take]; omega)
      clear hr1 hb2
      obtain ⟨S, f, hne, HF, HI⟩ := cls_of (Below (wr.alloc (.cells #[.int .i64 x, .int .i64 y, .int .i64 p, .int .i64 t] 71)).heap.size (wr.alloc (.cells #[.int .i64 x, .int .i64 y, .int .i64 p, .int .i64 t] 71))) (Below.refl _ _)
      have d1 := Lib.hid (fun z => cls_call (x := z) HI (fun w' k => next (HF.out z) k) (endValid_any x y (f z)))
      have d2 := Lib.hid (fun z => cls_same (x := z) (isOutside_any p (f z)))
      have d3 := Lib.hid (fun z => cls_same (x := z) (isTime_any t (f z)))
      have d4 := Lib.hid (fun z => cls_call (x := z) HI (fun w' k => next (HF.out z) k) (byEnd_any (some ⟨b, o, none⟩) k c (L.take k) x y (f z) HL.out (by omega) (Sees.on hrow2.out (HF.out z))))
      have d5 := Lib.hid (fun z => cls_call (x := z) HI (fun w' k => next (HF.out z) k) (byPort_any (some ⟨b, o, none⟩) k c (L.take k) p (f z) HL.out (by omega) (Sees.on hrow2.out (HF.out z))))
      cases h1 : vE x y
      · have HV := Lib.hid (validM_no (L := L) (i := k) (by omega) (goodM_no1 HX.out h1))
        rw [h1] at d1
        clear h1 d2 d3 d4 d5
        go_wp2
        have k0 : ∀ z, (f z).cell? ⟨wr.heap.size, 0, none⟩ = some (.int .i64 x) := fun z => (K2.out.below (HF.out z)).at_ 0 rfl
        have k1 : ∀ z, (f z).cell? ⟨wr.heap.size, 1, none⟩ = some (.int .i64 y) := fun z => (K2.out.below (HF.out z)).at_ 1 rfl
        have k2 : ∀ z, (f z).cell? ⟨wr.heap.size, 2, none⟩ = some (.int .i64 p) := fun z => (K2.out.below (HF.out z)).at_ 2 rfl
        have k3 : ∀ z, (f z).cell? ⟨wr.heap.size, 3, none⟩ = some (.int .i64 t) := fun z => (K2.out.below (HF.out z)).at_ 3 rfl
        clear c0 c1 c2 c3
        refine wp_region_cls f (by kernel_rfl) (by kernel_rfl) (HI.out _ (Below.refl _ _).drew) ?_
        repeat (go_big_quiet_step ((first | (go_at_call 26; exact d1.out _))))
        refine wpQuiet_nil ?_
        rintro _ ⟨z, rfl⟩
        have b3 := HF.out z
        have B3 := Lib.hid (next B2.out b3)
        clear k0 k1 k2 k3 b3
        go_wp2
        go_ret
        exact ⟨ret_bool HV.out.symm, B3.out⟩
      cases h2 : inR p 1000 1007
      · have HV := Lib.hid (validM_no (L := L) (i := k) (by omega) (goodM_no2 HX.out h2))
        rw [h1] at d1
        rw [h2] at d2
        clear h1 h2 d3 d4 d5
        go_wp2
        have k0 : ∀ z, (f z).cell? ⟨wr.heap.size, 0, none⟩ = some (.int .i64 x) := fun z => (K2.out.below (HF.out z)).at_ 0 rfl
        have k1 : ∀ z, (f z).cell? ⟨wr.heap.size, 1, none⟩ = some (.int .i64 y) := fun z => (K2.out.below (HF.out z)).at_ 1 rfl
        have k2 : ∀ z, (f z).cell? ⟨wr.heap.size, 2, none⟩ = some (.int .i64 p) := fun z => (K2.out.below (HF.out z)).at_ 2 rfl
        have k3 : ∀ z, (f z).cell? ⟨wr.heap.size, 3, none⟩ = some (.int .i64 t) := fun z => (K2.out.below (HF.out z)).at_ 3 rfl
        clear c0 c1 c2 c3
        refine wp_region_cls f (by kernel_rfl) (by kernel_rfl) (HI.out _ (Below.refl _ _).drew) ?_
        repeat (go_big_quiet_step ((first | (go_at_call 26; exact d1.out _) | (go_at_call 41; exact d2.out _))))
        refine wpQuiet_nil ?_
        rintro _ ⟨z, rfl⟩
        have b3 := HF.out z
        have B3 := Lib.hid (next B2.out b3)
        clear k0 k1 k2 k3 b3
        go_wp2
        go_ret
        exact ⟨ret_bool HV.out.symm, B3.out⟩
      cases h3 : inR t 0 10000
      · have HV := Lib.hid (validM_no (L := L) (i := k) (by omega) (goodM_no3 HX.out h3))
        rw [h1] at d1
        rw [h2] at d2
        rw [h3] at d3
        clear h1 h2 h3 d4 d5
        go_wp2
        have k0 : ∀ z, (f z).cell? ⟨wr.heap.size, 0, none⟩ = some (.int .i64 x) := fun z => (K2.out.below (HF.out z)).at_ 0 rfl
        have k1 : ∀ z, (f z).cell? ⟨wr.heap.size, 1, none⟩ = some (.int .i64 y) := fun z => (K2.out.below (HF.out z)).at_ 1 rfl
        have k2 : ∀ z, (f z).cell? ⟨wr.heap.size, 2, none⟩ = some (.int .i64 p) := fun z => (K2.out.below (HF.out z)).at_ 2 rfl
        have k3 : ∀ z, (f z).cell? ⟨wr.heap.size, 3, none⟩ = some (.int .i64 t) := fun z => (K2.out.below (HF.out z)).at_ 3 rfl
        clear c0 c1 c2 c3
        refine wp_region_cls f (by kernel_rfl) (by kernel_rfl) (HI.out _ (Below.refl _ _).drew) ?_
        repeat (go_big_quiet_step ((first | (go_at_call 26; exact d1.out _) | (go_at_call 41; exact d2.out _) | (go_at_call 42; exact d3.out _))))
        refine wpQuiet_nil ?_
        rintro _ ⟨z, rfl⟩
        have b3 := HF.out z
        have B3 := Lib.hid (next B2.out b3)
        clear k0 k1 k2 k3 b3
        go_wp2
        go_ret
        exact ⟨ret_bool HV.out.symm, B3.out⟩
      cases h4 : (L.take k).any (sameE x y)
      case true =>
        have HV := Lib.hid (validM_no (L := L) (i := k) (by omega) (goodM_no4 HX.out h4))
        have hpos := idxF_pos h4
        rw [h1] at d1
        rw [h2] at d2
        rw [h3] at d3
        generalize idxF (L.take k) (sameE x y) = r at d4 hpos
        clear h1 h2 h3 h4 d5
        go_wp2
        have k0 : ∀ z, (f z).cell? ⟨wr.heap.size, 0, none⟩ = some (.int .i64 x) := fun z => (K2.out.below (HF.out z)).at_ 0 rfl
        have k1 : ∀ z, (f z).cell? ⟨wr.heap.size, 1, none⟩ = some (.int .i64 y) := fun z => (K2.out.below (HF.out z)).at_ 1 rfl
        have k2 : ∀ z, (f z).cell? ⟨wr.heap.size, 2, none⟩ = some (.int .i64 p) := fun z => (K2.out.below (HF.out z)).at_ 2 rfl
        have k3 : ∀ z, (f z).cell? ⟨wr.heap.size, 3, none⟩ = some (.int .i64 t) := fun z => (K2.out.below (HF.out z)).at_ 3 rfl
        clear c0 c1 c2 c3
        refine wp_region_cls f (by kernel_rfl) (by kernel_rfl) (HI.out _ (Below.refl _ _).drew) ?_
        repeat (go_big_quiet_step ((first | (go_at_call 26; exact d1.out _) | (go_at_call 41; exact d2.out _) | (go_at_call 42; exact d3.out _) | (go_at_call 43; exact d4.out _))))
        refine wpQuiet_nil ?_
        rintro _ ⟨z, rfl⟩
        have b3 := HF.out z
        have B3 := Lib.hid (next B2.out b3)
        clear k0 k1 k2 k3 b3
        go_wp2
        go_ret
        exact ⟨ret_bool HV.out.symm, B3.out⟩
      cases h5 : (L.take k).any (sameP p)
      case true =>
        have HV := Lib.hid (validM_no (L := L) (i := k) (by omega) (goodM_no5 HX.out h5))
        have hpos := idxF_pos h5
        rw [h1] at d1
        rw [h2] at d2
        rw [h3] at d3
        rw [idxF_neg h4] at d4
        generalize idxF (L.take k) (sameP p) = r at d5 hpos
        clear h1 h2 h3 h4 h5
        go_wp2
        have k0 : ∀ z, (f z).cell? ⟨wr.heap.size, 0, none⟩ = some (.int .i64 x) := fun z => (K2.out.below (HF.out z)).at_ 0 rfl
        have k1 : ∀ z, (f z).cell? ⟨wr.heap.size, 1, none⟩ = some (.int .i64 y) := fun z => (K2.out.below (HF.out z)).at_ 1 rfl
        have k2 : ∀ z, (f z).cell? ⟨wr.heap.size, 2, none⟩ = some (.int .i64 p) := fun z => (K2.out.below (HF.out z)).at_ 2 rfl
        have k3 : ∀ z, (f z).cell? ⟨wr.heap.size, 3, none⟩ = some (.int .i64 t) := fun z => (K2.out.below (HF.out z)).at_ 3 rfl
        clear c0 c1 c2 c3
        refine wp_region_cls f (by kernel_rfl) (by kernel_rfl) (HI.out _ (Below.refl _ _).drew) ?_
        repeat (go_big_quiet_step ((first | (go_at_call 26; exact d1.out _) | (go_at_call 41; exact d2.out _) | (go_at_call 42; exact d3.out _) | (go_at_call 43; exact d4.out _) | (go_at_call 44; exact d5.out _))))
        refine wpQuiet_nil ?_
        rintro _ ⟨z, rfl⟩
        have b3 := HF.out z
        have B3 := Lib.hid (next B2.out b3)
        clear k0 k1 k2 k3 b3
        go_wp2
        go_ret
        exact ⟨ret_bool HV.out.symm, B3.out⟩
      have HG : Hid (∀ j, j < k + 1 → goodM L j = true) := Lib.hid fun j hj => by
        rcases Nat.lt_or_eq_of_le (Nat.lt_succ_iff.1 hj) with h | rfl
        · exact GG.out j h
        · exact goodM_yes HX.out h1 h2 h3 h4 h5
      rw [h1] at d1
      rw [h2] at d2
      rw [h3] at d3
      rw [idxF_neg h4] at d4
      rw [idxF_neg h5] at d5
      clear h1 h2 h3 h4 h5
      go_wp2
      have k0 : ∀ z, (f z).cell? ⟨wr.heap.size, 0, none⟩ = some (.int .i64 x) := fun z => (K2.out.below (HF.out z)).at_ 0 rfl
      have k1 : ∀ z, (f z).cell? ⟨wr.heap.size, 1, none⟩ = some (.int .i64 y) := fun z => (K2.out.below (HF.out z)).at_ 1 rfl
      have k2 : ∀ z, (f z).cell? ⟨wr.heap.size, 2, none⟩ = some (.int .i64 p) := fun z => (K2.out.below (HF.out z)).at_ 2 rfl
      have k3 : ∀ z, (f z).cell? ⟨wr.heap.size, 3, none⟩ = some (.int .i64 t) := fun z => (K2.out.below (HF.out z)).at_ 3 rfl
      clear c0 c1 c2 c3
      refine wp_region_cls f (by kernel_rfl) (by kernel_rfl) (HI.out _ (Below.refl _ _).drew) ?_
      repeat (go_big_quiet_step ((first | (go_at_call 26; exact d1.out _) | (go_at_call 41; exact d2.out _) | (go_at_call 42; exact d3.out _) | (go_at_call 43; exact d4.out _) | (go_at_call 44; exact d5.out _))))
      refine wpQuiet_nil ?_
      rintro _ ⟨z, rfl⟩
      have b3 := HF.out z
      have B3 := Lib.hid (next B2.out b3)
      clear k0 k1 k2 k3 b3
      go_wp2
      go_roundw
      case rel => exact ⟨k + 1, by omega, by go_num, B3.out, HG.out⟩
      case measure => simp [intOf]; omega
    · have HE := Lib.hid (validM_end (L := L) fun i hi => GG.out i (by omega))
      by_cases h10 : n ≤ 8
      · have h11 : (n : Int) ≤ 8 := by omega
        go_wp2
        go_ret
        exact ⟨ret_bool (by rw [HE.out, hn]; simp [h10]), BB.out⟩
      · have h11 : ¬ (n : Int) ≤ 8 := by omega
        go_wp2
        go_ret
        exact ⟨ret_bool (by rw [HE.out, hn]; simp [h10]), BB.out⟩
end Go.Proofs.Ytogoeehkpebhaaa
