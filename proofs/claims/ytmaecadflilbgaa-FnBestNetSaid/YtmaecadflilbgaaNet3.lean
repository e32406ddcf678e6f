/-
  HoldsNet, of the program and of the reference: what they return, for all nets.
-/
import Derived.Test.YtmaecadflilbgaaNet2
import Derived.Test.YtmaecadflilbgaaCls
namespace Go.Proofs.Ytmaecadflilbgaa
open Go.RowKit
attribute [local go_sem ↓] Go.wp_at_zero Go.wp_at_succ

theorem holdsN_no1 {b s b' s' : Int} (h : vN b s = false) : holdsN b s b' s' = false := by simp [holdsN, h]
theorem holdsN_no2 {b s b' s' : Int} (h : vN b' s' = false) : holdsN b s b' s' = false := by simp [holdsN, h]
theorem holdsN_no3 {b s b' s' : Int} (h : hasN b s b' = false) : holdsN b s b' s' = false := by simp [holdsN, h]
theorem holdsN_yes {b s b' s' : Int} (h : vN b s = true) (h' : vN b' s' = true) (h3 : hasN b s b' = true) : holdsN b s b' s' = hasN b s (b' + szN s' - 1) := by simp [holdsN, h, h', h3]
theorem holdsN_bits {b s b' s' : Int} (h : vN b s = true) (h' : vN b' s' = true) : holdsN b s b' s' = (decide (s ≤ s') && hasN b s b') := by
  rw [← holds_bits h h']; simp [holdsN, h, h']

/-- Two boxes, one behind the other. -/
theorem box22 (w : World) (t : TypeId) (x y z v : Value) : ((w.alloc (.cells #[x, y] t)).alloc (.cells #[z, v] t)).cell? ⟨w.heap.size, 0, none⟩ = some x ∧ ((w.alloc (.cells #[x, y] t)).alloc (.cells #[z, v] t)).cell? ⟨w.heap.size, 1, none⟩ = some y ∧
    ((w.alloc (.cells #[x, y] t)).alloc (.cells #[z, v] t)).cell? ⟨w.heap.size + 1, 0, none⟩ = some z ∧ ((w.alloc (.cells #[x, y] t)).alloc (.cells #[z, v] t)).cell? ⟨w.heap.size + 1, 1, none⟩ = some v := by
  have h := box2 (w.alloc (.cells #[x, y] t)) t z v
  have hs : (w.alloc (.cells #[x, y] t)).heap.size = w.heap.size + 1 := by simp
  rw [hs] at h
  have g := box2 w t x y
  exact ⟨(World.cell?_alloc_lt _ _ ⟨w.heap.size, 0, none⟩ (by simp)).trans g.1, (World.cell?_alloc_lt _ _ ⟨w.heap.size, 1, none⟩ (by simp)).trans g.2, h.1, h.2⟩
/-- The four cells of two nets. -/
def Four (w : World) (H : Nat) (b s b' s' : Int) : Prop :=
  w.cell? ⟨H, 0, none⟩ = some (.int .i64 b) ∧ w.cell? ⟨H, 1, none⟩ = some (.int .i64 s) ∧ w.cell? ⟨H + 1, 0, none⟩ = some (.int .i64 b') ∧ w.cell? ⟨H + 1, 1, none⟩ = some (.int .i64 s')
theorem Four.on {w w' : World} {H : Nat} {b s b' s' : Int} (h : Four w H b s b' s') (hb : Below w.heap.size w w') (hH : H + 1 < w.heap.size) : Four w' H b s b' s' :=
  ⟨(hb.cell (p := ⟨H, 0, none⟩) (by simp; omega)).trans h.1, (hb.cell (p := ⟨H, 1, none⟩) (by simp; omega)).trans h.2.1, (hb.cell (p := ⟨H + 1, 0, none⟩) (by simp; omega)).trans h.2.2.1, (hb.cell (p := ⟨H + 1, 1, none⟩) (by simp; omega)).trans h.2.2.2⟩

/-- What stands while HoldsNet runs. -/
def HoldF (w : World) (b s b' s' : Int) (w' : World) : Prop := Four w' w.heap.size b s b' s' ∧ Below w.heap.size w w' ∧ w.heap.size + 1 < w'.heap.size
theorem HoldF.step {w w1 w2 : World} {b s b' s' : Int} (h : HoldF w b s b' s' w1) (hb : Below w1.heap.size w1 w2) : HoldF w b s b' s' w2 :=
  ⟨h.1.on hb h.2.2, next h.2.1 hb, Nat.lt_of_lt_of_le h.2.2 hb.size⟩

set_option maxHeartbeats 3200000 in
/-- HoldsNet. -/
theorem HoldsNet_any (b s b' s' : Int) (w : World) : Calls Try.prog 13 #[.agg #[.int .i64 b, .int .i64 s], .agg #[.int .i64 b', .int .i64 s']] w fun e w' => e = .returned (.bool (holdsN b s b' s')) ∧ Below w.heap.size w w' := by
  have h0 : HoldF w b s b' s' ((w.alloc (.cells #[.int .i64 b, .int .i64 s] 24)).alloc (.cells #[.int .i64 b', .int .i64 s'] 24)).drew :=
    ⟨box22 w _ _ _ _ _, (((Below.refl w.heap.size w).alloc (Nat.le_refl _) _).alloc (by simp) _).drew, by simp [World.drew]⟩
  have H0 := Lib.hid h0
  obtain ⟨S, f, hne, HF, HI⟩ := cls_of (HoldF w b s b' s') h0
  clear h0
  have k0 : ∀ x, (f x).cell? ⟨w.heap.size, 0, none⟩ = some (.int .i64 b) := fun x => (HF.out x).1.1
  have k1 : ∀ x, (f x).cell? ⟨w.heap.size, 1, none⟩ = some (.int .i64 s) := fun x => (HF.out x).1.2.1
  have k2 : ∀ x, (f x).cell? ⟨w.heap.size + 1, 0, none⟩ = some (.int .i64 b') := fun x => (HF.out x).1.2.2.1
  have k3 : ∀ x, (f x).cell? ⟨w.heap.size + 1, 1, none⟩ = some (.int .i64 s') := fun x => (HF.out x).1.2.2.2
  have c1 := Lib.hid (fun x => cls_call (x := x) HI (fun w' => (HF.out x).step) (ValidNet_any b s (f x)))
  have c2 := Lib.hid (fun x => cls_call (x := x) HI (fun w' => (HF.out x).step) (ValidNet_any b' s' (f x)))
  cases hv : vN b s
  · have HV := Lib.hid (holdsN_no1 (b' := b') (s' := s') hv)
    rw [hv] at c1
    clear hv c2
    go_enter Try.func13, Try.ntmps13
    go_wp2
    refine wp_region_cls f (by kernel_rfl) (by kernel_rfl) (HI.out _ H0.out) ?_
    repeat (go_big_quiet_step ((first | (go_at_call_of 15 (Value.agg #[.int .i64 b, .int .i64 s]); exact c1.out _))))
    refine wpQuiet_nil ?_
    rintro _ ⟨x, rfl⟩
    have hb := (HF.out x).2.1
    clear k0 k1 k2 k3
    go_wp2
    go_ret
    exact ⟨ret_bool HV.out.symm, hb⟩
  · cases hv2 : vN b' s'
    · have HV := Lib.hid (holdsN_no2 (b := b) (s := s) hv2)
      rw [hv] at c1
      rw [hv2] at c2
      clear hv hv2
      go_enter Try.func13, Try.ntmps13
      go_wp2
      refine wp_region_cls f (by kernel_rfl) (by kernel_rfl) (HI.out _ H0.out) ?_
      repeat (go_big_quiet_step ((first | (go_at_call_of 15 (Value.agg #[.int .i64 b, .int .i64 s]); exact c1.out _) | (go_at_call_of 15 (Value.agg #[.int .i64 b', .int .i64 s']); exact c2.out _))))
      refine wpQuiet_nil ?_
      rintro _ ⟨x, rfl⟩
      have hb := (HF.out x).2.1
      clear k0 k1 k2 k3
      go_wp2
      go_ret
      exact ⟨ret_bool HV.out.symm, hb⟩
    · have ⟨s0, s1⟩ := inR_iff.1 (vN_bits hv)
      have ⟨b0, b1⟩ := inR_iff.1 (vN_word hv)
      have ⟨s0', s1'⟩ := inR_iff.1 (vN_bits hv2)
      have ⟨b0', b1'⟩ := inR_iff.1 (vN_word hv2)
      have c3 := Lib.hid (fun x => cls_call (x := x) HI (fun w' => (HF.out x).step) (has_any b s b' (f x) s0 s1 b0 (by omega)))
      cases hv3 : hasN b s b'
      · have HV := Lib.hid (holdsN_no3 (s' := s') hv3)
        rw [hv] at c1
        rw [hv2] at c2
        rw [hv3] at c3
        clear hv hv2 hv3
        go_enter Try.func13, Try.ntmps13
        go_wp2
        refine wp_region_cls f (by kernel_rfl) (by kernel_rfl) (HI.out _ H0.out) ?_
        repeat (go_big_quiet_step ((first | (go_at_call_of 15 (Value.agg #[.int .i64 b, .int .i64 s]); exact c1.out _) | (go_at_call_of 15 (Value.agg #[.int .i64 b', .int .i64 s']); exact c2.out _) | (go_at_call_of 31 (Value.int .i64 b'); exact c3.out _))))
        refine wpQuiet_nil ?_
        rintro _ ⟨x, rfl⟩
        have hb := (HF.out x).2.1
        clear k0 k1 k2 k3
        go_wp2
        go_ret
        exact ⟨ret_bool HV.out.symm, hb⟩
      · have HV := Lib.hid (holdsN_yes hv hv2 hv3)
        have hp := szN_pos s'
        have hq := szN_le s0'
        have c4 := Lib.hid (fun x => cls_call (x := x) HI (fun w' => (HF.out x).step) (size_any b' s' (f x) s0' s1'))
        have c5 := Lib.hid (fun x => cls_call (x := x) HI (fun w' => (HF.out x).step) (has_any b s (b' + szN s' - 1) (f x) s0 s1 b0 (by omega)))
        have w1 : IntKind.i64.wrap (b' + szN s') = b' + szN s' := wrap_in (by omega)
        have w2 : IntKind.i64.wrap (b' + szN s' - 1) = b' + szN s' - 1 := wrap_in (by omega)
        rw [hv] at c1
        rw [hv2] at c2
        rw [hv3] at c3
        clear hv hv2 hv3
        go_enter Try.func13, Try.ntmps13
        go_wp2
        refine wp_region_cls f (by kernel_rfl) (by kernel_rfl) (HI.out _ H0.out) ?_
        repeat (go_big_quiet_step ((first | (go_at_call_of 15 (Value.agg #[.int .i64 b, .int .i64 s]); exact c1.out _) | (go_at_call_of 15 (Value.agg #[.int .i64 b', .int .i64 s']); exact c2.out _) | (go_at_call_of 31 (Value.int .i64 b'); exact c3.out _) | (go_at_call 32; exact c4.out _) | (go_at_call 31; exact c5.out _))))
        refine wpQuiet_nil ?_
        rintro _ ⟨x, rfl⟩
        have hb := (HF.out x).2.1
        clear k0 k1 k2 k3
        go_wp2
        go_ret
        exact ⟨ret_bool HV.out.symm, hb⟩

set_option maxHeartbeats 1600000 in
/-- HoldsNet, of the reference. -/
theorem specHoldsNet_any (b s b' s' : Int) (w : World) : Calls Try.prog 14 #[.agg #[.int .i64 b, .int .i64 s], .agg #[.int .i64 b', .int .i64 s']] w fun e w' => e = .returned (.bool (holdsN b s b' s')) ∧ Below w.heap.size w w' := by
  have h0 : HoldF w b s b' s' ((w.alloc (.cells #[.int .i64 b, .int .i64 s] 24)).alloc (.cells #[.int .i64 b', .int .i64 s'] 24)) :=
    ⟨box22 w _ _ _ _ _, ((Below.refl w.heap.size w).alloc (Nat.le_refl _) _).alloc (by simp) _, by simp⟩
  have H0 := Lib.hid h0
  clear h0
  go_enter Try.func14, Try.ntmps14
  go_wp2_with fail
  refine (specvalidNet_any b s _).mono ?_
  rintro e w1 ⟨rfl, b1⟩
  have H1 := Lib.hid (H0.out.step b1)
  clear b1
  cases hv : vN b s
  · have HV := Lib.hid (holdsN_no1 (b' := b') (s' := s') hv)
    clear hv
    go_wp2
    go_ret
    exact ⟨ret_bool HV.out.symm, H1.out.2.1⟩
  · obtain ⟨k0, k1, k2, k3⟩ := H1.out.1
    go_wp2_with fail
    refine (specvalidNet_any b' s' _).mono ?_
    rintro e w2 ⟨rfl, b2⟩
    clear k0 k1 k2 k3
    have H2 := Lib.hid (H1.out.step b2)
    clear b2 H1
    obtain ⟨k0, k1, k2, k3⟩ := H2.out.1
    cases hv2 : vN b' s'
    · have HV := Lib.hid (holdsN_no2 (b := b) (s := s) hv2)
      clear hv hv2
      go_wp2
      go_ret
      exact ⟨ret_bool HV.out.symm, H2.out.2.1⟩
    · have HV := Lib.hid (holdsN_bits hv hv2)
      have ⟨s0, s1⟩ := inR_iff.1 (vN_bits hv)
      have ⟨b0, b1⟩ := inR_iff.1 (vN_word hv)
      by_cases hle : s ≤ s'
      · have HV2 := Lib.hid (show holdsN b s b' s' = hasN b s b' by rw [HV.out]; simp [hle])
        clear hv hv2
        go_wp2_with fail
        refine (specinNet_any b s b' _ s0 s1 b0 (by omega)).mono ?_
        rintro e w3 ⟨rfl, b3⟩
        clear k0 k1 k2 k3
        have H3 := Lib.hid (H2.out.step b3)
        go_wp2
        go_ret
        exact ⟨ret_bool HV2.out.symm, H3.out.2.1⟩
      · have HV2 := Lib.hid (show holdsN b s b' s' = false by rw [HV.out]; simp [hle])
        clear hv hv2
        go_wp2
        go_ret
        exact ⟨ret_bool HV2.out.symm, H2.out.2.1⟩

end Go.Proofs.Ytmaecadflilbgaa
