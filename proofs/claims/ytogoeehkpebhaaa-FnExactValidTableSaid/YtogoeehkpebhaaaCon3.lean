/-
  Contacts: valid, slices.Index, slices.Contains, ValidContacts, of the program and of the reference: the walks.
-/
import Derived.Test.YtogoeehkpebhaaaCon2
namespace Go.Proofs.Ytogoeehkpebhaaa
open Go.RowKit
attribute [local go_sem ↓] Go.wp_at_zero Go.wp_at_succ

set_option maxHeartbeats 400000 in
theorem isOutside_any (n : Int) (w : World) : Calls Try.prog 41 #[.int .i64 n] w fun e w' => e = .returned (.bool (inR n 1000 1007)) ∧ w = w' := by
  go_enter Try.func41, Try.ntmps41
  go_wp2_with (go_at_call 25; refine (in_any _ _ _ _).mono ?_; rintro e w' ⟨rfl, rfl⟩)
  go_ret
  exact ⟨rfl, rfl⟩

set_option maxHeartbeats 800000 in
theorem conValid_any (p x y : Int) (w : World) : Calls Try.prog 36 #[.agg #[.int .i64 p, .int .i64 x, .int .i64 y]] w fun e w' => e = .returned (.bool (vC p x y)) ∧ Below w.heap.size w w' := by
  have HB := Lib.hid ((Below.refl w.heap.size w).alloc (Nat.le_refl _) (.cells #[.int .i64 p, .int .i64 x, .int .i64 y] 64))
  cases h : inR p 1000 1007
  · have HV := Lib.hid (vC_no (x := x) (y := y) h)
    go_enter Try.func36, Try.ntmps36
    go_wp2_with fail
    refine (isOutside_any p _).mono ?_
    rintro e w' ⟨rfl, rfl⟩
    rw [h]
    clear h
    go_wp2
    go_ret
    exact ⟨ret_bool HV.out.symm, HB.out⟩
  · have HV := Lib.hid (vC_yes (x := x) (y := y) h)
    go_enter Try.func36, Try.ntmps36
    go_wp2_with fail
    refine (isOutside_any p _).mono ?_
    rintro e w' ⟨rfl, rfl⟩
    rw [h]
    clear h
    go_wp2_with fail
    refine (endValid_any x y _).mono ?_
    rintro e w2 ⟨rfl, b2⟩
    have B2 := Lib.hid (next HB.out b2)
    clear b2
    go_wp2
    go_ret
    exact ⟨ret_bool HV.out.symm, B2.out⟩

/-- What slices.Index says. -/
def IdxC (w : World) (L : List (Int × Int × Int)) (q : Int × Int × Int) (e : Ending) (w' : World) : Prop := ∃ r : Int, e = .returned (.int .i64 r) ∧ decide (0 ≤ r) = anyC L q ∧ Below w.heap.size w w'

set_option maxHeartbeats 1600000 in
theorem indexC_any (A : Option Addr) (n c : Nat) (L : List (Int × Int × Int)) (p x y : Int) (w : World) (hn : L.length = n) (hm : n ≤ 9223372036854775807) (hr : CRow w w.heap.size A L) :
    Calls Try.prog 54 #[.slice A n c, .agg #[.int .i64 p, .int .i64 x, .int .i64 y]] w (IdxC w L (p, x, y)) := by
  have HK := Lib.hid (Box.new_at w w.heap.size rfl 64 #[.int .i64 p, .int .i64 x, .int .i64 y] (by simp [maxLen]))
  have HB := Lib.hid ((Below.refl w.heap.size w).alloc (Nat.le_refl _) (.cells #[.int .i64 p, .int .i64 x, .int .i64 y] 64))
  go_enter Try.func54, Try.ntmps54
  go_wp2
  go_loopw [8] (fun i wr => ∃ k : Nat, k ≤ n ∧ i = .int .i64 k ∧ Box wr w.heap.size w.heap.size [.int .i64 p, .int .i64 x, .int .i64 y] ∧ Below w.heap.size w wr ∧ ∀ j, j < k → L.getD j (0, 0, 0) ≠ (p, x, y)) (fun i _ => n - (intOf i).toNat)
  case atStart => exact ⟨0, Nat.zero_le _, rfl, HK.out, HB.out, fun j hj => absurd hj (by omega)⟩
  case round =>
    obtain ⟨k, hk, rfl, hK, hB, hno⟩ := hrel
    have KK := Lib.hid hK
    have BB := Lib.hid hB
    have NN := Lib.hid hno
    clear hK hB hno HK HB
    by_cases hlt : k < n
    · obtain ⟨b, o, rfl, hbl, hc⟩ := hr.get (by omega)
      obtain ⟨q0, q1, q2⟩ := hc k (by omega)
      obtain ⟨⟨p', x', y'⟩, hx⟩ : ∃ q, q = L.getD k (0, 0, 0) := ⟨_, rfl⟩
      rw [← hx] at q0 q1 q2
      have HX := Lib.hid hx
      have c0 := (BB.out.cell (p := ⟨b, o + k * 3, none⟩) hbl).trans q0
      have c1 := (BB.out.cell (p := ⟨b, o + k * 3 + 1, none⟩) hbl).trans q1
      have c2 := (BB.out.cell (p := ⟨b, o + k * 3 + 2, none⟩) hbl).trans q2
      have k0 := KK.out.at_ 0 rfl
      have k1 := KK.out.at_ 1 rfl
      have k2 := KK.out.at_ 2 rfl
      have l1 : (k : Int) < (n : Int) := by omega
      have l2 : (0 : Int) ≤ (k : Int) := by omega
      have heq := fun w => run_eql_con w p x y p' x' y'
      clear hc hx q0 q1 q2
      by_cases he : (p, x, y) = (p', x', y')
      · have hd : decide ((p, x, y) = (p', x', y')) = true := by simpa using he
        have HE := Lib.hid (anyC_at (L := L) (q := (p, x, y)) (k := k) (by omega) (by rw [← HX.out]; exact he.symm))
        rw [hd] at heq
        clear he hd
        go_wp2
        go_quiet (fail)
        go_wp2
        go_ret
        exact ⟨k, rfl, by rw [HE.out]; simp, below_drewN BB.out nq⟩
      · have hd : decide ((p, x, y) = (p', x', y')) = false := by simpa using he
        have HN : Hid (∀ j, j < k + 1 → L.getD j (0, 0, 0) ≠ (p, x, y)) := Lib.hid fun j hj => by
          rcases Nat.lt_or_eq_of_le (Nat.lt_succ_iff.1 hj) with h | rfl
          · exact NN.out j h
          · rw [← HX.out]; exact fun e => he e.symm
        rw [hd] at heq
        clear he hd
        go_wp2
        go_quiet (fail)
        go_wp2
        go_roundw
        case rel => exact ⟨k + 1, by omega, by go_num, KK.out.drewN nq, below_drewN BB.out nq, HN.out⟩
        case measure => simp [intOf]; omega
    · have HE := Lib.hid (anyC_none (L := L) (q := (p, x, y)) fun j hj => NN.out j (by omega))
      go_wp2
      go_ret
      exact ⟨-1, rfl, by rw [HE.out]; simp, BB.out⟩

set_option maxHeartbeats 800000 in
theorem containsC_any (A : Option Addr) (n c : Nat) (L : List (Int × Int × Int)) (p x y : Int) (w : World) (hn : L.length = n) (hm : n ≤ 9223372036854775807) (hr : CRow w w.heap.size A L) :
    Calls Try.prog 37 #[.slice A n c, .agg #[.int .i64 p, .int .i64 x, .int .i64 y]] w fun e w' => e = .returned (.bool (anyC L (p, x, y))) ∧ Below w.heap.size w w' := by
  have hb := (Below.refl w.heap.size w).alloc (Nat.le_refl _) (.cells #[.int .i64 p, .int .i64 x, .int .i64 y] 64)
  have hr1 := hr.on hb
  have HB := Lib.hid hb
  clear hb hr
  go_enter Try.func37, Try.ntmps37
  go_wp2_with fail
  refine (indexC_any A n c L p x y _ hn hm hr1).mono ?_
  rintro e w1 ⟨r, rfl, hd, b1⟩
  have B1 := Lib.hid (next HB.out b1)
  have HD := Lib.hid hd
  clear hd b1
  go_wp2
  go_ret
  exact ⟨ret_bool HD.out, B1.out⟩

set_option maxHeartbeats 1600000 in
theorem ValidContacts_any (A : Option Addr) (n c : Nat) (L : List (Int × Int × Int)) (w : World) (hn : L.length = n) (hnc : n ≤ c) (hm : c ≤ 9223372036854775807) (hr : CRow w w.heap.size A L) :
    Calls Try.prog 16 #[.slice A n c] w fun e w' => e = .returned (.bool (validC L)) ∧ Below w.heap.size w w' := by
  go_enter Try.func16, Try.ntmps16
  go_wp2
  go_loopw [7] (fun i wr => ∃ k : Nat, k ≤ n ∧ i = .int .i64 k ∧ Below w.heap.size w wr ∧ ∀ j, j < k → goodC L j = true) (fun i _ => n - (intOf i).toNat)
  case atStart => exact ⟨0, Nat.zero_le _, rfl, Below.refl _ _, fun j hj => absurd hj (by omega)⟩
  case round =>
    obtain ⟨k, hk, rfl, hB, hgood⟩ := hrel
    have BB := Lib.hid hB
    have GG := Lib.hid hgood
    have hr1 := Lib.hid ((Sees.below hr hB).more hB.size)
    clear hB hgood
    by_cases hlt : k < n
    · obtain ⟨b, o, rfl, hbl, hc⟩ := hr.get (by omega)
      obtain ⟨q0, q1, q2⟩ := hc k (by omega)
      obtain ⟨⟨p, x, y⟩, hx⟩ : ∃ q, q = L.getD k (0, 0, 0) := ⟨_, rfl⟩
      rw [← hx] at q0 q1 q2
      have HX := Lib.hid hx
      have c0 := (BB.out.cell (p := ⟨b, o + k * 3, none⟩) hbl).trans q0
      have c1 := (BB.out.cell (p := ⟨b, o + k * 3 + 1, none⟩) hbl).trans q1
      have c2 := (BB.out.cell (p := ⟨b, o + k * 3 + 2, none⟩) hbl).trans q2
      have l1 : (k : Int) < (n : Int) := by omega
      have l2 : (0 : Int) ≤ (k : Int) := by omega
      have l3 : (k : Int) ≤ (c : Int) := by omega
      clear hc hx q0 q1 q2
      have hb2 := (Below.refl wr.heap.size wr).alloc (Nat.le_refl _) (.cells #[.int .i64 p, .int .i64 x, .int .i64 y] 64)
      have B2 := Lib.hid (next BB.out hb2)
      have hrow2 := Lib.hid (Sees.on hr1.out hb2)
      have K2 := Lib.hid (Box.new_at wr wr.heap.size rfl 64 #[.int .i64 p, .int .i64 x, .int .i64 y] (by simp [maxLen]))
      have hz : (wr.alloc (.cells #[.int .i64 p, .int .i64 x, .int .i64 y] 64)).heap.size = wr.heap.size + 1 := by simp
      have HT : Hid (CRow (wr.alloc (.cells #[.int .i64 p, .int .i64 x, .int .i64 y] 64)) (wr.alloc (.cells #[.int .i64 p, .int .i64 x, .int .i64 y] 64)).heap.size (some ⟨b, o, none⟩) (L.take k)) := Lib.hid (by
        intro h0
        obtain ⟨b', o', e', hb', hi'⟩ := hrow2.out (by rw [flat_len encC_len]; omega)
        refine ⟨b', o', e', hb', fun j hj => ?_⟩
        rw [flat_len encC_len, List.length_take] at hj
        have hmul : min k L.length * 3 ≤ L.length * 3 := Nat.mul_le_mul_right _ (by omega)
        rw [hi' j (by rw [flat_len encC_len]; omega)]
        have e : L.flatMap encC = (L.take k).flatMap encC ++ (L.drop k).flatMap encC := by rw [← List.flatMap_append, List.take_append_drop]
        rw [e, List.getElem?_append_left (by rw [flat_len encC_len, List.length_take]; exact hj)])
      have HL : Hid ((L.take k).length = k) := Lib.hid (by rw [List.length_take]; omega)
      obtain ⟨S, f, hne, HF, HI⟩ := cls_of (Below (wr.alloc (.cells #[.int .i64 p, .int .i64 x, .int .i64 y] 64)).heap.size (wr.alloc (.cells #[.int .i64 p, .int .i64 x, .int .i64 y] 64))) (Below.refl _ _)
      have d1 := Lib.hid (fun z => cls_call (x := z) HI (fun w' k => next (HF.out z) k) (conValid_any p x y (f z)))
      have d2 := Lib.hid (fun z => cls_call (x := z) HI (fun w' k => next (HF.out z) k) (containsC_any (some ⟨b, o, none⟩) k c (L.take k) p x y (f z) HL.out (by omega) (Sees.on HT.out (HF.out z))))
      cases hv : vC p x y
      · have HV := Lib.hid (validC_no (L := L) (i := k) (by omega) (goodC_no1 HX.out hv))
        rw [hv] at d1
        clear hv d2
        go_wp2
        have k0 : ∀ z, (f z).cell? ⟨wr.heap.size, 0, none⟩ = some (.int .i64 p) := fun z => (K2.out.below (HF.out z)).at_ 0 rfl
        have k1 : ∀ z, (f z).cell? ⟨wr.heap.size, 1, none⟩ = some (.int .i64 x) := fun z => (K2.out.below (HF.out z)).at_ 1 rfl
        have k2 : ∀ z, (f z).cell? ⟨wr.heap.size, 2, none⟩ = some (.int .i64 y) := fun z => (K2.out.below (HF.out z)).at_ 2 rfl
        clear c0 c1 c2
        refine wp_region_cls f (by kernel_rfl) (by kernel_rfl) (HI.out _ (Below.refl _ _).drew) ?_
        repeat (go_big_quiet_step ((first | (go_at_call 36; exact d1.out _))))
        refine wpQuiet_nil ?_
        rintro _ ⟨z, rfl⟩
        have b3 := HF.out z
        have B3 := Lib.hid (next B2.out b3)
        clear k0 k1 k2 b3
        go_wp2
        go_ret
        exact ⟨ret_bool HV.out.symm, B3.out⟩
      · cases ha : anyC (L.take k) (p, x, y)
        · have HG : Hid (∀ j, j < k + 1 → goodC L j = true) := Lib.hid fun j hj => by
            rcases Nat.lt_or_eq_of_le (Nat.lt_succ_iff.1 hj) with h | rfl
            · exact GG.out j h
            · exact goodC_yes HX.out hv ha
          rw [hv] at d1
          rw [ha] at d2
          clear hv ha
          go_wp2
          have k0 : ∀ z, (f z).cell? ⟨wr.heap.size, 0, none⟩ = some (.int .i64 p) := fun z => (K2.out.below (HF.out z)).at_ 0 rfl
          have k1 : ∀ z, (f z).cell? ⟨wr.heap.size, 1, none⟩ = some (.int .i64 x) := fun z => (K2.out.below (HF.out z)).at_ 1 rfl
          have k2 : ∀ z, (f z).cell? ⟨wr.heap.size, 2, none⟩ = some (.int .i64 y) := fun z => (K2.out.below (HF.out z)).at_ 2 rfl
          clear c0 c1 c2
          refine wp_region_cls f (by kernel_rfl) (by kernel_rfl) (HI.out _ (Below.refl _ _).drew) ?_
          repeat (go_big_quiet_step ((first | (go_at_call 36; exact d1.out _) | (go_at_call 37; exact d2.out _))))
          refine wpQuiet_nil ?_
          rintro _ ⟨z, rfl⟩
          have b3 := HF.out z
          have B3 := Lib.hid (next B2.out b3)
          clear k0 k1 k2 b3
          go_wp2
          go_roundw
          case rel => exact ⟨k + 1, by omega, by go_num, B3.out, HG.out⟩
          case measure => simp [intOf]; omega
        · have HV := Lib.hid (validC_no (L := L) (i := k) (by omega) (goodC_no2 HX.out ha))
          rw [hv] at d1
          rw [ha] at d2
          clear hv ha
          go_wp2
          have k0 : ∀ z, (f z).cell? ⟨wr.heap.size, 0, none⟩ = some (.int .i64 p) := fun z => (K2.out.below (HF.out z)).at_ 0 rfl
          have k1 : ∀ z, (f z).cell? ⟨wr.heap.size, 1, none⟩ = some (.int .i64 x) := fun z => (K2.out.below (HF.out z)).at_ 1 rfl
          have k2 : ∀ z, (f z).cell? ⟨wr.heap.size, 2, none⟩ = some (.int .i64 y) := fun z => (K2.out.below (HF.out z)).at_ 2 rfl
          clear c0 c1 c2
          refine wp_region_cls f (by kernel_rfl) (by kernel_rfl) (HI.out _ (Below.refl _ _).drew) ?_
          repeat (go_big_quiet_step ((first | (go_at_call 36; exact d1.out _) | (go_at_call 37; exact d2.out _))))
          refine wpQuiet_nil ?_
          rintro _ ⟨z, rfl⟩
          have b3 := HF.out z
          have B3 := Lib.hid (next B2.out b3)
          clear k0 k1 k2 b3
          go_wp2
          go_ret
          exact ⟨ret_bool HV.out.symm, B3.out⟩
    · have HE := Lib.hid (validC_end (L := L) fun i hi => GG.out i (by omega))
      by_cases h10 : n ≤ 10
      · have h11 : (n : Int) ≤ 10 := by omega
        go_wp2
        go_ret
        exact ⟨ret_bool (by rw [HE.out, hn]; simp [h10]), BB.out⟩
      · have h11 : ¬ (n : Int) ≤ 10 := by omega
        go_wp2
        go_ret
        exact ⟨ret_bool (by rw [HE.out, hn]; simp [h10]), BB.out⟩
end Go.Proofs.Ytogoeehkpebhaaa
