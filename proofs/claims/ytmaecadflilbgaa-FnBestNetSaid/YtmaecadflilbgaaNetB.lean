/-
  BestNet, of the program and of the reference. (Written by genbest.py.)
-/
import Derived.Test.YtmaecadflilbgaaPlainBest
import Derived.Test.YtmaecadflilbgaaNetE
import Derived.Test.YtmaecadflilbgaaNet2
import Derived.BigQuiet
namespace Go.Proofs.Ytmaecadflilbgaa
open Go.RowKit
attribute [local go_sem ↓] Go.wp_at_zero Go.wp_at_succ

/-- What stands behind the box of a net in a round. -/
def BoxF (w : World) (H : Nat) (x y : Int) (w' : World) : Prop := w'.cell? ⟨H, 0, none⟩ = some (.int .i64 x) ∧ w'.cell? ⟨H, 1, none⟩ = some (.int .i64 y) ∧ Below w.heap.size w w' ∧ H < w'.heap.size
theorem BoxF.step {w w1 w2 : World} {H : Nat} {x y : Int} (h : BoxF w H x y w1) (hb : Below w1.heap.size w1 w2) : BoxF w H x y w2 :=
  ⟨(hb.cell (p := ⟨H, 0, none⟩) h.2.2.2).trans h.1, (hb.cell (p := ⟨H, 1, none⟩) h.2.2.2).trans h.2.1, next h.2.2.1 hb, Nat.lt_of_lt_of_le h.2.2.2 hb.size⟩
theorem BoxF.drew {w w1 : World} {H : Nat} {x y : Int} (h : BoxF w H x y w1) : BoxF w H x y w1.drew := ⟨h.1, h.2.1, h.2.2.1.drew, h.2.2.2⟩

set_option maxHeartbeats 6400000 in
theorem BestNet_any (A : Option Addr) (n c : Nat) (a : Int) (L : List (Int × Int)) (w : World) (hn : L.length = n) (hm : n ≤ 9223372036854775807) (hr : NRow w w.heap.size A L) :
    Calls Try.prog 24 #[.slice A n c, .int .i64 a] w fun e w' => e = .returned (.int .i64 (bestN L a)) ∧ Below w.heap.size w w' := by
  by_cases hlong : 8 < n
  · have HN := Lib.hid (bestN_long (a := a) (L := L) (by omega))
    have l0 : (8 : Int) < (n : Int) := by omega
    go_enter Try.func24, Try.ntmps24
    go_wp2
    go_ret
    exact ⟨ret_int HN.out.symm, Below.refl _ _⟩
  cases haw : inR a 0 65535
  · have HN := Lib.hid (bestN_word (L := L) haw)
    have l0 : ¬ (8 : Int) < (n : Int) := by omega
    go_enter Try.func24, Try.ntmps24
    go_wp2_with fail
    refine (isWord_any a _).mono ?_
    rintro e w1 ⟨rfl, rfl⟩
    rw [haw]
    clear haw
    go_wp2
    go_ret
    exact ⟨ret_int HN.out.symm, Below.refl _ _⟩
  have l0 : ¬ (8 : Int) < (n : Int) := by omega
  have HW := Lib.hid haw
  go_enter Try.func24, Try.ntmps24
  go_wp2_with fail
  refine (isWord_any a _).mono ?_
  rintro e w1 ⟨rfl, rfl⟩
  rw [haw]
  clear haw
  go_wp2
  go_loopw [5, 18] (fun best i wr => ∃ (k : Nat), k ≤ n ∧ best = .int .i64 (bestUp L a k) ∧ i = .int .i64 k ∧ Below w.heap.size w wr ∧ Hid (∀ i, i < k → vN (L.getD i (0, 0)).1 (L.getD i (0, 0)).2 = true)) (fun _ i _ => n - (intOf i).toNat)
  case atStart => exact ⟨0, Nat.zero_le _, rfl, rfl, Below.refl _ _, Lib.hid (fun i hi => by omega)⟩
  case round wr =>
    obtain ⟨k, hk, rfl, rfl, hB, HV⟩ := hrel
    by_cases hlt : k < n
    · obtain ⟨b, o, rfl, h9, hc⟩ := hr (by omega)
      have HC := Lib.hid hc
      obtain ⟨⟨x, y⟩, hx⟩ : ∃ p, p = L.getD k (0, 0) := ⟨_, rfl⟩
      have hcell : wr.cell? ⟨b, o + k * 2, none⟩ = some (.int .i64 x) := (hB.cell (p := ⟨b, o + k * 2, none⟩) h9).trans (by rw [(hc k (by omega)).1, ← hx])
      have hcell1 : wr.cell? ⟨b, o + k * 2 + 1, none⟩ = some (.int .i64 y) := (hB.cell (p := ⟨b, o + k * 2 + 1, none⟩) h9).trans (by rw [(hc k (by omega)).2, ← hx])
      have HX := Lib.hid hx
      have hbw : w.heap.size ≤ wr.heap.size := hB.size
      clear hx hc hr
      have l1 : (k : Int) < (n : Int) := by omega
      have l2 : (0 : Int) ≤ (k : Int) := by omega
      have HB0 := Lib.hid (hB.alloc hbw (.cells #[.int .i64 x, .int .i64 y] 24))
      cases hv : vN x y
      · have HN := Lib.hid (bestN_bad (a := a) (k := k) (L := L) (by omega) (by rw [← HX.out]; exact hv))
        generalize bestUp L a k = bv
        go_wp2_with fail
        refine (ValidNet_any x y _).mono ?_
        rintro e w1 ⟨rfl, b1⟩
        rw [hv]
        have B1 := next HB0.out b1
        clear b1 hv
        go_wp2
        go_ret
        exact ⟨ret_int HN.out.symm, B1⟩
      have ⟨x0, x9⟩ := inR_iff.1 (vN_word hv)
      have ⟨y0, y9⟩ := inR_iff.1 (vN_bits hv)
      have HVN : Hid (∀ (i : Nat), i < k + 1 → vN (L.getD i (0, 0)).1 (L.getD i (0, 0)).2 = true) := Lib.hid (fun i hi => by
        by_cases e : i = k
        · subst e; rw [← HX.out]; exact hv
        · exact HV.out i (by omega))
      have ⟨r0, r1, r2⟩ := bestUp_range L a k
      cases hh : hasN x y a
      · have HU := Lib.hid (show bestUp L a (k + 1) = bestUp L a k from bestUp_no (better_A HX.out hh))
        clear r0 r1 r2
        generalize bestUp L a k = bv at HU ⊢
        go_wp2_with fail
        refine (ValidNet_any x y _).mono ?_
        rintro e w1 ⟨rfl, b1⟩
        rw [hv]
        clear hv
        have HF1 : Hid (BoxF w wr.heap.size x y w1) := Lib.hid (BoxF.step ⟨(box2 wr _ _ _).1, (box2 wr _ _ _).2, HB0.out, by simp⟩ b1)
        have H0 := Lib.hid HF1.out.drew
        obtain ⟨S, f, hne, HF, HI⟩ := cls_of (BoxF w wr.heap.size x y) HF1.out
        have k0 : ∀ z, (f z).cell? ⟨wr.heap.size, 0, none⟩ = some (.int .i64 x) := fun z => (HF.out z).1
        have k1 : ∀ z, (f z).cell? ⟨wr.heap.size, 1, none⟩ = some (.int .i64 y) := fun z => (HF.out z).2.1
        have c1 := Lib.hid (fun z => cls_call (x := z) HI (fun w' => (HF.out z).step) (has_any x y a (f z) y0 y9 x0 (by omega)))
        rw [hh] at c1
        clear hh b1 hcell hcell1
        go_wp2
        refine wp_region_cls f (by kernel_rfl) (by kernel_rfl) (HI.out _ H0.out) ?_
        repeat (go_big_quiet_step ((first | (go_at_call 31; exact c1.out _))))
        refine wpQuiet_nil ?_
        rintro _ ⟨z, rfl⟩
        have hb2 := (HF.out z).2.2.1
        clear k0 k1
        go_wp2
        go_roundw
        case rel => exact ⟨k + 1, by omega, by rw [HU.out], by go_num, hb2, HVN⟩
        case measure => simp [intOf]; omega
      by_cases hbv : bestUp L a k < 0
      · have HU := Lib.hid (show bestUp L a (k + 1) = (k : Int) from bestUp_yes (better_B HX.out hh hbv))
        clear r0 r1 r2
        have hd : decide (bestUp L a k < 0) = true := decide_eq_true hbv
        clear hbv
        generalize bestUp L a k = bv at hd ⊢
        go_wp2_with fail
        refine (ValidNet_any x y _).mono ?_
        rintro e w1 ⟨rfl, b1⟩
        rw [hv]
        clear hv
        have HF1 : Hid (BoxF w wr.heap.size x y w1) := Lib.hid (BoxF.step ⟨(box2 wr _ _ _).1, (box2 wr _ _ _).2, HB0.out, by simp⟩ b1)
        have H0 := Lib.hid HF1.out.drew
        obtain ⟨S, f, hne, HF, HI⟩ := cls_of (BoxF w wr.heap.size x y) HF1.out
        have k0 : ∀ z, (f z).cell? ⟨wr.heap.size, 0, none⟩ = some (.int .i64 x) := fun z => (HF.out z).1
        have k1 : ∀ z, (f z).cell? ⟨wr.heap.size, 1, none⟩ = some (.int .i64 y) := fun z => (HF.out z).2.1
        have c1 := Lib.hid (fun z => cls_call (x := z) HI (fun w' => (HF.out z).step) (has_any x y a (f z) y0 y9 x0 (by omega)))
        rw [hh] at c1
        clear hh b1 hcell hcell1
        go_wp2
        refine wp_region_cls f (by kernel_rfl) (by kernel_rfl) (HI.out _ H0.out) ?_
        repeat (go_big_quiet_step ((first | (go_at_call 31; exact c1.out _))))
        refine wpQuiet_nil ?_
        rintro _ ⟨z, rfl⟩
        have hb2 := (HF.out z).2.2.1
        clear k0 k1
        go_wp2
        go_roundw
        case rel => exact ⟨k + 1, by omega, by rw [HU.out], by go_num, hb2, HVN⟩
        case measure => simp [intOf]; omega
      obtain ⟨j, hj⟩ := Int.eq_ofNat_of_zero_le (show 0 ≤ bestUp L a k by omega)
      have HJ := Lib.hid hj
      have hjk : j < k := by omega
      have hjl : j < L.length := by omega
      have j1 : (j : Int) < (n : Int) := by omega
      have j2 : (0 : Int) ≤ (j : Int) := by omega
      have j3 : decide ((j : Int) < 0) = false := decide_eq_false (by omega)
      obtain ⟨⟨x', y'⟩, hy⟩ : ∃ p, p = L.getD j (0, 0) := ⟨_, rfl⟩
      have HY := Lib.hid hy
      clear hj hy hbv r0 r1 r2
      by_cases hgt : y' < y
      · have HU := Lib.hid (show bestUp L a (k + 1) = (k : Int) from bestUp_yes (by rw [HJ.out]; exact better_C HX.out HY.out hh hgt))
        rw [HJ.out]
        go_wp2_with fail
        refine (ValidNet_any x y _).mono ?_
        rintro e w1 ⟨rfl, b1⟩
        rw [hv]
        clear hv
        have HF1 : Hid (BoxF w wr.heap.size x y w1) := Lib.hid (BoxF.step ⟨(box2 wr _ _ _).1, (box2 wr _ _ _).2, HB0.out, by simp⟩ b1)
        have H0 := Lib.hid HF1.out.drew
        obtain ⟨S, f, hne, HF, HI⟩ := cls_of (BoxF w wr.heap.size x y) HF1.out
        have k0 : ∀ z, (f z).cell? ⟨wr.heap.size, 0, none⟩ = some (.int .i64 x) := fun z => (HF.out z).1
        have k1 : ∀ z, (f z).cell? ⟨wr.heap.size, 1, none⟩ = some (.int .i64 y) := fun z => (HF.out z).2.1
        have k2 : ∀ z, (f z).cell? ⟨b, o + j * 2 + 1, none⟩ = some (.int .i64 y') := fun z => ((HF.out z).2.2.1.cell (p := ⟨b, o + j * 2 + 1, none⟩) h9).trans (by rw [(HC.out j hjl).2, ← HY.out])
        have c1 := Lib.hid (fun z => cls_call (x := z) HI (fun w' => (HF.out z).step) (has_any x y a (f z) y0 y9 x0 (by omega)))
        rw [hh] at c1
        clear hh b1 hcell hcell1
        have hd : decide (y' < y) = true := decide_eq_true hgt
        clear hgt
        go_wp2
        refine wp_region_cls f (by kernel_rfl) (by kernel_rfl) (HI.out _ H0.out) ?_
        repeat (go_big_quiet_step ((first | (go_at_call 31; exact c1.out _))))
        refine wpQuiet_nil ?_
        rintro _ ⟨z, rfl⟩
        have hb2 := (HF.out z).2.2.1
        clear k0 k1 k2
        go_wp2
        go_roundw
        case rel => exact ⟨k + 1, by omega, by rw [HU.out], by go_num, hb2, HVN⟩
        case measure => simp [intOf]; omega
      · have HU := Lib.hid (show bestUp L a (k + 1) = bestUp L a k from bestUp_no (by rw [HJ.out]; exact better_D HX.out HY.out hh (by omega)))
        rw [HJ.out] at HU ⊢
        go_wp2_with fail
        refine (ValidNet_any x y _).mono ?_
        rintro e w1 ⟨rfl, b1⟩
        rw [hv]
        clear hv
        have HF1 : Hid (BoxF w wr.heap.size x y w1) := Lib.hid (BoxF.step ⟨(box2 wr _ _ _).1, (box2 wr _ _ _).2, HB0.out, by simp⟩ b1)
        have H0 := Lib.hid HF1.out.drew
        obtain ⟨S, f, hne, HF, HI⟩ := cls_of (BoxF w wr.heap.size x y) HF1.out
        have k0 : ∀ z, (f z).cell? ⟨wr.heap.size, 0, none⟩ = some (.int .i64 x) := fun z => (HF.out z).1
        have k1 : ∀ z, (f z).cell? ⟨wr.heap.size, 1, none⟩ = some (.int .i64 y) := fun z => (HF.out z).2.1
        have k2 : ∀ z, (f z).cell? ⟨b, o + j * 2 + 1, none⟩ = some (.int .i64 y') := fun z => ((HF.out z).2.2.1.cell (p := ⟨b, o + j * 2 + 1, none⟩) h9).trans (by rw [(HC.out j hjl).2, ← HY.out])
        have c1 := Lib.hid (fun z => cls_call (x := z) HI (fun w' => (HF.out z).step) (has_any x y a (f z) y0 y9 x0 (by omega)))
        rw [hh] at c1
        clear hh b1 hcell hcell1
        have hd : decide (y' < y) = false := decide_eq_false (by omega)
        clear hgt
        go_wp2
        refine wp_region_cls f (by kernel_rfl) (by kernel_rfl) (HI.out _ H0.out) ?_
        repeat (go_big_quiet_step ((first | (go_at_call 31; exact c1.out _))))
        refine wpQuiet_nil ?_
        rintro _ ⟨z, rfl⟩
        have hb2 := (HF.out z).2.2.1
        clear k0 k1 k2
        go_wp2
        go_roundw
        case rel => exact ⟨k + 1, by omega, by rw [HU.out], by go_num, hb2, HVN⟩
        case measure => simp [intOf]; omega
    · obtain rfl : k = n := by omega
      have HN := Lib.hid (bestN_end (a := a) (L := L) (by omega) HW.out (by rw [hn]; exact HV.out))
      rw [hn] at HN
      generalize bestUp L a k = bv at HN ⊢
      go_wp2
      go_ret
      exact ⟨ret_int HN.out.symm, hB⟩

set_option maxHeartbeats 6400000 in
theorem specBestNet_any (A : Option Addr) (n c : Nat) (a : Int) (L : List (Int × Int)) (w : World) (hn : L.length = n) (hm : n ≤ 9223372036854775807) (hr : NRow w w.heap.size A L) :
    Calls Try.prog 25 #[.slice A n c, .int .i64 a] w fun e w' => e = .returned (.int .i64 (bestN L a)) ∧ Below w.heap.size w w' := by
  by_cases hlong : 8 < n
  · have HN := Lib.hid (bestN_long (a := a) (L := L) (by omega))
    have l0 : (8 : Int) < (n : Int) := by omega
    go_enter Try.func25, Try.ntmps25
    go_wp2
    go_ret
    exact ⟨ret_int HN.out.symm, Below.refl _ _⟩
  cases haw : inR a 0 65535
  · have HN := Lib.hid (bestN_word (L := L) haw)
    have l0 : ¬ (8 : Int) < (n : Int) := by omega
    go_enter Try.func25, Try.ntmps25
    go_wp2_with fail
    refine (validAddr_any a _).mono ?_
    rintro e w1 ⟨rfl, rfl⟩
    rw [haw]
    clear haw
    go_wp2
    go_ret
    exact ⟨ret_int HN.out.symm, Below.refl _ _⟩
  have l0 : ¬ (8 : Int) < (n : Int) := by omega
  have HW := Lib.hid haw
  go_enter Try.func25, Try.ntmps25
  go_wp2_with fail
  refine (validAddr_any a _).mono ?_
  rintro e w1 ⟨rfl, rfl⟩
  rw [haw]
  clear haw
  go_wp2
  go_loopw [5, 6] (fun best i wr => ∃ (k : Nat), k ≤ n ∧ best = .int .i64 (bestUp L a k) ∧ i = .int .i64 k ∧ Below w.heap.size w wr ∧ Hid (∀ i, i < k → vN (L.getD i (0, 0)).1 (L.getD i (0, 0)).2 = true)) (fun _ i _ => n - (intOf i).toNat)
  case atStart => exact ⟨0, Nat.zero_le _, rfl, rfl, Below.refl _ _, Lib.hid (fun i hi => by omega)⟩
  case round wr =>
    obtain ⟨k, hk, rfl, rfl, hB, HV⟩ := hrel
    by_cases hlt : k < n
    · obtain ⟨b, o, rfl, h9, hc⟩ := hr (by omega)
      have HC := Lib.hid hc
      obtain ⟨⟨x, y⟩, hx⟩ : ∃ p, p = L.getD k (0, 0) := ⟨_, rfl⟩
      have hcell : wr.cell? ⟨b, o + k * 2, none⟩ = some (.int .i64 x) := (hB.cell (p := ⟨b, o + k * 2, none⟩) h9).trans (by rw [(hc k (by omega)).1, ← hx])
      have hcell1 : wr.cell? ⟨b, o + k * 2 + 1, none⟩ = some (.int .i64 y) := (hB.cell (p := ⟨b, o + k * 2 + 1, none⟩) h9).trans (by rw [(hc k (by omega)).2, ← hx])
      have HX := Lib.hid hx
      have hbw : w.heap.size ≤ wr.heap.size := hB.size
      clear hx hc hr
      have l1 : (k : Int) < (n : Int) := by omega
      have l2 : (0 : Int) ≤ (k : Int) := by omega
      have HB0 := Lib.hid hB
      cases hv : vN x y
      · have HN := Lib.hid (bestN_bad (a := a) (k := k) (L := L) (by omega) (by rw [← HX.out]; exact hv))
        generalize bestUp L a k = bv
        go_wp2_with fail
        refine (specvalidNet_any x y _).mono ?_
        rintro e w1 ⟨rfl, b1⟩
        rw [hv]
        have B1 := next HB0.out b1
        clear b1 hv
        go_wp2
        go_ret
        exact ⟨ret_int HN.out.symm, B1⟩
      have ⟨x0, x9⟩ := inR_iff.1 (vN_word hv)
      have ⟨y0, y9⟩ := inR_iff.1 (vN_bits hv)
      have HVN : Hid (∀ (i : Nat), i < k + 1 → vN (L.getD i (0, 0)).1 (L.getD i (0, 0)).2 = true) := Lib.hid (fun i hi => by
        by_cases e : i = k
        · subst e; rw [← HX.out]; exact hv
        · exact HV.out i (by omega))
      have ⟨r0, r1, r2⟩ := bestUp_range L a k
      cases hh : hasN x y a
      · have HU := Lib.hid (show bestUp L a (k + 1) = bestUp L a k from bestUp_no (better_A HX.out hh))
        clear r0 r1 r2
        generalize bestUp L a k = bv at HU ⊢
        go_wp2_with fail
        refine (specvalidNet_any x y _).mono ?_
        rintro e w1 ⟨rfl, b1⟩
        rw [hv]
        clear hv
        have HF1 : Hid (Below w.heap.size w w1) := Lib.hid (next HB0.out b1)
        have H0 := Lib.hid HF1.out.drew
        obtain ⟨S, f, hne, HF, HI⟩ := cls_of (Below w.heap.size w) HF1.out
        have k0 : ∀ z, (f z).cell? ⟨b, o + k * 2, none⟩ = some (.int .i64 x) := fun z => ((HF.out z).cell (p := ⟨b, o + k * 2, none⟩) h9).trans (by rw [(HC.out k (by omega)).1, ← HX.out])
        have k1 : ∀ z, (f z).cell? ⟨b, o + k * 2 + 1, none⟩ = some (.int .i64 y) := fun z => ((HF.out z).cell (p := ⟨b, o + k * 2 + 1, none⟩) h9).trans (by rw [(HC.out k (by omega)).2, ← HX.out])
        have c1 := Lib.hid (fun z => cls_call (x := z) HI (fun w' => next (HF.out z)) (specinNet_any x y a (f z) y0 y9 x0 (by omega)))
        rw [hh] at c1
        clear hh b1 hcell hcell1
        go_wp2
        refine wp_region_cls f (by kernel_rfl) (by kernel_rfl) (HI.out _ H0.out) ?_
        repeat (go_big_quiet_step ((first | (go_at_call 33; exact c1.out _))))
        refine wpQuiet_nil ?_
        rintro _ ⟨z, rfl⟩
        have hb2 := HF.out z
        clear k0 k1
        go_wp2
        go_roundw
        case rel => exact ⟨k + 1, by omega, by rw [HU.out], by go_num, hb2, HVN⟩
        case measure => simp [intOf]; omega
      by_cases hbv : bestUp L a k < 0
      · have HU := Lib.hid (show bestUp L a (k + 1) = (k : Int) from bestUp_yes (better_B HX.out hh hbv))
        clear r0 r1 r2
        have hd : decide (bestUp L a k < 0) = true := decide_eq_true hbv
        clear hbv
        generalize bestUp L a k = bv at hd ⊢
        go_wp2_with fail
        refine (specvalidNet_any x y _).mono ?_
        rintro e w1 ⟨rfl, b1⟩
        rw [hv]
        clear hv
        have HF1 : Hid (Below w.heap.size w w1) := Lib.hid (next HB0.out b1)
        have H0 := Lib.hid HF1.out.drew
        obtain ⟨S, f, hne, HF, HI⟩ := cls_of (Below w.heap.size w) HF1.out
        have k0 : ∀ z, (f z).cell? ⟨b, o + k * 2, none⟩ = some (.int .i64 x) := fun z => ((HF.out z).cell (p := ⟨b, o + k * 2, none⟩) h9).trans (by rw [(HC.out k (by omega)).1, ← HX.out])
        have k1 : ∀ z, (f z).cell? ⟨b, o + k * 2 + 1, none⟩ = some (.int .i64 y) := fun z => ((HF.out z).cell (p := ⟨b, o + k * 2 + 1, none⟩) h9).trans (by rw [(HC.out k (by omega)).2, ← HX.out])
        have c1 := Lib.hid (fun z => cls_call (x := z) HI (fun w' => next (HF.out z)) (specinNet_any x y a (f z) y0 y9 x0 (by omega)))
        rw [hh] at c1
        clear hh b1 hcell hcell1
        go_wp2
        refine wp_region_cls f (by kernel_rfl) (by kernel_rfl) (HI.out _ H0.out) ?_
        repeat (go_big_quiet_step ((first | (go_at_call 33; exact c1.out _))))
        refine wpQuiet_nil ?_
        rintro _ ⟨z, rfl⟩
        have hb2 := HF.out z
        clear k0 k1
        go_wp2
        go_roundw
        case rel => exact ⟨k + 1, by omega, by rw [HU.out], by go_num, hb2, HVN⟩
        case measure => simp [intOf]; omega
      obtain ⟨j, hj⟩ := Int.eq_ofNat_of_zero_le (show 0 ≤ bestUp L a k by omega)
      have HJ := Lib.hid hj
      have hjk : j < k := by omega
      have hjl : j < L.length := by omega
      have j1 : (j : Int) < (n : Int) := by omega
      have j2 : (0 : Int) ≤ (j : Int) := by omega
      have j3 : decide ((j : Int) < 0) = false := decide_eq_false (by omega)
      obtain ⟨⟨x', y'⟩, hy⟩ : ∃ p, p = L.getD j (0, 0) := ⟨_, rfl⟩
      have HY := Lib.hid hy
      clear hj hy hbv r0 r1 r2
      by_cases hgt : y' < y
      · have HU := Lib.hid (show bestUp L a (k + 1) = (k : Int) from bestUp_yes (by rw [HJ.out]; exact better_C HX.out HY.out hh hgt))
        rw [HJ.out]
        go_wp2_with fail
        refine (specvalidNet_any x y _).mono ?_
        rintro e w1 ⟨rfl, b1⟩
        rw [hv]
        clear hv
        have HF1 : Hid (Below w.heap.size w w1) := Lib.hid (next HB0.out b1)
        have H0 := Lib.hid HF1.out.drew
        obtain ⟨S, f, hne, HF, HI⟩ := cls_of (Below w.heap.size w) HF1.out
        have k0 : ∀ z, (f z).cell? ⟨b, o + k * 2, none⟩ = some (.int .i64 x) := fun z => ((HF.out z).cell (p := ⟨b, o + k * 2, none⟩) h9).trans (by rw [(HC.out k (by omega)).1, ← HX.out])
        have k1 : ∀ z, (f z).cell? ⟨b, o + k * 2 + 1, none⟩ = some (.int .i64 y) := fun z => ((HF.out z).cell (p := ⟨b, o + k * 2 + 1, none⟩) h9).trans (by rw [(HC.out k (by omega)).2, ← HX.out])
        have k2 : ∀ z, (f z).cell? ⟨b, o + j * 2 + 1, none⟩ = some (.int .i64 y') := fun z => ((HF.out z).cell (p := ⟨b, o + j * 2 + 1, none⟩) h9).trans (by rw [(HC.out j hjl).2, ← HY.out])
        have c1 := Lib.hid (fun z => cls_call (x := z) HI (fun w' => next (HF.out z)) (specinNet_any x y a (f z) y0 y9 x0 (by omega)))
        rw [hh] at c1
        clear hh b1 hcell hcell1
        have hd : decide (y' < y) = true := decide_eq_true hgt
        clear hgt
        go_wp2
        refine wp_region_cls f (by kernel_rfl) (by kernel_rfl) (HI.out _ H0.out) ?_
        repeat (go_big_quiet_step ((first | (go_at_call 33; exact c1.out _))))
        refine wpQuiet_nil ?_
        rintro _ ⟨z, rfl⟩
        have hb2 := HF.out z
        clear k0 k1 k2
        go_wp2
        go_roundw
        case rel => exact ⟨k + 1, by omega, by rw [HU.out], by go_num, hb2, HVN⟩
        case measure => simp [intOf]; omega
      · have HU := Lib.hid (show bestUp L a (k + 1) = bestUp L a k from bestUp_no (by rw [HJ.out]; exact better_D HX.out HY.out hh (by omega)))
        rw [HJ.out] at HU ⊢
        go_wp2_with fail
        refine (specvalidNet_any x y _).mono ?_
        rintro e w1 ⟨rfl, b1⟩
        rw [hv]
        clear hv
        have HF1 : Hid (Below w.heap.size w w1) := Lib.hid (next HB0.out b1)
        have H0 := Lib.hid HF1.out.drew
        obtain ⟨S, f, hne, HF, HI⟩ := cls_of (Below w.heap.size w) HF1.out
        have k0 : ∀ z, (f z).cell? ⟨b, o + k * 2, none⟩ = some (.int .i64 x) := fun z => ((HF.out z).cell (p := ⟨b, o + k * 2, none⟩) h9).trans (by rw [(HC.out k (by omega)).1, ← HX.out])
        have k1 : ∀ z, (f z).cell? ⟨b, o + k * 2 + 1, none⟩ = some (.int .i64 y) := fun z => ((HF.out z).cell (p := ⟨b, o + k * 2 + 1, none⟩) h9).trans (by rw [(HC.out k (by omega)).2, ← HX.out])
        have k2 : ∀ z, (f z).cell? ⟨b, o + j * 2 + 1, none⟩ = some (.int .i64 y') := fun z => ((HF.out z).cell (p := ⟨b, o + j * 2 + 1, none⟩) h9).trans (by rw [(HC.out j hjl).2, ← HY.out])
        have c1 := Lib.hid (fun z => cls_call (x := z) HI (fun w' => next (HF.out z)) (specinNet_any x y a (f z) y0 y9 x0 (by omega)))
        rw [hh] at c1
        clear hh b1 hcell hcell1
        have hd : decide (y' < y) = false := decide_eq_false (by omega)
        clear hgt
        go_wp2
        refine wp_region_cls f (by kernel_rfl) (by kernel_rfl) (HI.out _ H0.out) ?_
        repeat (go_big_quiet_step ((first | (go_at_call 33; exact c1.out _))))
        refine wpQuiet_nil ?_
        rintro _ ⟨z, rfl⟩
        have hb2 := HF.out z
        clear k0 k1 k2
        go_wp2
        go_roundw
        case rel => exact ⟨k + 1, by omega, by rw [HU.out], by go_num, hb2, HVN⟩
        case measure => simp [intOf]; omega
    · obtain rfl : k = n := by omega
      have HN := Lib.hid (bestN_end (a := a) (L := L) (by omega) HW.out (by rw [hn]; exact HV.out))
      rw [hn] at HN
      generalize bestUp L a k = bv at HN ⊢
      go_wp2
      go_ret
      exact ⟨ret_int HN.out.symm, hB⟩
end Go.Proofs.Ytmaecadflilbgaa
