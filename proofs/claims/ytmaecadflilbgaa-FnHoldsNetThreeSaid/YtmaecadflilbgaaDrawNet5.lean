/-
  The generator's arguments: DrawHoldsNet.
-/
import Derived.Test.YtmaecadflilbgaaDrawNet3
import Derived.Test.YtmaecadflilbgaaNet2
namespace Go.Proofs.Ytmaecadflilbgaa
open Go.RowKit
attribute [local go_sem ↓] Go.wp_at_zero Go.wp_at_succ

/-- What DrawHoldsNet leaves. -/
def DrewTwo (w : World) (e : Ending) (w' : World) : Prop :=
  ∃ b s b' s' : Int, e = .returned (.tuple #[.agg #[.int .i64 b, .int .i64 s], .agg #[.int .i64 b', .int .i64 s']]) ∧ Below w.heap.size w w'

/-- What stands while DrawHoldsNet runs: both nets, both results' places, the reader. -/
def HW (w : World) (P ha hb : Nat) (b s b' s' : Int) (w' : World) : Prop :=
  Two w' ha ha b s ∧ Two w' hb hb b' s' ∧ Two w' w.heap.size w.heap.size 0 0 ∧ Two w' (w.heap.size + 1) (w.heap.size + 1) 0 0 ∧ Rd w' (w.heap.size + 2) (w.heap.size + 2) P ∧ Below w.heap.size w w'
section
variable {w w1 w2 : World} {P ha hb : Nat} {b s b' s' : Int}
theorem HW.below (h : HW w P ha hb b s b' s' w1) (k : Below w1.heap.size w1 w2) : HW w P ha hb b s b' s' w2 :=
  ⟨h.1.below k, h.2.1.below k, h.2.2.1.below k, h.2.2.2.1.below k, h.2.2.2.2.1.below k, next h.2.2.2.2.2 k⟩
theorem HW.drew (h : HW w P ha hb b s b' s' w1) : HW w P ha hb b s b' s' w1.drew :=
  ⟨h.1.drew, h.2.1.drew, h.2.2.1.drew, h.2.2.2.1.drew, h.2.2.2.2.1.drew, h.2.2.2.2.2.drew⟩
theorem HW.read {P' : Nat} (h : HW w P ha hb b s b' s' w1) (k : w1.grownBy w2 (some (w.heap.size + 2))) (r : Rd w2 (w.heap.size + 2) (w.heap.size + 2) P') (h1 : w.heap.size + 2 < ha) (h2 : w.heap.size + 2 < hb) : HW w P' ha hb b s b' s' w2 :=
  ⟨h.1.far k (by omega), h.2.1.far k (by omega), h.2.2.1.far k (by omega), h.2.2.2.1.far k (by omega), r, only_below h.2.2.2.2.2 k (by have := h.2.2.2.2.2.size; omega) (by omega)⟩
theorem HW.setb (h : HW w P ha hb b s b' s' w1) (h1 : w.heap.size + 2 < hb) (h2 : ha < hb) (u : Int) : HW w P ha hb b s u s' (w1.setCell ⟨hb, 0, none⟩ (.int .i64 u)) := by
  have g := only_setCell w1 hb 0 (.int .i64 u)
  exact ⟨h.1.far g (by omega), h.2.1.set0 u, h.2.2.1.far g (by omega), h.2.2.2.1.far g (by omega), h.2.2.2.2.1.far g (by omega) (by omega), only_below h.2.2.2.2.2 g (by have := h.2.2.2.2.2.size; omega) (by omega)⟩
theorem HW.at_ (h : HW w P ha hb b s b' s' w1) : w1.cell? ⟨ha, 0, none⟩ = some (.int .i64 b) ∧ w1.cell? ⟨ha, 1, none⟩ = some (.int .i64 s) ∧ w1.cell? ⟨hb, 0, none⟩ = some (.int .i64 b') ∧ w1.cell? ⟨hb, 1, none⟩ = some (.int .i64 s') ∧ w1.frozen? ⟨hb, 0, none⟩ = false :=
  ⟨h.1.at_.1, h.1.at_.2.1, h.2.1.at_.1, h.2.1.at_.2.1, h.2.1.at_.2.2.1⟩
end
/-- The results' places take both nets. -/
theorem HW.fin {w w1 : World} {P ha hb : Nat} {b s b' s' : Int} (h : HW w P ha hb b s b' s' w1) :
    (((((w1.setCell ⟨w.heap.size, 0, none⟩ (.int .i64 b)).setCell ⟨w.heap.size, 1, none⟩ (.int .i64 s)).setCell ⟨w.heap.size + 1, 0, none⟩ (.int .i64 b')).setCell ⟨w.heap.size + 1, 1, none⟩ (.int .i64 s')).cell? ⟨w.heap.size, 0, none⟩ = some (.int .i64 b) ∧ ((((w1.setCell ⟨w.heap.size, 0, none⟩ (.int .i64 b)).setCell ⟨w.heap.size, 1, none⟩ (.int .i64 s)).setCell ⟨w.heap.size + 1, 0, none⟩ (.int .i64 b')).setCell ⟨w.heap.size + 1, 1, none⟩ (.int .i64 s')).cell? ⟨w.heap.size, 1, none⟩ = some (.int .i64 s) ∧ ((((w1.setCell ⟨w.heap.size, 0, none⟩ (.int .i64 b)).setCell ⟨w.heap.size, 1, none⟩ (.int .i64 s)).setCell ⟨w.heap.size + 1, 0, none⟩ (.int .i64 b')).setCell ⟨w.heap.size + 1, 1, none⟩ (.int .i64 s')).cell? ⟨w.heap.size + 1, 0, none⟩ = some (.int .i64 b') ∧ ((((w1.setCell ⟨w.heap.size, 0, none⟩ (.int .i64 b)).setCell ⟨w.heap.size, 1, none⟩ (.int .i64 s)).setCell ⟨w.heap.size + 1, 0, none⟩ (.int .i64 b')).setCell ⟨w.heap.size + 1, 1, none⟩ (.int .i64 s')).cell? ⟨w.heap.size + 1, 1, none⟩ = some (.int .i64 s')) ∧
      Below w.heap.size w ((((w1.setCell ⟨w.heap.size, 0, none⟩ (.int .i64 b)).setCell ⟨w.heap.size, 1, none⟩ (.int .i64 s)).setCell ⟨w.heap.size + 1, 0, none⟩ (.int .i64 b')).setCell ⟨w.heap.size + 1, 1, none⟩ (.int .i64 s')) := by
  have T := ((h.2.2.1.set0 b).set1 s)
  have g0 := only_setCell w1 w.heap.size 0 (.int .i64 b)
  have g1 := only_setCell (w1.setCell ⟨w.heap.size, 0, none⟩ (.int .i64 b)) w.heap.size 1 (.int .i64 s)
  have U := (h.2.2.2.1.far g0 (by omega)).far g1 (by omega)
  have V := ((U.set0 b').set1 s').at_
  have g2 := only_setCell ((w1.setCell ⟨w.heap.size, 0, none⟩ (.int .i64 b)).setCell ⟨w.heap.size, 1, none⟩ (.int .i64 s)) (w.heap.size + 1) 0 (.int .i64 b')
  have g3 := only_setCell (((w1.setCell ⟨w.heap.size, 0, none⟩ (.int .i64 b)).setCell ⟨w.heap.size, 1, none⟩ (.int .i64 s)).setCell ⟨w.heap.size + 1, 0, none⟩ (.int .i64 b')) (w.heap.size + 1) 1 (.int .i64 s')
  have S := ((T.far g2 (by omega)).far g3 (by omega)).at_
  exact ⟨⟨S.1, S.2.1, V.1, V.2.1⟩, (((h.2.2.2.2.2.setCell (p := ⟨w.heap.size, 0, none⟩) (Nat.le_refl _) _).setCell (p := ⟨w.heap.size, 1, none⟩) (Nat.le_refl _) _).setCell (p := ⟨w.heap.size + 1, 0, none⟩) (by simp) _).setCell (p := ⟨w.heap.size + 1, 1, none⟩) (by simp) _⟩

theorem four_drew {v : World} {p q r t : Addr} {a b c d : Option Value} (h : v.cell? p = a ∧ v.cell? q = b ∧ v.cell? r = c ∧ v.cell? t = d) : v.drew.cell? p = a ∧ v.drew.cell? q = b ∧ v.drew.cell? r = c ∧ v.drew.cell? t = d := h
theorem HW.find {w w1 : World} {P ha hb : Nat} {b s b' s' : Int} (h : HW w P ha hb b s b' s' w1) :
    (((((w1.setCell ⟨w.heap.size, 0, none⟩ (.int .i64 b)).setCell ⟨w.heap.size, 1, none⟩ (.int .i64 s)).setCell ⟨w.heap.size + 1, 0, none⟩ (.int .i64 b')).setCell ⟨w.heap.size + 1, 1, none⟩ (.int .i64 s')).drew.cell? ⟨w.heap.size, 0, none⟩ = some (.int .i64 b) ∧ ((((w1.setCell ⟨w.heap.size, 0, none⟩ (.int .i64 b)).setCell ⟨w.heap.size, 1, none⟩ (.int .i64 s)).setCell ⟨w.heap.size + 1, 0, none⟩ (.int .i64 b')).setCell ⟨w.heap.size + 1, 1, none⟩ (.int .i64 s')).drew.cell? ⟨w.heap.size, 1, none⟩ = some (.int .i64 s) ∧ ((((w1.setCell ⟨w.heap.size, 0, none⟩ (.int .i64 b)).setCell ⟨w.heap.size, 1, none⟩ (.int .i64 s)).setCell ⟨w.heap.size + 1, 0, none⟩ (.int .i64 b')).setCell ⟨w.heap.size + 1, 1, none⟩ (.int .i64 s')).drew.cell? ⟨w.heap.size + 1, 0, none⟩ = some (.int .i64 b') ∧ ((((w1.setCell ⟨w.heap.size, 0, none⟩ (.int .i64 b)).setCell ⟨w.heap.size, 1, none⟩ (.int .i64 s)).setCell ⟨w.heap.size + 1, 0, none⟩ (.int .i64 b')).setCell ⟨w.heap.size + 1, 1, none⟩ (.int .i64 s')).drew.cell? ⟨w.heap.size + 1, 1, none⟩ = some (.int .i64 s')) ∧
      Below w.heap.size w ((((w1.setCell ⟨w.heap.size, 0, none⟩ (.int .i64 b)).setCell ⟨w.heap.size, 1, none⟩ (.int .i64 s)).setCell ⟨w.heap.size + 1, 0, none⟩ (.int .i64 b')).setCell ⟨w.heap.size + 1, 1, none⟩ (.int .i64 s')).drew := ⟨four_drew h.fin.1, h.fin.2.drew⟩

set_option maxHeartbeats 3200000 in
theorem DrawHoldsNet_any (a : Option Addr) (n c : Nat) (w : World) (hb : Bytes w a n) (hnc : n ≤ c) (hc : c ≤ 9223372036854775807) :
    Calls Try.prog 12 #[.slice a n c] w (DrewTwo w) := by
  have HT0 := Lib.hid ((Two.new_at w w.heap.size rfl 24 0 0).alloc (.cells #[.int .i64 0, .int .i64 0] 24))
  have HT1 := Lib.hid (Two.new_at (w.alloc (.cells #[.int .i64 0, .int .i64 0] 24)) (w.heap.size + 1) (by simp) 24 0 0)
  have HB0 := Lib.hid (((Below.refl w.heap.size w).alloc (Nat.le_refl _) (.cells #[.int .i64 0, .int .i64 0] 24)).alloc (by simp) (.cells #[.int .i64 0, .int .i64 0] 24))
  have hb1 := (hb.alloc (.cells #[.int .i64 0, .int .i64 0] 24)).alloc (.cells #[.int .i64 0, .int .i64 0] 24)
  clear hb
  go_enter Try.func12, Try.ntmps12
  go_wp2_with fail
  refine (newReader_any a n c _ hb1 hnc hc).mono ?_
  rintro e w1 ⟨rfl, r1, b1, z1⟩
  have T0 := Lib.hid (HT0.out.below b1)
  have T1 := Lib.hid (HT1.out.below b1)
  have B1 := Lib.hid (next HB0.out b1)
  simp at r1 z1
  have hl := T1.out.lt.2
  clear b1 HT0 HT1 HB0 hb1
  go_wp2_with fail
  refine (anyNet_any (w.heap.size + 2) (w.heap.size + 2) 0 _ r1 (by omega)).mono ?_
  rintro e w2 ⟨x, s, rfl, hQ, r2, g2⟩
  have hl2 := g2.size
  have A2 := Lib.hid (Two.new_at w2 w2.heap.size rfl 24 x s)
  have U0 := Lib.hid ((T0.out.far g2 (by omega)).alloc (.cells #[.int .i64 x, .int .i64 s] 24))
  have U1 := Lib.hid ((T1.out.far g2 (by omega)).alloc (.cells #[.int .i64 x, .int .i64 s] 24))
  have B2 := Lib.hid ((only_below B1.out g2 (by omega) (by omega)).alloc (by omega) (.cells #[.int .i64 x, .int .i64 s] 24))
  have R2 := r2.alloc (.cells #[.int .i64 x, .int .i64 s] 24)
  clear g2 r2 r1 T0 T1 B1
  go_wp2_with fail
  refine (anyNet_any (w.heap.size + 2) (w.heap.size + 2) 8 _ R2 (by omega)).mono ?_
  rintro e w3 ⟨x', s', rfl, hQ', r3, g3⟩
  have hl3 := g3.size
  simp at hl3
  have H3 := Lib.hid (show HW w 16 w2.heap.size w3.heap.size x s x' s' (w3.alloc (.cells #[.int .i64 x', .int .i64 s'] 24)) from
    ⟨(A2.out.far g3 (by omega)).alloc _, Two.new_at w3 _ rfl 24 x' s', (U0.out.far g3 (by omega)).alloc _, (U1.out.far g3 (by omega)).alloc _, r3.alloc _, (only_below B2.out g3 (by simp; omega) (by omega)).alloc (by omega) _⟩)
  have hA : w.heap.size + 2 < w2.heap.size := by omega
  have hAB : w2.heap.size < w3.heap.size := by omega
  clear g3 r3 R2 A2 U0 U1 B2 hl hl2 hl3 z1
  have ⟨q0, q1, q2, q3, q4⟩ := H3.out.at_
  go_wp2_with fail
  refine (specvalidNet_any x s _).mono ?_
  rintro e w4 ⟨rfl, b4⟩
  have H4 := Lib.hid (H3.out.below b4)
  clear b4 H3 q0 q1 q2 q3 q4
  have ⟨q0, q1, q2, q3, q4⟩ := H4.out.at_
  cases hv : vN x s
  · have E := Lib.hid (H4.out.find)
    have ⟨p0, p1, p2, p3⟩ := H4.out.2.2.1.at_
    have ⟨y0, y1, y2, y3⟩ := H4.out.2.2.2.1.at_
    have n1 : w2.heap.size ≠ w.heap.size := by omega
    have n2 : w3.heap.size ≠ w.heap.size := by omega
    have n3 : w2.heap.size ≠ w.heap.size + 1 := by omega
    have n4 : w3.heap.size ≠ w.heap.size + 1 := by omega
    go_wp2
    go_region
    all_goals go_wp2
    all_goals exact bodyPost_ret (v := .tuple #[.agg #[.int .i64 x, .int .i64 s], .agg #[.int .i64 x', .int .i64 s']]) (results_two_two (g := w.heap.size) (g' := w.heap.size + 1) rfl _ _ _ _ _ _ _ _ rfl E.out.1.1 E.out.1.2.1 rfl E.out.1.2.2.1 E.out.1.2.2.2 Try.underlying24 rfl (by kernel_rfl) Try.underlying24 rfl (by kernel_rfl)) rfl ⟨x, s, x', s', rfl, E.out.2⟩
  · have HV := Lib.hid hv
    clear hv
    go_wp2_with fail
    refine (specvalidNet_any x' s' _).mono ?_
    rintro e w5 ⟨rfl, b5⟩
    have H5 := Lib.hid (H4.out.below b5)
    clear b5 H4 q0 q1 q2 q3 q4
    have ⟨q0, q1, q2, q3, q4⟩ := H5.out.at_
    cases hv' : vN x' s'
    · have E := Lib.hid (H5.out.find)
      have ⟨p0, p1, p2, p3⟩ := H5.out.2.2.1.at_
      have ⟨y0, y1, y2, y3⟩ := H5.out.2.2.2.1.at_
      have n1 : w2.heap.size ≠ w.heap.size := by omega
      have n2 : w3.heap.size ≠ w.heap.size := by omega
      have n3 : w2.heap.size ≠ w.heap.size + 1 := by omega
      have n4 : w3.heap.size ≠ w.heap.size + 1 := by omega
      go_wp2
      go_region
      all_goals go_wp2
      all_goals exact bodyPost_ret (v := .tuple #[.agg #[.int .i64 x, .int .i64 s], .agg #[.int .i64 x', .int .i64 s']]) (results_two_two (g := w.heap.size) (g' := w.heap.size + 1) rfl _ _ _ _ _ _ _ _ rfl E.out.1.1 E.out.1.2.1 rfl E.out.1.2.2.1 E.out.1.2.2.2 Try.underlying24 rfl (by kernel_rfl) Try.underlying24 rfl (by kernel_rfl)) rfl ⟨x, s, x', s', rfl, E.out.2⟩
    · have HV' := Lib.hid hv'
      clear hv'
      go_wp2_with fail
      refine (pick_any (w.heap.size + 2) (w.heap.size + 2) 16 2 _ H5.out.2.2.2.2.1 (by omega)).mono ?_
      rintro e w6 ⟨m, rfl, -, r6, g6⟩
      have H6 := Lib.hid (H5.out.read g6 r6 (by omega) (by omega))
      clear g6 r6 H5 q0 q1 q2 q3 q4
      have ⟨q0, q1, q2, q3, q4⟩ := H6.out.at_
      by_cases hm : m = 0
      · subst hm
        have ⟨s0, s1⟩ := inR_iff.1 (vN_bits HV.out)
        have ⟨x0, x9⟩ := inR_iff.1 (vN_word HV.out)
        have hp := szN_pos s
        have hq := szN_le s0
        have hp2 : ¬ szN s = 0 := by omega
        have hp0 : (szN s == 0) = false := by simp; omega
        have H6' := H6.out.drew
        go_wp2
        go_region_held3 (fun w' => w'.cell? ⟨w2.heap.size, 0, none⟩ = some (.int .i64 x) ∧ w'.cell? ⟨w2.heap.size, 1, none⟩ = some (.int .i64 s)) (first | go_keep | exact ⟨(HW.setb H8 (by omega) (by omega) _).at_.1, (HW.setb H8 (by omega) (by omega) _).at_.2.1⟩)
          (first
          | (go_at_call 29; refine (pick_any (w.heap.size + 2) (w.heap.size + 2) 17 250 _ (HW.drew (by assumption)).2.2.2.2.1 (by omega)).mono ?_; rintro e w7 ⟨m, rfl, ⟨m0, m1⟩, r7, g7⟩; have H7 := HW.read (by assumption) g7 r7 (by omega) (by omega); have ⟨q0, q1, q2, q3, q4⟩ := H7.at_; have f0 : m.tmod (szN s) = m % szN s := Int.tmod_eq_emod_of_nonneg m0; have f1 := Int.emod_nonneg m hp2; have f2 := Int.emod_lt_of_pos m (show 0 < szN s by omega); have f3 : IntKind.i64.wrap (m % szN s) = m % szN s := wrap_in (by omega); have f4 : IntKind.i64.wrap (x + m % szN s) = x + m % szN s := wrap_in (by omega))
          | (go_at_call 30; refine (specsize_any x s _ s0 s1).mono ?_; rintro e w8 ⟨rfl, b8⟩; have H8 := HW.below H7 b8; have ⟨q0, q1, q2, q3, q4⟩ := H8.at_))
        have ⟨s0', s9'⟩ := inR_iff.1 (vN_bits HV'.out)
        have z0 : 0 ≤ x + m % szN s := by omega
        have z9 : x + m % szN s ≤ 262144 := by omega
        have H9 := HW.setb H8 (by omega) (by omega) (x + m % szN s)
        rename_i hHeld
        clear hHeld f0 f1 f2 f3 f4 q0 q1 q2 q3 q4 H8 b8 H7 g7 r7 H6 H6' hp hq hp2 hp0
        generalize x + m % szN s = z at z0 z9 H9 ⊢
        have hp := szN_pos s'
        have hp2 : ¬ szN s' = 0 := by omega
        have hp0 : (szN s' == 0) = false := by simp; omega
        have e0 : z.tmod (szN s') = z % szN s' := Int.tmod_eq_emod_of_nonneg z0
        have e1 := Int.emod_nonneg z hp2
        have e2 := Int.emod_lt_of_pos z (show 0 < szN s' by omega)
        have e3 : z % szN s' ≤ z := by have := Int.mul_ediv_add_emod z (szN s'); have := Int.mul_nonneg (show 0 ≤ szN s' by omega) (Int.ediv_nonneg z0 (show 0 ≤ szN s' by omega)); omega
        obtain ⟨r, hr⟩ : ∃ r, r = z % szN s' := ⟨_, rfl⟩
        rw [← hr] at e0 e1 e2 e3
        have e4 : IntKind.i64.wrap (z - r) = z - r := wrap_in (by omega)
        have e5 : IntKind.i64.wrap r = r := wrap_in (by omega)
        clear hr
        have ⟨q0, q1, q2, q3, q4⟩ := H9.at_
        have H0 := Lib.hid H9.drew
        obtain ⟨S, f, hne, HF, HI⟩ := cls_of (HW w (17 + 1) w2.heap.size w3.heap.size x s z s') H9.drew
        have HH9 := Lib.hid H9
        clear H9
        go_wp2
        clear q0 q1 q2 q3 q4
        have k0 : ∀ y, (f y).cell? ⟨w3.heap.size, 0, none⟩ = some (.int .i64 z) := fun y => (HF.out y).at_.2.2.1
        have k1 : ∀ y, (f y).cell? ⟨w3.heap.size, 1, none⟩ = some (.int .i64 s') := fun y => (HF.out y).at_.2.2.2.1
        have c1 := Lib.hid (fun y => cls_call (x := y) HI (fun w' => (HF.out y).below) (specsize_any z s' (f y) s0' s9'))
        refine wp_region_cls_tail f 8 (by kernel_rfl) (by decide) (by kernel_rfl) (by kernel_rfl) (by kernel_rfl) (HI.out _ H0.out) ?_
        simp only [List.take_succ_cons, List.take_zero, List.drop_succ_cons, List.drop_zero]
        repeat (go_big_quiet_step ((first | (go_at_call 30; exact c1.out _))))
        refine wpQuiet_nil ?_
        rintro _ ⟨y, rfl⟩
        have H10 := HF.out y
        generalize f y = w8' at H10 ⊢
        clear k0 k1 c1 HF HI H0
        have ⟨q0, q1, q2, q3, q4⟩ := H10.at_
        have H11 := HW.setb H10 (by omega) (by omega) (z - r)
        clear H10
        go_wp2
        clear q0 q1 q2 q3 q4
        have ⟨q0, q1, q2, q3, q4⟩ := H11.at_
        have E := Lib.hid (H11.find)
        have ⟨p0, p1, p2, p3⟩ := H11.2.2.1.at_
        have ⟨y0, y1, y2, y3⟩ := H11.2.2.2.1.at_
        have n1 : w2.heap.size ≠ w.heap.size := by omega
        have n2 : w3.heap.size ≠ w.heap.size := by omega
        have n3 : w2.heap.size ≠ w.heap.size + 1 := by omega
        have n4 : w3.heap.size ≠ w.heap.size + 1 := by omega
        go_wp2
        go_region
        all_goals go_wp2
        all_goals exact bodyPost_ret (v := .tuple #[.agg #[.int .i64 x, .int .i64 s], .agg #[.int .i64 (z - r), .int .i64 s']]) (results_two_two (g := w.heap.size) (g' := w.heap.size + 1) rfl _ _ _ _ _ _ _ _ rfl E.out.1.1 E.out.1.2.1 rfl E.out.1.2.2.1 E.out.1.2.2.2 Try.underlying24 rfl (by kernel_rfl) Try.underlying24 rfl (by kernel_rfl)) rfl ⟨x, s, (z - r), s', rfl, E.out.2⟩
      · have hm' : (m == 0) = false := by simpa using hm
        have E := Lib.hid (H6.out.find)
        have ⟨p0, p1, p2, p3⟩ := H6.out.2.2.1.at_
        have ⟨y0, y1, y2, y3⟩ := H6.out.2.2.2.1.at_
        have n1 : w2.heap.size ≠ w.heap.size := by omega
        have n2 : w3.heap.size ≠ w.heap.size := by omega
        have n3 : w2.heap.size ≠ w.heap.size + 1 := by omega
        have n4 : w3.heap.size ≠ w.heap.size + 1 := by omega
        go_wp2
        go_region
        all_goals go_wp2
        all_goals exact bodyPost_ret (v := .tuple #[.agg #[.int .i64 x, .int .i64 s], .agg #[.int .i64 x', .int .i64 s']]) (results_two_two (g := w.heap.size) (g' := w.heap.size + 1) rfl _ _ _ _ _ _ _ _ rfl E.out.1.1 E.out.1.2.1 rfl E.out.1.2.2.1 E.out.1.2.2.2 Try.underlying24 rfl (by kernel_rfl) Try.underlying24 rfl (by kernel_rfl)) rfl ⟨x, s, x', s', rfl, E.out.2⟩
end Go.Proofs.Ytmaecadflilbgaa
