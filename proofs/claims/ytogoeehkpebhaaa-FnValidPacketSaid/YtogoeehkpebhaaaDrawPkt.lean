/-
  The generator's packets: someEnd, somePacket, anyPacket, DrawValidPacket. (Written by gendrawpkt.py.)
-/
import Derived.Test.YtogoeehkpebhaaaDrawInts
import Derived.Test.YtogoeehkpebhaaaPkt2
namespace Go.Proofs.Ytogoeehkpebhaaa
open Go.RowKit

/-- Writes into a block that is new. -/
theorem only_new {w0 w w' : World} {R g : Nat} (h : w0.grownBy w (some R)) (hg : w.grownBy w' (some g)) (hn : w0.heap.size ≤ g) : w0.grownBy w' (some R) := h.andThen hg (by intro j hj; injection hj with hj; omega)

/-- What someEnd leaves. -/
def GaveEnd (w : World) (B R P : Nat) (e : Ending) (w' : World) : Prop := ∃ x y : Int, e = .returned (.agg #[.int .i64 x, .int .i64 y]) ∧ Rd w' B R P ∧ w.grownBy w' (some R)

set_option maxHeartbeats 1600000 in
theorem someEnd_any (B R P : Nat) (w : World) (h : Rd w B R P) (hP : P ≤ 800000) : Calls Try.prog 58 #[.pointer (some ⟨R, 0, none⟩)] w (GaveEnd w B R (P + 12)) := by
  have hRl := h.lt
  have hlow := h.low
  have K0 := Lib.hid (Box.new_at w w.heap.size rfl 24 #[.int .i64 0, .int .i64 0] (by simp [maxLen]))
  have G0 := Lib.hid (World.grownBy_alloc w (.cells #[.int .i64 0, .int .i64 0] 24) (some R))
  have r0 := h.alloc (.cells #[.int .i64 0, .int .i64 0] 24)
  clear h
  go_enter Try.func58, Try.ntmps58
  go_wp2_with fail
  refine (someWord_any B R P _ r0 (by omega)).mono ?_
  rintro e w1 ⟨m1, rfl, -, r1, g1⟩
  have K1 := Lib.hid ((K0.out.far g1 (by omega)).alloc (.cells (([2560, 2561, 2562, 2815, 5000, 7000, 51457, m1] : List Int).map (Value.int .i64)).toArray 3))
  have G1 := Lib.hid ((G0.out.trans g1).trans (World.grownBy_alloc w1 (.cells (([2560, 2561, 2562, 2815, 5000, 7000, 51457, m1] : List Int).map (Value.int .i64)).toArray 3) (some R)))
  have hr1 := r1.lt
  clear g1 r0 K0 G0
  go_wp2_with fail
  refine (one_any B R (P + 5) w1.heap.size 0 8 8 [2560, 2561, 2562, 2815, 5000, 7000, 51457, m1] _ (r1.alloc _) (by omega) (by simp) rfl (by omega) (by omega) (by omega) (lit_cells w1 3 _)).mono ?_
  rintro e w2 ⟨x, rfl, -, r2, g2⟩
  have K2 := Lib.hid (K1.out.far g2 (by omega))
  have G2 := Lib.hid (G1.out.trans g2)
  clear g2 r1 K1 G1
  go_wp2_with fail
  refine (someWord_any B R (P + 5 + 1) _ r2 (by omega)).mono ?_
  rintro e w3 ⟨m3, rfl, -, r3, g3⟩
  have K3 := Lib.hid ((K2.out.far g3 (by omega)).alloc (.cells (([1000, 1001, 80, 1003, 5000, 1007, m3] : List Int).map (Value.int .i64)).toArray 3))
  have G3 := Lib.hid ((G2.out.trans g3).trans (World.grownBy_alloc w3 (.cells (([1000, 1001, 80, 1003, 5000, 1007, m3] : List Int).map (Value.int .i64)).toArray 3) (some R)))
  have hr3 := r3.lt
  clear g3 r2 K2 G2
  go_wp2_with fail
  refine (one_any B R (P + 5 + 1 + 5) w3.heap.size 0 7 7 [1000, 1001, 80, 1003, 5000, 1007, m3] _ (r3.alloc _) (by omega) (by simp) rfl (by omega) (by omega) (by omega) (lit_cells w3 3 _)).mono ?_
  rintro e w4 ⟨y, rfl, -, r4, g4⟩
  have K4 := K3.out.far g4 (by omega)
  have G4 := G3.out.trans g4
  clear g4 r3 K3 G3
  have u0 := K4.at_ 0 rfl
  have u1 := K4.at_ 1 rfl
  have h0 := K4.free 0 (by simp)
  have h1 := K4.free 1 (by simp)
  have RF := Lib.hid ((K4.set 0 (by simp) (.int .i64 x)).set 1 (by simp) (.int .i64 y))
  have GG := (only_setCell w4 w.heap.size 0 (.int .i64 x)).trans (only_setCell _ w.heap.size 1 (.int .i64 y))
  have GF := Lib.hid (only_new G4 GG (Nat.le_refl _))
  have RR := Lib.hid (r4.far GG (by omega) (by omega))
  clear GG K4 G4 r4
  go_wp2
  refine bodyPost_ret (v := .agg #[.int .i64 x, .int .i64 y]) (results_cells (g := w.heap.size) rfl _ _ [.int .i64 x, .int .i64 y] _ rfl (fun j v hv => RF.out.at_ j hv) Try.underlying24 rfl (by kernel_rfl)) rfl ⟨x, y, rfl, RR.out.mono (by omega), GF.out⟩

/-- What a generator of packets leaves. -/
def GavePkt (w : World) (B R P Mx : Nat) (e : Ending) (w' : World) : Prop :=
  ∃ (kd fa fp ta tp : Int) (g o n cap : Nat) (xs : List Int), e = .returned (.agg #[.int .i64 kd, .int .i64 fa, .int .i64 fp, .int .i64 ta, .int .i64 tp, .slice (some ⟨g, o, none⟩) n cap]) ∧ xs.length = n ∧ n ≤ Mx ∧ Mine w' w.heap.size 1 (some ⟨g, o, none⟩) n cap (xs.map (Value.int .i64)) ∧ Rd w' B R P ∧ w.grownBy w' (some R)

set_option maxHeartbeats 6400000 in
theorem somePacket_any (B R P : Nat) (w : World) (h : Rd w B R P) (hP : P ≤ 700000) : Calls Try.prog 46 #[.pointer (some ⟨R, 0, none⟩)] w (GavePkt w B R (P + 86) 12) := by
  obtain ⟨i0, hi, hz0, hz1, hz2⟩ := info_parts int_info
  have HI := Lib.hid hi
  have HZ := Lib.hid hz0
  have HS := Lib.hid hz1
  have HY := Lib.hid hz2
  clear hi hz0 hz1 hz2
  have hRl := h.lt
  have hlow := h.low
  have K0 := Lib.hid (Box.new_at w w.heap.size rfl 27 #[.int .i64 0, .int .i64 0, .int .i64 0, .int .i64 0, .int .i64 0, .slice none 0 0] (by simp [maxLen]))
  have G0 := Lib.hid (World.grownBy_alloc w (.cells #[.int .i64 0, .int .i64 0, .int .i64 0, .int .i64 0, .int .i64 0, .slice none 0 0] 27) (some R))
  have r0 := h.alloc (.cells #[.int .i64 0, .int .i64 0, .int .i64 0, .int .i64 0, .int .i64 0, .slice none 0 0] 27)
  clear h
  go_enter Try.func46, Try.ntmps46
  go_wp2_with fail
  refine (pick_any B R P 3 _ r0 (by omega)).mono ?_
  rintro e w1 ⟨kd, rfl, -, r1, g1⟩
  have K1 := Lib.hid (K0.out.far g1 (by omega))
  have G1 := Lib.hid (G0.out.trans g1)
  clear g1 r0 K0 G0
  go_wp2_with fail
  refine (someEnd_any B R (P + 1) _ r1 (by omega)).mono ?_
  rintro e w2 ⟨fa, fp, rfl, r2, g2⟩
  have K2 := Lib.hid (K1.out.far g2 (by omega))
  have G2 := Lib.hid (G1.out.trans g2)
  clear g2 r1 K1 G1
  go_wp2_with fail
  refine (someEnd_any B R (P + 1 + 12) _ r2 (by omega)).mono ?_
  rintro e w3 ⟨ta, tp, rfl, r3, g3⟩
  have K3 := Lib.hid (K2.out.far g3 (by omega))
  have G3 := Lib.hid (G2.out.trans g3)
  have z3 := G3.out.size
  have y3 := (K3.out.lt).2
  clear g3 r2 K2 G2
  have E1 := (Mine.new w3 3 1 0 #[] rfl (by simp [maxLen]))
  have E2 := Lib.hid ((E1.alloc (.cells #[.int .i64 kd, .int .i64 fa, .int .i64 fp, .int .i64 ta, .int .i64 tp, .slice (some ⟨w3.heap.size, 0, none⟩) 0 0] 27)).alloc (.cells (([2, 3, 1, 0, 5, 12] : List Int).map (Value.int .i64)).toArray 3))
  have O3 := Lib.hid ((Box.new_at (w3.alloc (.cells #[] 3)) (w3.heap.size + 1) (by simp) 27 #[.int .i64 kd, .int .i64 fa, .int .i64 fp, .int .i64 ta, .int .i64 tp, .slice (some ⟨w3.heap.size, 0, none⟩) 0 0] (by simp [maxLen])).alloc (.cells (([2, 3, 1, 0, 5, 12] : List Int).map (Value.int .i64)).toArray 3))
  have K4 := Lib.hid (((K3.out.alloc (.cells #[] 3)).alloc (.cells #[.int .i64 kd, .int .i64 fa, .int .i64 fp, .int .i64 ta, .int .i64 tp, .slice (some ⟨w3.heap.size, 0, none⟩) 0 0] 27)).alloc (.cells (([2, 3, 1, 0, 5, 12] : List Int).map (Value.int .i64)).toArray 3))
  have G4 := Lib.hid (((G3.out.trans (World.grownBy_alloc w3 (.cells #[] 3) (some R))).trans (World.grownBy_alloc _ (.cells #[.int .i64 kd, .int .i64 fa, .int .i64 fp, .int .i64 ta, .int .i64 tp, .slice (some ⟨w3.heap.size, 0, none⟩) 0 0] 27) (some R))).trans (World.grownBy_alloc _ (.cells (([2, 3, 1, 0, 5, 12] : List Int).map (Value.int .i64)).toArray 3) (some R)))
  have r4 := (r3.alloc (.cells #[] 3)).alloc (.cells #[.int .i64 kd, .int .i64 fa, .int .i64 fp, .int .i64 ta, .int .i64 tp, .slice (some ⟨w3.heap.size, 0, none⟩) 0 0] 27)
  have hr4 := r4.lt
  clear E1 K3 G3 r3
  go_wp2_with fail
  refine (one_any B R (P + 1 + 12 + 12) (w3.heap.size + 2) 0 6 6 [2, 3, 1, 0, 5, 12] _ (r4.alloc _) (by simp at hr4; omega) (by simp) rfl (by omega) (by omega) (by omega) (lit_cells_at _ 3 _ _ (by simp))).mono ?_
  rintro e w5 ⟨m, rfl, hm, r5, g5⟩
  have hm' : 0 ≤ m ∧ m ≤ 12 := by
    simp only [List.mem_cons, List.not_mem_nil, or_false] at hm
    omega
  obtain ⟨hm0, hm1⟩ := hm'
  have E5 := Lib.hid ((E2.out.mono z3).far g5 (by omega))
  have O5 := Lib.hid (O3.out.far g5 (by omega))
  have K5 := Lib.hid (K4.out.far g5 (by omega))
  have G5 := Lib.hid (G4.out.trans g5)
  obtain ⟨gp, hgp⟩ : ∃ gp, gp = w3.heap.size + 1 := ⟨_, rfl⟩
  have HGP := Lib.hid hgp
  have hgp1 : w.heap.size < gp := by omega
  have hgp2 : w3.heap.size ≠ gp := by omega
  have hgp3 : w.heap.size < w3.heap.size := by omega
  clear hm g5 r4 E2 O3 K4 G4 hr4
  rw [← hgp] at O5
  go_wp2_with fail
  rw [← hgp]
  clear hgp
  go_loopw [4] (fun i wr => ∃ (k : Nat) (j : Int) (g o cap : Nat) (xs : List Int), i = .int .i64 j ∧ 0 ≤ j ∧ (k : Int) + j ≤ 12 ∧ xs.length = k ∧ g ≠ gp ∧ w.heap.size < g ∧ Box wr gp gp [.int .i64 kd, .int .i64 fa, .int .i64 fp, .int .i64 ta, .int .i64 tp, .slice (some ⟨g, o, none⟩) k cap] ∧ Mine wr w.heap.size 1 (some ⟨g, o, none⟩) k cap (xs.map (Value.int .i64)) ∧ Box wr w.heap.size w.heap.size [.int .i64 0, .int .i64 0, .int .i64 0, .int .i64 0, .int .i64 0, .slice none 0 0] ∧ Rd wr B R (P + 26 + 5 * k) ∧ w.grownBy wr (some R))
    (fun i _ => (intOf i).toNat)
  case atStart => exact ⟨0, m, w3.heap.size, 0, 0, [], rfl, hm0, by omega, rfl, hgp2, hgp3, O5.out, E5.out, K5.out, r5.mono (by omega), G5.out⟩
  case round =>
    obtain ⟨k, j, g, o, cap, xs, rfl, hj0, hkj, hxk, hgg, hg0, hO, hM, hK, hR, hG⟩ := hrel
    have OO := Lib.hid hO
    have MM := Lib.hid hM
    have KK := Lib.hid hK
    have GG := Lib.hid hG
    have XK := Lib.hid hxk
    have hgs := hG.size
    have hol := hO.lt.2
    clear hO hM hK hG r5 E5 O5 K5 G5 hm0 hm1
    by_cases hpos : 0 < j
    · have k5 := OO.out.at_ 5 rfl
      go_wp2_with fail
      refine (copyInts_any _ k cap _ xs _ XK.out (by omega) (Nat.le_refl _) MM.out.sees.row).mono ?_
      rintro e w6 ⟨g6, o6, c6, rfl, m6, b6⟩
      have z6 := b6.size
      have M6 := Lib.hid m6
      have O6 := Lib.hid (OO.out.below b6)
      have K6 := Lib.hid (KK.out.below b6)
      have R6 := hR.below b6
      have G6 := Lib.hid (GG.out.trans (only_of_below b6 R))
      have hg6 := (m6.lt rfl).1
      clear b6 m6 k5 MM OO KK GG hR
      go_wp2_with fail
      refine (someWord_any B R _ _ R6 (by omega)).mono ?_
      rintro e w7 ⟨y, rfl, -, r7, g7⟩
      have z7 := g7.size
      have M7 := M6.out.far g7 (by omega)
      have O7 := Lib.hid (O6.out.far g7 (by omega))
      have K7 := Lib.hid (K6.out.far g7 (by omega))
      have G7 := Lib.hid (G6.out.trans g7)
      have hcm := M7.2.2.1
      unfold maxLen at hcm
      have hlen : (xs.map (Value.int .i64)).length = k := by simpa using XK.out
      clear g7 R6 M6 O6 K6 G6
      go_wp2_with (at_builtin; refine wpList_append_mine _ rfl _ _ 25 rfl wr.heap.size 3 i0 (.int .i64 0) 1 8 Try.underlying25 HI.out HZ.out HS.out HY.out rfl (by omega) _ k c6 (xs.map (Value.int .i64)) rfl (M7.alloc _) _ _ 1 1 [.int .i64 y] rfl rfl (Mine.new w7 3 1 1 #[.int .i64 y] rfl (by simp [maxLen])).sees (by simp [Value.oneCell']) (by unfold maxLen; omega) (by omega) (by simp; omega) ?_; intro A' cap' w8 m8 g8 at8; obtain ⟨g', o', rfl⟩ := some_of at8 m8; replace g8 : (w7.alloc (.cells #[.int .i64 y] 3)).grownBy w8 (some g6) := g8; have z8 := g8.size; simp at z8; have hg8 : wr.heap.size ≤ g' := (m8.lt rfl).1; have O8 := (O7.out.alloc (.cells #[.int .i64 y] 3)).far g8 (by omega); have v5 := O8.at_ 5 rfl; have f5 := O8.free 5 (by simp))
      have K8 := (K7.out.alloc (.cells #[.int .i64 y] 3)).far g8 (by omega)
      have r8 := Rd.far (g := g6) (r7.alloc (.cells #[.int .i64 y] 3)) g8 (by omega) (by omega)
      have G8 := only_new (G7.out.trans (World.grownBy_alloc w7 (.cells #[.int .i64 y] 3) (some R))) g8 (by omega)
      have g9 := only_setCell w8 gp 5 (.slice (some ⟨g', o', none⟩) (k + 1) cap')
      have O9 := Lib.hid (O8.set 5 (by simp) (.slice (some ⟨g', o', none⟩) (k + 1) cap'))
      have K9 := Lib.hid (K8.far g9 (by omega))
      have R9 := Lib.hid (r8.far g9 (by omega) (by omega))
      have G9 := Lib.hid (only_new G8 g9 (by omega))
      have M9 := Lib.hid ((m8.mono (base' := w.heap.size) (by omega)).kept g9 (by intro g'' e' e''; simp at e'; injection e'' with e''; omega))
      clear g8 at8 g9 m8 O8 K8 r8 G8 r7 M7 hlen O7 K7 G7
      go_wp2
      go_roundw
      case rel => exact ⟨k + 1, j - 1, g', o', cap', xs ++ [y], rfl, by omega, by omega, by simp [XK.out], by omega, by omega, O9.out, by simpa using M9.out, K9.out, R9.out.mono (by omega), G9.out⟩
      case measure => simp [intOf]; omega
    · have hj : j = 0 := by omega
      subst hj
      have T0 := OO.out.at_ 0 rfl
      have u0 := KK.out.at_ 0 rfl
      have h0 := KK.out.free 0 (by simp)
      have T1 := OO.out.at_ 1 rfl
      have u1 := KK.out.at_ 1 rfl
      have h1 := KK.out.free 1 (by simp)
      have T2 := OO.out.at_ 2 rfl
      have u2 := KK.out.at_ 2 rfl
      have h2 := KK.out.free 2 (by simp)
      have T3 := OO.out.at_ 3 rfl
      have u3 := KK.out.at_ 3 rfl
      have h3 := KK.out.free 3 (by simp)
      have T4 := OO.out.at_ 4 rfl
      have u4 := KK.out.at_ 4 rfl
      have h4 := KK.out.free 4 (by simp)
      have T5 := OO.out.at_ 5 rfl
      have u5 := KK.out.at_ 5 rfl
      have h5 := KK.out.free 5 (by simp)
      have RF := Lib.hid ((((((KK.out.set 0 (by simp) (.int .i64 kd)).set 1 (by simp) (.int .i64 fa)).set 2 (by simp) (.int .i64 fp)).set 3 (by simp) (.int .i64 ta)).set 4 (by simp) (.int .i64 tp)).set 5 (by simp) (.slice (some ⟨g, o, none⟩) k cap))
      have GX := ((((((only_setCell wr w.heap.size 0 (.int .i64 kd)).trans (only_setCell _ w.heap.size 1 (.int .i64 fa))).trans (only_setCell _ w.heap.size 2 (.int .i64 fp))).trans (only_setCell _ w.heap.size 3 (.int .i64 ta))).trans (only_setCell _ w.heap.size 4 (.int .i64 tp))).trans (only_setCell _ w.heap.size 5 (.slice (some ⟨g, o, none⟩) k cap)))
      have GF := Lib.hid (only_new GG.out GX (Nat.le_refl _))
      have RR := Lib.hid (hR.far GX (by omega) (by omega))
      have MF := Lib.hid (MM.out.kept GX (by intro g'' e' e''; simp at e'; injection e'' with e''; omega))
      clear GX
      go_wp2
      refine bodyPost_ret (v := .agg #[.int .i64 kd, .int .i64 fa, .int .i64 fp, .int .i64 ta, .int .i64 tp, .slice (some ⟨g, o, none⟩) k cap]) (results_cells (g := w.heap.size) rfl _ _ [.int .i64 kd, .int .i64 fa, .int .i64 fp, .int .i64 ta, .int .i64 tp, .slice (some ⟨g, o, none⟩) k cap] _ rfl (fun j v hv => RF.out.at_ j hv) Try.underlying27 rfl (by kernel_rfl)) rfl ?_
      exact ⟨kd, fa, fp, ta, tp, g, o, k, cap, xs, rfl, XK.out, by omega, MF.out, RR.out.mono (by omega), GF.out⟩

theorem made13 : (madeCells (Value.int .i64 0).cells (13 * 1)).toList = (List.replicate 13 (0 : Int)).map (Value.int .i64) := by kernel_rfl
set_option maxHeartbeats 6400000 in
theorem anyPacket_any (B R P : Nat) (w : World) (h : Rd w B R P) (hP : P ≤ 600000) : Calls Try.prog 23 #[.pointer (some ⟨R, 0, none⟩)] w (GavePkt w B R (P + 88) 13) := by
  obtain ⟨i0, hi, hz0, hz1, hz2⟩ := info_parts int_info
  have HI := Lib.hid hi
  have HZ := Lib.hid hz0
  have HS := Lib.hid hz1
  have HY := Lib.hid hz2
  clear hi hz0 hz1 hz2
  have hRl := h.lt
  have hlow := h.low
  have K0 := Lib.hid (Box.new_at w w.heap.size rfl 27 #[.int .i64 0, .int .i64 0, .int .i64 0, .int .i64 0, .int .i64 0, .slice none 0 0] (by simp [maxLen]))
  have G0 := Lib.hid (World.grownBy_alloc w (.cells #[.int .i64 0, .int .i64 0, .int .i64 0, .int .i64 0, .int .i64 0, .slice none 0 0] 27) (some R))
  have r0 := h.alloc (.cells #[.int .i64 0, .int .i64 0, .int .i64 0, .int .i64 0, .int .i64 0, .slice none 0 0] 27)
  clear h
  go_enter Try.func23, Try.ntmps23
  go_wp2_with fail
  refine (somePacket_any B R P _ r0 (by omega)).mono ?_
  rintro e w1 ⟨kd, fa, fp, ta, tp, g, o, n, cap, xs, rfl, hxn, h13, m1, r1, g1⟩
  have XN := Lib.hid hxn
  have K1 := Lib.hid ((K0.out.far g1 (by omega)).alloc (.cells #[.int .i64 kd, .int .i64 fa, .int .i64 fp, .int .i64 ta, .int .i64 tp, .slice (some ⟨g, o, none⟩) n cap] 27))
  have G1 := Lib.hid ((G0.out.trans g1).trans (World.grownBy_alloc w1 (.cells #[.int .i64 kd, .int .i64 fa, .int .i64 fp, .int .i64 ta, .int .i64 tp, .slice (some ⟨g, o, none⟩) n cap] 27) (some R)))
  have O1 := Lib.hid (Box.new_at w1 w1.heap.size rfl 27 #[.int .i64 kd, .int .i64 fa, .int .i64 fp, .int .i64 ta, .int .i64 tp, .slice (some ⟨g, o, none⟩) n cap] (by simp [maxLen]))
  have M1 := Lib.hid ((m1.mono (base' := w.heap.size) (by simp)).alloc (.cells #[.int .i64 kd, .int .i64 fa, .int .i64 fp, .int .i64 ta, .int .i64 tp, .slice (some ⟨g, o, none⟩) n cap] 27))
  have r1' := r1.alloc (.cells #[.int .i64 kd, .int .i64 fa, .int .i64 fp, .int .i64 ta, .int .i64 tp, .slice (some ⟨g, o, none⟩) n cap] 27)
  have hg1 : w.heap.size < g := by have := (m1.lt rfl).1; simp at this; omega
  have hg2 : g < w1.heap.size := (m1.lt rfl).2
  clear g1 m1 r1 r0 K0 G0 hxn
  go_wp2_with fail
  refine (pick_any B R (P + 86) 24 _ r1' (by omega)).mono ?_
  rintro e w2 ⟨m, rfl, -, r2, g2⟩
  have z2 := g2.size
  simp at z2
  have K2 := Lib.hid (K1.out.far g2 (by omega))
  have G2 := Lib.hid (G1.out.trans g2)
  have hRg := r2.lt
  have hR1 : R < w1.heap.size := by have := r1'.lt; omega
  have O2 := Lib.hid (O1.out.far g2 (by omega))
  have M2 := Lib.hid (M1.out.far g2 (by omega))
  clear g2 r1' K1 G1 O1 M1
  by_cases hm0 : m = 0
  · subst hm0
    have K3 := Lib.hid (K2.out.alloc (.cells (([-1, 3] : List Int).map (Value.int .i64)).toArray 3))
    have O3 := Lib.hid (O2.out.alloc (.cells (([-1, 3] : List Int).map (Value.int .i64)).toArray 3))
    have M3 := Lib.hid (M2.out.alloc (.cells (([-1, 3] : List Int).map (Value.int .i64)).toArray 3))
    have G3 := Lib.hid (G2.out.trans (World.grownBy_alloc w2 (.cells (([-1, 3] : List Int).map (Value.int .i64)).toArray 3) (some R)))
    go_wp2_with fail
    refine (one_any B R (P + 86 + 1) w2.heap.size 0 2 2 [-1, 3] _ (r2.alloc _) (by omega) (by simp) rfl (by omega) (by omega) (by omega) (lit_cells w2 3 _)).mono ?_
    rintro e w3 ⟨u, rfl, -, r3, g3⟩
    have K4 := K3.out.far g3 (by omega)
    have O4 := O3.out.far g3 (by omega)
    have M4 := M3.out.far g3 (by omega)
    have G4 := G3.out.trans g3
    have z3 := G4.size
    have v0 := O4.at_ 0 rfl
    have f0 := O4.free 0 (by simp)
    have gx := only_setCell w3 w1.heap.size 0 (.int .i64 u)
    have O5 := O4.set 0 (by simp) (.int .i64 u)
    have K5 := K4.far gx (by omega)
    have M5 := M4.kept gx (by intro g'' e' e''; simp at e'; injection e'' with e''; omega)
    have R5 := r3.far gx (by omega) (by omega)
    have G5 := only_new G4 gx (by omega)
    clear K4 O4 M4 G4 g3 r3 K3 O3 M3 G3 r2 K2 O2 M2 G2 gx
    have T0 := O5.at_ 0 rfl
    have u0 := K5.at_ 0 rfl
    have h0 := K5.free 0 (by simp)
    have T1 := O5.at_ 1 rfl
    have u1 := K5.at_ 1 rfl
    have h1 := K5.free 1 (by simp)
    have T2 := O5.at_ 2 rfl
    have u2 := K5.at_ 2 rfl
    have h2 := K5.free 2 (by simp)
    have T3 := O5.at_ 3 rfl
    have u3 := K5.at_ 3 rfl
    have h3 := K5.free 3 (by simp)
    have T4 := O5.at_ 4 rfl
    have u4 := K5.at_ 4 rfl
    have h4 := K5.free 4 (by simp)
    have T5 := O5.at_ 5 rfl
    have u5 := K5.at_ 5 rfl
    have h5 := K5.free 5 (by simp)
    have RF := Lib.hid ((((((K5.set 0 (by simp) (.int .i64 u)).set 1 (by simp) (.int .i64 fa)).set 2 (by simp) (.int .i64 fp)).set 3 (by simp) (.int .i64 ta)).set 4 (by simp) (.int .i64 tp)).set 5 (by simp) (.slice (some ⟨g, o, none⟩) n cap))
    have GG := ((((((only_setCell (w3.setCell ⟨w1.heap.size, 0, none⟩ (.int .i64 u)) w.heap.size 0 (.int .i64 u)).trans (only_setCell _ w.heap.size 1 (.int .i64 fa))).trans (only_setCell _ w.heap.size 2 (.int .i64 fp))).trans (only_setCell _ w.heap.size 3 (.int .i64 ta))).trans (only_setCell _ w.heap.size 4 (.int .i64 tp))).trans (only_setCell _ w.heap.size 5 (.slice (some ⟨g, o, none⟩) n cap)))
    have GF := Lib.hid (only_new G5 GG (Nat.le_refl _))
    have RR := Lib.hid (R5.far GG (by omega) (by omega))
    have MF := Lib.hid (M5.kept GG (by intro g'' e' e''; simp at e'; injection e'' with e''; omega))
    clear GG
    go_wp2
    refine bodyPost_ret (v := .agg #[.int .i64 u, .int .i64 fa, .int .i64 fp, .int .i64 ta, .int .i64 tp, .slice (some ⟨g, o, none⟩) n cap]) (results_cells (g := w.heap.size) rfl _ _ [.int .i64 u, .int .i64 fa, .int .i64 fp, .int .i64 ta, .int .i64 tp, .slice (some ⟨g, o, none⟩) n cap] _ rfl (fun j v hv => RF.out.at_ j hv) Try.underlying27 rfl (by kernel_rfl)) rfl ?_
    exact ⟨u, fa, fp, ta, tp, g, o, n, cap, xs, rfl, XN.out, by omega, MF.out, RR.out.mono (by omega), GF.out⟩
  have q0 : (m == 0) = false := by simpa using hm0
  by_cases hm1 : m = 1
  · subst hm1
    clear hm0
    have K3 := Lib.hid (K2.out.alloc (.cells (([-1, 65536] : List Int).map (Value.int .i64)).toArray 3))
    have O3 := Lib.hid (O2.out.alloc (.cells (([-1, 65536] : List Int).map (Value.int .i64)).toArray 3))
    have M3 := Lib.hid (M2.out.alloc (.cells (([-1, 65536] : List Int).map (Value.int .i64)).toArray 3))
    have G3 := Lib.hid (G2.out.trans (World.grownBy_alloc w2 (.cells (([-1, 65536] : List Int).map (Value.int .i64)).toArray 3) (some R)))
    go_wp2_with fail
    refine (one_any B R (P + 86 + 1) w2.heap.size 0 2 2 [-1, 65536] _ (r2.alloc _) (by omega) (by simp) rfl (by omega) (by omega) (by omega) (lit_cells w2 3 _)).mono ?_
    rintro e w3 ⟨u, rfl, -, r3, g3⟩
    have K4 := K3.out.far g3 (by omega)
    have O4 := O3.out.far g3 (by omega)
    have M4 := M3.out.far g3 (by omega)
    have G4 := G3.out.trans g3
    have z3 := G4.size
    have v2 := O4.at_ 2 rfl
    have f2 := O4.free 2 (by simp)
    have gx := only_setCell w3 w1.heap.size 2 (.int .i64 u)
    have O5 := O4.set 2 (by simp) (.int .i64 u)
    have K5 := K4.far gx (by omega)
    have M5 := M4.kept gx (by intro g'' e' e''; simp at e'; injection e'' with e''; omega)
    have R5 := r3.far gx (by omega) (by omega)
    have G5 := only_new G4 gx (by omega)
    clear K4 O4 M4 G4 g3 r3 K3 O3 M3 G3 r2 K2 O2 M2 G2 gx
    have T0 := O5.at_ 0 rfl
    have u0 := K5.at_ 0 rfl
    have h0 := K5.free 0 (by simp)
    have T1 := O5.at_ 1 rfl
    have u1 := K5.at_ 1 rfl
    have h1 := K5.free 1 (by simp)
    have T2 := O5.at_ 2 rfl
    have u2 := K5.at_ 2 rfl
    have h2 := K5.free 2 (by simp)
    have T3 := O5.at_ 3 rfl
    have u3 := K5.at_ 3 rfl
    have h3 := K5.free 3 (by simp)
    have T4 := O5.at_ 4 rfl
    have u4 := K5.at_ 4 rfl
    have h4 := K5.free 4 (by simp)
    have T5 := O5.at_ 5 rfl
    have u5 := K5.at_ 5 rfl
    have h5 := K5.free 5 (by simp)
    have RF := Lib.hid ((((((K5.set 0 (by simp) (.int .i64 kd)).set 1 (by simp) (.int .i64 fa)).set 2 (by simp) (.int .i64 u)).set 3 (by simp) (.int .i64 ta)).set 4 (by simp) (.int .i64 tp)).set 5 (by simp) (.slice (some ⟨g, o, none⟩) n cap))
    have GG := ((((((only_setCell (w3.setCell ⟨w1.heap.size, 2, none⟩ (.int .i64 u)) w.heap.size 0 (.int .i64 kd)).trans (only_setCell _ w.heap.size 1 (.int .i64 fa))).trans (only_setCell _ w.heap.size 2 (.int .i64 u))).trans (only_setCell _ w.heap.size 3 (.int .i64 ta))).trans (only_setCell _ w.heap.size 4 (.int .i64 tp))).trans (only_setCell _ w.heap.size 5 (.slice (some ⟨g, o, none⟩) n cap)))
    have GF := Lib.hid (only_new G5 GG (Nat.le_refl _))
    have RR := Lib.hid (R5.far GG (by omega) (by omega))
    have MF := Lib.hid (M5.kept GG (by intro g'' e' e''; simp at e'; injection e'' with e''; omega))
    clear GG
    go_wp2
    refine bodyPost_ret (v := .agg #[.int .i64 kd, .int .i64 fa, .int .i64 u, .int .i64 ta, .int .i64 tp, .slice (some ⟨g, o, none⟩) n cap]) (results_cells (g := w.heap.size) rfl _ _ [.int .i64 kd, .int .i64 fa, .int .i64 u, .int .i64 ta, .int .i64 tp, .slice (some ⟨g, o, none⟩) n cap] _ rfl (fun j v hv => RF.out.at_ j hv) Try.underlying27 rfl (by kernel_rfl)) rfl ?_
    exact ⟨kd, fa, u, ta, tp, g, o, n, cap, xs, rfl, XN.out, by omega, MF.out, RR.out.mono (by omega), GF.out⟩
  have q1 : (m == 1) = false := by simpa using hm1
  by_cases hm2 : m = 2
  · subst hm2
    clear hm0 hm1
    have k5 := O2.out.at_ 5 rfl
    go_wp2_with fail
    refine (copyInts_any _ n cap _ xs _ XN.out (by omega) (Nat.le_refl _) M2.out.sees.row).mono ?_
    rintro e w6 ⟨g6, o6, c6, rfl, m6, b6⟩
    have z6 := b6.size
    have M6 := Lib.hid (m6.alloc (.cells (([-1, 65536] : List Int).map (Value.int .i64)).toArray 3))
    have O6 := Lib.hid ((O2.out.below b6).alloc (.cells (([-1, 65536] : List Int).map (Value.int .i64)).toArray 3))
    have K6 := Lib.hid ((K2.out.below b6).alloc (.cells (([-1, 65536] : List Int).map (Value.int .i64)).toArray 3))
    have R6 := r2.below b6
    have G6 := Lib.hid ((G2.out.trans (only_of_below b6 R)).trans (World.grownBy_alloc w6 (.cells (([-1, 65536] : List Int).map (Value.int .i64)).toArray 3) (some R)))
    have hg6 := (m6.lt rfl).1
    have hR6 := R6.lt
    clear b6 m6 k5 M2 O2 K2 G2 r2
    go_wp2_with fail
    refine (one_any B R (P + 86 + 1) w6.heap.size 0 2 2 [-1, 65536] _ (R6.alloc _) (by omega) (by simp) rfl (by omega) (by omega) (by omega) (lit_cells w6 3 _)).mono ?_
    rintro e w7 ⟨y, rfl, -, r7, g7⟩
    have z7 := g7.size
    simp at z7
    have M7 := M6.out.far g7 (by omega)
    have O7 := Lib.hid (O6.out.far g7 (by omega))
    have K7 := Lib.hid (K6.out.far g7 (by omega))
    have G7 := Lib.hid (G6.out.trans g7)
    have hcm := M7.2.2.1
    unfold maxLen at hcm
    have hlen : (xs.map (Value.int .i64)).length = n := by simpa using XN.out
    clear g7 R6 M6 O6 K6 G6
    go_wp2_with (at_builtin; refine wpList_append_mine _ rfl _ _ 25 rfl w2.heap.size 3 i0 (.int .i64 0) 1 8 Try.underlying25 HI.out HZ.out HS.out HY.out rfl (by omega) _ n c6 (xs.map (Value.int .i64)) rfl (M7.alloc _) _ _ 1 1 [.int .i64 y] rfl rfl (Mine.new w7 3 1 1 #[.int .i64 y] rfl (by simp [maxLen])).sees (by simp [Value.oneCell']) (by unfold maxLen; omega) (by omega) (by simp; omega) ?_; intro A' cap' w8 m8 g8 at8; obtain ⟨g', o', rfl⟩ := some_of at8 m8; replace g8 : (w7.alloc (.cells #[.int .i64 y] 3)).grownBy w8 (some g6) := g8; have z8 := g8.size; simp at z8; have hg8 : w2.heap.size ≤ g' := (m8.lt rfl).1; have O8 := (O7.out.alloc (.cells #[.int .i64 y] 3)).far g8 (by omega); have v5 := O8.at_ 5 rfl; have f5 := O8.free 5 (by simp); have K8 := (K7.out.alloc (.cells #[.int .i64 y] 3)).far g8 (by omega); have r8 := Rd.far (g := g6) (r7.alloc (.cells #[.int .i64 y] 3)) g8 (by omega) (by omega); have G8 := only_new (G7.out.trans (World.grownBy_alloc w7 (.cells #[.int .i64 y] 3) (some R))) g8 (by omega); have gx := only_setCell w8 w1.heap.size 5 (.slice (some ⟨g', o', none⟩) (n + 1) cap'); have O5 := O8.set 5 (by simp) (.slice (some ⟨g', o', none⟩) (n + 1) cap'); have K5 := K8.far gx (by omega); have R5 := r8.far gx (by omega) (by omega); have G5 := only_new G8 gx (by omega); have M5 := (m8.mono (base' := w.heap.size) (by omega)).kept gx (by intro g'' e' e''; simp at e'; injection e'' with e''; omega); clear g8 at8 gx m8 K8 r8 G8 r7 M7 hlen O7 K7 G7; have T0 := O5.at_ 0 rfl; have u0 := K5.at_ 0 rfl; have h0 := K5.free 0 (by simp); have T1 := O5.at_ 1 rfl; have u1 := K5.at_ 1 rfl; have h1 := K5.free 1 (by simp); have T2 := O5.at_ 2 rfl; have u2 := K5.at_ 2 rfl; have h2 := K5.free 2 (by simp); have T3 := O5.at_ 3 rfl; have u3 := K5.at_ 3 rfl; have h3 := K5.free 3 (by simp); have T4 := O5.at_ 4 rfl; have u4 := K5.at_ 4 rfl; have h4 := K5.free 4 (by simp); have T5 := O5.at_ 5 rfl; have u5 := K5.at_ 5 rfl; have h5 := K5.free 5 (by simp); have RF := Lib.hid ((((((K5.set 0 (by simp) (.int .i64 kd)).set 1 (by simp) (.int .i64 fa)).set 2 (by simp) (.int .i64 fp)).set 3 (by simp) (.int .i64 ta)).set 4 (by simp) (.int .i64 tp)).set 5 (by simp) (.slice (some ⟨g', o', none⟩) (n + 1) cap')); have GG := ((((((only_setCell (w8.setCell ⟨w1.heap.size, 5, none⟩ (.slice (some ⟨g', o', none⟩) (n + 1) cap')) w.heap.size 0 (.int .i64 kd)).trans (only_setCell _ w.heap.size 1 (.int .i64 fa))).trans (only_setCell _ w.heap.size 2 (.int .i64 fp))).trans (only_setCell _ w.heap.size 3 (.int .i64 ta))).trans (only_setCell _ w.heap.size 4 (.int .i64 tp))).trans (only_setCell _ w.heap.size 5 (.slice (some ⟨g', o', none⟩) (n + 1) cap'))); have GF := Lib.hid (only_new G5 GG (Nat.le_refl _)); have RR := Lib.hid (R5.far GG (by omega) (by omega)); have MF := Lib.hid (M5.kept GG (by intro g'' e' e''; simp at e'; injection e'' with e''; omega)); clear GG)
    refine bodyPost_ret (v := .agg #[.int .i64 kd, .int .i64 fa, .int .i64 fp, .int .i64 ta, .int .i64 tp, .slice (some ⟨g', o', none⟩) (n + 1) cap']) (results_cells (g := w.heap.size) rfl _ _ [.int .i64 kd, .int .i64 fa, .int .i64 fp, .int .i64 ta, .int .i64 tp, .slice (some ⟨g', o', none⟩) (n + 1) cap'] _ rfl (fun j v hv => RF.out.at_ j hv) Try.underlying27 rfl (by kernel_rfl)) rfl ?_
    exact ⟨kd, fa, fp, ta, tp, g', o', (n + 1), cap', xs ++ [y], rfl, (by simp [XN.out]), by omega, (by simpa using MF.out), RR.out.mono (by omega), GF.out⟩
  have q2 : (m == 2) = false := by simpa using hm2
  by_cases hm3 : m = 3
  · subst hm3
    clear hm0 hm1 hm2
    go_wp2_with (at_make; refine wpList_make_full _ rfl _ _ 25 rfl w2.heap.size 3 i0 (.int .i64 0) 1 Try.underlying25 HI.out HZ.out HS.out .i64 .i64 _ _ 13 rfl rfl rfl rfl (by rw [HY.out]; omega) (by simp [maxLen]) (Nat.le_refl _) ?_; intro w3 hown hg; have b3 := (Below.refl w2.heap.size w2).grown hg (Nat.le_refl _) (by simp); have z3 := b3.size; have M3 : Mine w3 w2.heap.size 1 (some ⟨w2.heap.size, 0, none⟩) 13 13 ((List.replicate 13 (0 : Int)).map (Value.int .i64)) := (by have hq := Mine.of_own hown; rw [made13] at hq; exact hq); have K3 := K2.out.below b3; have O3 := O2.out.below b3; have r3 := r2.below b3; have G3 := G2.out.trans (only_of_below b3 R); have v5 := O3.at_ 5 rfl; have f5 := O3.free 5 (by simp); have gx := only_setCell w3 w1.heap.size 5 (.slice (some ⟨w2.heap.size, 0, none⟩) 13 13); have O5 := O3.set 5 (by simp) (.slice (some ⟨w2.heap.size, 0, none⟩) 13 13); have K5 := K3.far gx (by omega); have R5 := r3.far gx (by omega) (by omega); have G5 := only_new G3 gx (by omega); have M5 := (M3.mono (base' := w.heap.size) (by omega)).kept gx (by intro g'' e' e''; simp at e'; injection e'' with e''; omega); clear hown hg b3 M3 K3 O3 r3 G3 gx; have T0 := O5.at_ 0 rfl; have u0 := K5.at_ 0 rfl; have h0 := K5.free 0 (by simp); have T1 := O5.at_ 1 rfl; have u1 := K5.at_ 1 rfl; have h1 := K5.free 1 (by simp); have T2 := O5.at_ 2 rfl; have u2 := K5.at_ 2 rfl; have h2 := K5.free 2 (by simp); have T3 := O5.at_ 3 rfl; have u3 := K5.at_ 3 rfl; have h3 := K5.free 3 (by simp); have T4 := O5.at_ 4 rfl; have u4 := K5.at_ 4 rfl; have h4 := K5.free 4 (by simp); have T5 := O5.at_ 5 rfl; have u5 := K5.at_ 5 rfl; have h5 := K5.free 5 (by simp); have RF := Lib.hid ((((((K5.set 0 (by simp) (.int .i64 kd)).set 1 (by simp) (.int .i64 fa)).set 2 (by simp) (.int .i64 fp)).set 3 (by simp) (.int .i64 ta)).set 4 (by simp) (.int .i64 tp)).set 5 (by simp) (.slice (some ⟨w2.heap.size, 0, none⟩) 13 13)); have GG := ((((((only_setCell (w3.setCell ⟨w1.heap.size, 5, none⟩ (.slice (some ⟨w2.heap.size, 0, none⟩) 13 13)) w.heap.size 0 (.int .i64 kd)).trans (only_setCell _ w.heap.size 1 (.int .i64 fa))).trans (only_setCell _ w.heap.size 2 (.int .i64 fp))).trans (only_setCell _ w.heap.size 3 (.int .i64 ta))).trans (only_setCell _ w.heap.size 4 (.int .i64 tp))).trans (only_setCell _ w.heap.size 5 (.slice (some ⟨w2.heap.size, 0, none⟩) 13 13))); have GF := Lib.hid (only_new G5 GG (Nat.le_refl _)); have RR := Lib.hid (R5.far GG (by omega) (by omega)); have MF := Lib.hid (M5.kept GG (by intro g'' e' e''; simp at e'; injection e'' with e''; omega)); clear GG)
    refine bodyPost_ret (v := .agg #[.int .i64 kd, .int .i64 fa, .int .i64 fp, .int .i64 ta, .int .i64 tp, .slice (some ⟨w2.heap.size, 0, none⟩) 13 13]) (results_cells (g := w.heap.size) rfl _ _ [.int .i64 kd, .int .i64 fa, .int .i64 fp, .int .i64 ta, .int .i64 tp, .slice (some ⟨w2.heap.size, 0, none⟩) 13 13] _ rfl (fun j v hv => RF.out.at_ j hv) Try.underlying27 rfl (by kernel_rfl)) rfl ?_
    exact ⟨kd, fa, fp, ta, tp, w2.heap.size, 0, 13, 13, List.replicate 13 0, rfl, rfl, by omega, MF.out, RR.out.mono (by omega), GF.out⟩
  have q3 : (m == 3) = false := by simpa using hm3
  have K5 := K2.out
  have O5 := O2.out
  have M5 := M2.out
  have G5 := G2.out
  clear hm0 hm1 hm2 hm3
  have T0 := O5.at_ 0 rfl
  have u0 := K5.at_ 0 rfl
  have h0 := K5.free 0 (by simp)
  have T1 := O5.at_ 1 rfl
  have u1 := K5.at_ 1 rfl
  have h1 := K5.free 1 (by simp)
  have T2 := O5.at_ 2 rfl
  have u2 := K5.at_ 2 rfl
  have h2 := K5.free 2 (by simp)
  have T3 := O5.at_ 3 rfl
  have u3 := K5.at_ 3 rfl
  have h3 := K5.free 3 (by simp)
  have T4 := O5.at_ 4 rfl
  have u4 := K5.at_ 4 rfl
  have h4 := K5.free 4 (by simp)
  have T5 := O5.at_ 5 rfl
  have u5 := K5.at_ 5 rfl
  have h5 := K5.free 5 (by simp)
  have RF := Lib.hid ((((((K5.set 0 (by simp) (.int .i64 kd)).set 1 (by simp) (.int .i64 fa)).set 2 (by simp) (.int .i64 fp)).set 3 (by simp) (.int .i64 ta)).set 4 (by simp) (.int .i64 tp)).set 5 (by simp) (.slice (some ⟨g, o, none⟩) n cap))
  have GG := ((((((only_setCell w2 w.heap.size 0 (.int .i64 kd)).trans (only_setCell _ w.heap.size 1 (.int .i64 fa))).trans (only_setCell _ w.heap.size 2 (.int .i64 fp))).trans (only_setCell _ w.heap.size 3 (.int .i64 ta))).trans (only_setCell _ w.heap.size 4 (.int .i64 tp))).trans (only_setCell _ w.heap.size 5 (.slice (some ⟨g, o, none⟩) n cap)))
  have GF := Lib.hid (only_new G5 GG (Nat.le_refl _))
  have RR := Lib.hid (r2.far GG (by omega) (by omega))
  have MF := Lib.hid (M5.kept GG (by intro g'' e' e''; simp at e'; injection e'' with e''; omega))
  clear GG
  go_wp2
  refine bodyPost_ret (v := .agg #[.int .i64 kd, .int .i64 fa, .int .i64 fp, .int .i64 ta, .int .i64 tp, .slice (some ⟨g, o, none⟩) n cap]) (results_cells (g := w.heap.size) rfl _ _ [.int .i64 kd, .int .i64 fa, .int .i64 fp, .int .i64 ta, .int .i64 tp, .slice (some ⟨g, o, none⟩) n cap] _ rfl (fun j v hv => RF.out.at_ j hv) Try.underlying27 rfl (by kernel_rfl)) rfl ?_
  exact ⟨kd, fa, fp, ta, tp, g, o, n, cap, xs, rfl, XN.out, by omega, MF.out, RR.out.mono (by omega), GF.out⟩

/-- What a generator of packets leaves, from bytes on. -/
def DrewPkt (w : World) (e : Ending) (w' : World) : Prop :=
  ∃ (kd fa fp ta tp : Int) (g o n cap : Nat) (xs : List Int), e = .returned (.agg #[.int .i64 kd, .int .i64 fa, .int .i64 fp, .int .i64 ta, .int .i64 tp, .slice (some ⟨g, o, none⟩) n cap]) ∧ xs.length = n ∧ n ≤ 13 ∧ Mine w' w.heap.size 1 (some ⟨g, o, none⟩) n cap (xs.map (Value.int .i64)) ∧ Below w.heap.size w w'

set_option maxHeartbeats 1600000 in
theorem DrawValidPacket_any (a : Option Addr) (n c : Nat) (w : World) (hb : Bytes w a n) (hnc : n ≤ c) (hc : c ≤ 9223372036854775807) : Calls Try.prog 7 #[.slice a n c] w (DrewPkt w) := by
  have K0 := Lib.hid (Box.new_at w w.heap.size rfl 27 #[.int .i64 0, .int .i64 0, .int .i64 0, .int .i64 0, .int .i64 0, .slice none 0 0] (by simp [maxLen]))
  have B0 := Lib.hid ((Below.refl w.heap.size w).alloc (Nat.le_refl _) (.cells #[.int .i64 0, .int .i64 0, .int .i64 0, .int .i64 0, .int .i64 0, .slice none 0 0] 27))
  have hb1 : Bytes (w.alloc (.cells #[.int .i64 0, .int .i64 0, .int .i64 0, .int .i64 0, .int .i64 0, .slice none 0 0] 27)) a n := fun h0 => by
    obtain ⟨b, off, e, hb, hi⟩ := hb h0
    refine ⟨b, off, e, by simp; omega, fun i hl => ?_⟩
    obtain ⟨z, z0, z1, hz⟩ := hi i hl
    exact ⟨z, z0, z1, (World.cell?_alloc_lt w _ ⟨b, off + i, none⟩ hb).trans hz⟩
  clear hb
  go_enter Try.func7, Try.ntmps7
  go_wp2_with fail
  refine (newReader_any a n c _ hb1 hnc hc).mono ?_
  rintro e w1 ⟨rfl, r1, b1, z1⟩
  have K1 := Lib.hid (K0.out.below b1)
  have B1 := Lib.hid (next B0.out b1)
  have hl := K1.out.lt.2
  simp at r1 z1
  clear b1 K0 B0 hb1 hnc hc
  go_wp2_with fail
  refine (anyPacket_any (w.heap.size + 1) (w.heap.size + 1) 0 _ r1 (by omega)).mono ?_
  rintro e w2 ⟨kd, fa, fp, ta, tp, g, o, k, cap, xs, rfl, hxn, h13, m2, r2, g2⟩
  have XN := Lib.hid hxn
  have K5 := K1.out.far g2 (by omega)
  have B5 := only_below B1.out g2 (by omega) (by omega)
  have hg1 : w1.heap.size ≤ g := (m2.lt rfl).1
  clear g2 hxn K1 B1 r2
  have u0 := K5.at_ 0 rfl
  have h0 := K5.free 0 (by simp)
  have u1 := K5.at_ 1 rfl
  have h1 := K5.free 1 (by simp)
  have u2 := K5.at_ 2 rfl
  have h2 := K5.free 2 (by simp)
  have u3 := K5.at_ 3 rfl
  have h3 := K5.free 3 (by simp)
  have u4 := K5.at_ 4 rfl
  have h4 := K5.free 4 (by simp)
  have u5 := K5.at_ 5 rfl
  have h5 := K5.free 5 (by simp)
  have RF := Lib.hid ((((((K5.set 0 (by simp) (.int .i64 kd)).set 1 (by simp) (.int .i64 fa)).set 2 (by simp) (.int .i64 fp)).set 3 (by simp) (.int .i64 ta)).set 4 (by simp) (.int .i64 tp)).set 5 (by simp) (.slice (some ⟨g, o, none⟩) k cap))
  have GG := ((((((only_setCell w2 w.heap.size 0 (.int .i64 kd)).trans (only_setCell _ w.heap.size 1 (.int .i64 fa))).trans (only_setCell _ w.heap.size 2 (.int .i64 fp))).trans (only_setCell _ w.heap.size 3 (.int .i64 ta))).trans (only_setCell _ w.heap.size 4 (.int .i64 tp))).trans (only_setCell _ w.heap.size 5 (.slice (some ⟨g, o, none⟩) k cap)))
  have BF := Lib.hid ((((((B5.setCell (p := ⟨w.heap.size, 0, none⟩) (Nat.le_refl _) (.int .i64 kd)).setCell (p := ⟨w.heap.size, 1, none⟩) (Nat.le_refl _) (.int .i64 fa)).setCell (p := ⟨w.heap.size, 2, none⟩) (Nat.le_refl _) (.int .i64 fp)).setCell (p := ⟨w.heap.size, 3, none⟩) (Nat.le_refl _) (.int .i64 ta)).setCell (p := ⟨w.heap.size, 4, none⟩) (Nat.le_refl _) (.int .i64 tp)).setCell (p := ⟨w.heap.size, 5, none⟩) (Nat.le_refl _) (.slice (some ⟨g, o, none⟩) k cap))
  have MF := Lib.hid ((m2.mono (base' := w.heap.size) (by omega)).kept GG (by intro g'' e' e''; simp at e'; injection e'' with e''; omega))
  clear GG B5
  go_wp2
  exact bodyPost_ret (v := .agg #[.int .i64 kd, .int .i64 fa, .int .i64 fp, .int .i64 ta, .int .i64 tp, .slice (some ⟨g, o, none⟩) k cap]) (results_cells (g := w.heap.size) rfl _ _ [.int .i64 kd, .int .i64 fa, .int .i64 fp, .int .i64 ta, .int .i64 tp, .slice (some ⟨g, o, none⟩) k cap] _ rfl (fun j v hv => RF.out.at_ j hv) Try.underlying27 rfl (by kernel_rfl)) rfl ⟨kd, fa, fp, ta, tp, g, o, k, cap, xs, rfl, XN.out, h13, MF.out, BF.out⟩

end Go.Proofs.Ytogoeehkpebhaaa
