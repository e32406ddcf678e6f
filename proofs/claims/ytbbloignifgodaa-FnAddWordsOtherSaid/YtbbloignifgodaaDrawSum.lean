/-
  DrawAddWords and DrawUpdateCheck: they return some numbers, for all bytes, and write nothing that was there.
-/
import Derived.Test.YtbbloignifgodaaDraw2
namespace Go.Proofs.Ytbbloignifgodaa
open Go.RowKit

def Drew2 (w : World) (e : Ending) (w' : World) : Prop := ∃ x y : Int, e = .returned (.tuple #[.int .i64 x, .int .i64 y]) ∧ Below w.heap.size w w'
def Drew3 (w : World) (e : Ending) (w' : World) : Prop := ∃ x y z : Int, e = .returned (.tuple #[.int .i64 x, .int .i64 y, .int .i64 z]) ∧ Below w.heap.size w w'
theorem Drew2.mk {w w' : World} {e : Ending} (x y : Int) (he : e = .returned (.tuple #[.int .i64 x, .int .i64 y])) (hb : Below w.heap.size w w') : Drew2 w e w' := ⟨x, y, he, hb⟩
theorem Drew3.mk {w w' : World} {e : Ending} (x y z : Int) (he : e = .returned (.tuple #[.int .i64 x, .int .i64 y, .int .i64 z])) (hb : Below w.heap.size w w') : Drew3 w e w' := ⟨x, y, z, he, hb⟩

set_option maxHeartbeats 800000 in
theorem DrawAddWords_any (a : Option Addr) (n c : Nat) (w : World) (hb : Bytes w a n) (hnc : n ≤ c) (hc : c ≤ 9223372036854775807) :
    Calls Try.prog 16 #[.slice a n c] w (Drew2 w) := by
  go_enter Try.func16, Try.ntmps16
  go_wp2_with fail
  refine (newReader_any a n c _ hb hnc hc).mono ?_
  rintro e w0 ⟨rfl, r0, b0, z0⟩
  clear hb hnc hc
  go_wp2_with fail
  refine (someWord_any _ _ _ _ r0 (by omega)).mono ?_
  rintro e w1 ⟨m1, rfl, ⟨p1, q1⟩, r1, g1⟩
  clear r0
  go_wp2_with fail
  refine (someWord_any _ _ _ _ r1 (by omega)).mono ?_
  rintro e w2 ⟨m2, rfl, ⟨p2, q2⟩, r2, g2⟩
  clear r1
  go_wp2_with fail
  refine (someWord_any _ _ _ _ r2 (by omega)).mono ?_
  rintro e w3 ⟨m3, rfl, ⟨p3, q3⟩, r3, g3⟩
  clear r2
  go_wp2_with fail
  refine (someWord_any _ _ _ _ r3 (by omega)).mono ?_
  rintro e w4 ⟨m4, rfl, ⟨p4, q4⟩, r4, g4⟩
  clear r3
  have lt4 := r4.lt
  go_wp2_with fail
  refine (one_any w.heap.size w.heap.size _ w4.heap.size 0 6 6 [m2, m3, 65535 - m1, 65536, -1, m4] _ (r4.alloc _) (by omega) (by simp) rfl (by omega) (by omega) (by omega) (lit_cells w4 3 _)).mono ?_
  rintro e w5 ⟨m5, rfl, hm, r5, g5⟩
  clear hm r4 r5 lt4
  have hB := only_below b0 ((((g1.trans g2).trans g3).trans g4).trans ((World.grownBy_alloc w4 _ _).trans g5)) (by omega) (Nat.le_refl _)
  clear b0 g1 g2 g3 g4 g5
  go_wp2
  go_ret2
  exact .mk m1 m5 rfl hB

set_option maxHeartbeats 1600000 in
theorem DrawUpdateCheck_any (a : Option Addr) (n c : Nat) (w : World) (hb : Bytes w a n) (hnc : n ≤ c) (hc : c ≤ 9223372036854775807) :
    Calls Try.prog 17 #[.slice a n c] w (Drew3 w) := by
  go_enter Try.func17, Try.ntmps17
  go_wp2_with fail
  refine (newReader_any a n c _ hb hnc hc).mono ?_
  rintro e w0 ⟨rfl, r0, b0, z0⟩
  clear hb hnc hc
  go_wp2_with fail
  refine (someWord_any _ _ _ _ r0 (by omega)).mono ?_
  rintro e w1 ⟨m1, rfl, -, r1, g1⟩
  clear r0
  go_wp2_with fail
  refine (someWord_any _ _ _ _ r1 (by omega)).mono ?_
  rintro e w2 ⟨m2, rfl, -, r2, g2⟩
  clear r1
  have lt2 := r2.lt
  go_wp2_with fail
  refine (one_any w.heap.size w.heap.size _ w2.heap.size 0 3 3 [m1, m2, 65536] _ (r2.alloc _) (by omega) (by simp) rfl (by omega) (by omega) (by omega) (lit_cells w2 3 _)).mono ?_
  rintro e w3 ⟨m3, rfl, -, r3, g3'⟩
  have g3 := (World.grownBy_alloc w2 _ _).trans g3'
  clear r2 lt2 g3'
  go_wp2_with fail
  refine (someWord_any _ _ _ _ r3 (by omega)).mono ?_
  rintro e w4 ⟨m4, rfl, -, r4, g4⟩
  clear r3
  go_wp2_with fail
  refine (someWord_any _ _ _ _ r4 (by omega)).mono ?_
  rintro e w5 ⟨m5, rfl, -, r5, g5⟩
  clear r4
  go_wp2_with fail
  refine (someWord_any _ _ _ _ r5 (by omega)).mono ?_
  rintro e w6 ⟨m6, rfl, -, r6, g6⟩
  clear r5
  go_wp2_with fail
  refine (someWord_any _ _ _ _ r6 (by omega)).mono ?_
  rintro e w7 ⟨m7, rfl, -, r7, g7⟩
  clear r6
  have lt7 := r7.lt
  go_wp2_with fail
  refine (one_any w.heap.size w.heap.size _ w7.heap.size 0 4 4 [m5, m6, -1, m7] _ (r7.alloc _) (by omega) (by simp) rfl (by omega) (by omega) (by omega) (lit_cells w7 3 _)).mono ?_
  rintro e w8 ⟨m8, rfl, -, r8, g8'⟩
  have g8 := (World.grownBy_alloc w7 _ _).trans g8'
  clear r7 lt7 g8' r8
  have hB := only_below b0 (((((((g1.trans g2).trans g3).trans g4).trans g5).trans g6).trans g7).trans g8) (by omega) (Nat.le_refl _)
  clear b0 g1 g2 g3 g4 g5 g6 g7 g8
  go_wp2
  go_ret3
  exact .mk m3 m4 m8 rfl hB

end Go.Proofs.Ytbbloignifgodaa
