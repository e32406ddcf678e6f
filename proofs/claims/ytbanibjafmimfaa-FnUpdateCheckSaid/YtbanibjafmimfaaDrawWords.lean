/-
  The generator's lists of words: someWords, DrawSumOf, DrawCheckOf.
-/
import Derived.Test.YtbanibjafmimfaaDrawInts
namespace Go.Proofs.Ytbanibjafmimfaa
open Go.RowKit

def Wordish (z : Int) : Prop := -1 ≤ z ∧ z ≤ 65536

set_option maxHeartbeats 1600000 in
theorem someWords_any (B R P : Nat) (w : World) (h : Rd w B R P) (hP : P ≤ 800000) :
    Calls Try.prog 17 #[.pointer (some ⟨R, 0, none⟩)] w (GaveInts w B R (P + 109) 22 Wordish) := by
  obtain ⟨i0, hi, hz0, hz1, hz2⟩ := info_parts int_info
  have HI := Lib.hid hi
  have HZ := Lib.hid hz0
  have HS := Lib.hid hz1
  have HY := Lib.hid hz2
  clear hi hz0 hz1 hz2
  have hRl := h.lt
  have m0 := (Mine.new w 3 1 0 #[] rfl (by simp [maxLen])).alloc (.cells #[.int .i64 4, .int .i64 6, .int .i64 3, .int .i64 8, .int .i64 1, .int .i64 0, .int .i64 20, .int .i64 21] 3)
  go_enter Try.func17, Try.ntmps17
  go_wp2_with fail
  refine (one_any B R P (w.heap.size + 1) 0 8 8 [4, 6, 3, 8, 1, 0, 20, 21] _ ((h.alloc _).alloc _) (by omega) (by simp) rfl (by omega) (by omega) (by omega) (lit_cells_at _ 3 _ _ (by simp))).mono ?_
  rintro e w1 ⟨m, rfl, hm, r1, g1⟩
  have hm' : 0 ≤ m ∧ m ≤ 21 := by
    simp only [List.mem_cons, List.not_mem_nil, or_false] at hm
    omega
  obtain ⟨hm0, hm1⟩ := hm'
  have m1 := m0.far g1 (by omega)
  have G1 : w.grownBy w1 (some R) := ((World.grownBy_alloc w _ _).trans (World.grownBy_alloc _ _ _)).trans g1
  have HG1 := Lib.hid G1
  have HM1 := Lib.hid m1
  clear hm m0 g1 G1 m1 h
  go_wp2_with fail
  go_loopw [3, 4] (fun v i wr => ∃ (k : Nat) (j : Int) (g o cap : Nat) (xs : List Int), v = .slice (some ⟨g, o, none⟩) k cap ∧ i = .int .i64 j ∧ 0 ≤ j ∧ (k : Int) + j ≤ 21 ∧ xs.length = k ∧ (∀ z ∈ xs, Wordish z) ∧ Mine wr w.heap.size 1 (some ⟨g, o, none⟩) k cap (xs.map (Value.int .i64)) ∧ Rd wr B R (P + 1 + 5 * k) ∧ w.grownBy wr (some R))
    (fun _ i _ => (intOf i).toNat)
  case atStart => exact ⟨0, m, w.heap.size, 0, 0, [], rfl, rfl, hm0, by omega, rfl, by simp, HM1.out, r1, HG1.out⟩
  case round =>
    obtain ⟨k, j, g, o, cap, xs, rfl, rfl, hj0, hkj, hxk, hQ, hM, hR, hG⟩ := hrel
    have HQ := Lib.hid hQ
    have HG := Lib.hid hG
    have hgs := hG.size
    clear hQ hG r1 HM1 HG1 hm0 hm1
    by_cases hpos : 0 < j
    · go_wp2_with fail
      refine (someWord_any B R _ _ hR (by omega)).mono ?_
      rintro e w2 ⟨y, rfl, ⟨y0, y1⟩, r2, g2⟩
      have m2 := hM.far g2 (by omega)
      have G2 := Lib.hid (HG.out.trans g2)
      have hs2 := g2.size
      have hcm := m2.2.2.1
      unfold maxLen at hcm
      have hlen : (xs.map (Value.int .i64)).length = k := by simpa using hxk
      have hgl : w.heap.size ≤ g := (m2.lt rfl).1
      clear hM hR g2
      go_wp2_with (at_builtin; refine wpList_append_mine _ rfl _ _ 23 rfl w.heap.size 3 i0 (.int .i64 0) 1 8 Try.underlying23 HI.out HZ.out HS.out HY.out rfl (by omega) _ k cap (xs.map (Value.int .i64)) rfl (m2.alloc _) _ _ 1 1 [.int .i64 y] rfl rfl (Mine.new w2 3 1 1 #[.int .i64 y] rfl (by simp [maxLen])).sees (by simp [Value.oneCell']) (by unfold maxLen; omega) (by omega) (by simp; omega) ?_; intro A' cap' w3 m3 g3 at3)
      obtain ⟨g', o', rfl⟩ := some_of at3 m3
      have r3 := Rd.far (g := g) (r2.alloc _) g3 (by have := r2.low; omega) (by omega)
      have G3 : w.grownBy w3 (some R) := (G2.out.trans (World.grownBy_alloc w2 _ _)).andThen g3 (by intro j hj; simp at hj; omega)
      have HG3 := Lib.hid G3
      clear g3 at3 m2 r2 G3 hlen
      go_wp2
      go_roundw
      case rel => exact ⟨k + 1, j - 1, g', o', cap', xs ++ [y], rfl, rfl, by omega, by omega, by simp [hxk], (by intro z hz; rcases List.mem_append.1 hz with hz | hz; exact HQ.out z hz; simp at hz; subst hz; exact ⟨by omega, by omega⟩), by simpa using m3, r3.mono (by omega), HG3.out⟩
      case measure => simp [intOf]; omega
    · have hj : j = 0 := by omega
      subst hj
      have hsees := hM.sees.row
      go_wp2_with fail
      refine (spoil_any B R (P + 1 + 5 * k) _ k cap _ xs 65536 Wordish _ hR (by omega) hxk (by omega) (Nat.le_refl _) hsees ⟨by omega, by omega⟩ ⟨by omega, by omega⟩ ⟨by omega, by omega⟩ ⟨by omega, by omega⟩ HQ.out).mono ?_
      rintro e w2 ⟨g2, o2, n2, cap2, ys, rfl, hyl, hyM, hyQ, m2, r2, g2'⟩
      have HG2 := Lib.hid (HG.out.trans g2')
      have HQ2 := Lib.hid hyQ
      have m2' := m2.mono hgs
      clear hyQ g2' hsees hM m2
      go_wp2
      go_ret
      exact .mk ys rfl hyl (by omega) HQ2.out m2' (r2.mono (by omega)) HG2.out

/-- A list of ints in memory that was new. -/
def DrewInts (w : World) (M : Nat) (Q : Int → Prop) (e : Ending) (w' : World) : Prop :=
  ∃ (g o n cap : Nat) (xs : List Int), e = .returned (.slice (some ⟨g, o, none⟩) n cap) ∧ xs.length = n ∧ n ≤ M ∧ (∀ z ∈ xs, Q z) ∧ Mine w' w.heap.size 1 (some ⟨g, o, none⟩) n cap (xs.map (Value.int .i64)) ∧ Below w.heap.size w w'
theorem DrewInts.mk {w w' : World} {M : Nat} {Q : Int → Prop} {e : Ending} {g o n cap : Nat} (xs : List Int) (he : e = .returned (.slice (some ⟨g, o, none⟩) n cap)) (hn : xs.length = n) (hM : n ≤ M) (hQ : ∀ z ∈ xs, Q z)
    (hm : Mine w' w.heap.size 1 (some ⟨g, o, none⟩) n cap (xs.map (Value.int .i64))) (hb : Below w.heap.size w w') : DrewInts w M Q e w' := ⟨g, o, n, cap, xs, he, hn, hM, hQ, hm, hb⟩


set_option maxHeartbeats 400000 in
theorem DrawCheckOf_any (a : Option Addr) (n c : Nat) (w : World) (hb : Bytes w a n) (hnc : n ≤ c) (hc : c ≤ 9223372036854775807) :
    Calls Try.prog 9 #[.slice a n c] w (DrewInts w 22 Wordish) := by
  go_enter Try.func9, Try.ntmps9
  go_wp2_with fail
  refine (newReader_any a n c _ hb hnc hc).mono ?_
  rintro e w0 ⟨rfl, r0, b0, z0⟩
  clear hb hnc hc
  go_wp2_with fail
  refine (someWords_any _ _ _ _ r0 (by omega)).mono ?_
  rintro e w1 ⟨g1, o1, n1, cap1, xs, rfl, hl, hM, hQ, m1, r1, g1'⟩
  have HB := Lib.hid (only_below b0 g1' (by omega) (Nat.le_refl _))
  have HQ := Lib.hid hQ
  have m1' := m1.mono (base' := w.heap.size) (by omega)
  clear hQ g1' b0 r0 r1 m1 z0
  go_wp2
  go_ret
  exact .mk xs rfl hl hM HQ.out m1' HB.out

end Go.Proofs.Ytbanibjafmimfaa
