/-
  DrawIsRight: some list of ints, for all bytes.
-/
import Derived.Test.YtbanibjafmimfaaDrawWords
import Derived.Test.YtbanibjafmimfaaSums
import Derived.Test.YtbanibjafmimfaaPlainSum2
namespace Go.Proofs.Ytbanibjafmimfaa
open Go.RowKit

set_option maxHeartbeats 1600000 in
theorem DrawIsRight_any (a : Option Addr) (n c : Nat) (w : World) (hb : Bytes w a n) (hnc : n ≤ c) (hc : c ≤ 9223372036854775807) :
    Calls Try.prog 14 #[.slice a n c] w (DrewInts w 22 Wordish) := by
  obtain ⟨i0, hi, hz0, hz1, hz2⟩ := info_parts int_info
  have HI := Lib.hid hi
  have HZ := Lib.hid hz0
  have HS := Lib.hid hz1
  have HY := Lib.hid hz2
  clear hi hz0 hz1 hz2
  go_enter Try.func14, Try.ntmps14
  go_wp2_with fail
  refine (newReader_any a n c _ hb hnc hc).mono ?_
  rintro e w0 ⟨rfl, r0, b0, z0⟩
  clear hb hnc hc
  go_wp2_with fail
  refine (someWords_any _ _ _ _ r0 (by omega)).mono ?_
  rintro e w1 ⟨g, o, k, cap, xs, rfl, hxl, hM, hQ, m1, r1, g1⟩
  have HB := Lib.hid (only_below b0 g1 (by omega) (Nat.le_refl _))
  have HQ := Lib.hid hQ
  have m1' := m1.mono (base' := w.heap.size + 1) (by omega)
  have hs1 := g1.size
  have row := m1'.sees.row
  clear hQ g1 b0 r0 m1
  by_cases h20 : k < 20
  · cases hv : vw xs
    · go_wp2_with fail
      refine (validWords_any _ k cap _ xs _ hxl (by omega) row).mono ?_
      rw [hv]
      rintro e w2 ⟨rfl, rfl⟩
      go_wp2
      go_ret
      exact .mk xs rfl hxl hM HQ.out (m1'.mono (by omega)) HB.out
    · have HV := Lib.hid hv
      clear hv
      go_wp2_with fail
      refine (validWords_any _ k cap _ xs _ hxl (by omega) row).mono ?_
      rw [HV.out]
      rintro e w2 ⟨rfl, rfl⟩
      go_wp2_with fail
      refine (pick_any _ _ _ 3 _ r1 (by omega)).mono ?_
      rintro e w2 ⟨m, rfl, ⟨p0, p1⟩, r2, g2⟩
      have m2 := m1'.far g2 (by omega)
      have HB2 := Lib.hid (only_below HB.out g2 (by omega) (Nat.le_refl _))
      have hs2 := g2.size
      clear p1 r1 m1' row g2
      by_cases hm : 0 < m
      · have row2 := m2.sees.row
        have ⟨c0, c1⟩ := cof_range HV.out
        go_wp2_with fail
        refine (specCheckOf_any _ k cap _ xs _ hxl (by omega) row2).mono ?_
        rintro e w3 ⟨rfl, rfl⟩
        obtain ⟨y, hy⟩ : ∃ y, y = cof xs := ⟨_, rfl⟩
        rw [← hy] at c0 c1 ⊢
        have hcm := m2.2.2.1
        unfold maxLen at hcm
        have hlen : (xs.map (Value.int .i64)).length = k := by simpa using hxl
        have hgl : w.heap.size + 1 ≤ g := (m2.lt rfl).1
        clear hy row2 r2
        go_wp2_with (at_builtin; refine wpList_append_mine _ rfl _ _ 23 rfl (w.heap.size + 1) 3 i0 (.int .i64 0) 1 8 Try.underlying23 HI.out HZ.out HS.out HY.out rfl (by omega) _ k cap (xs.map (Value.int .i64)) rfl (m2.alloc _) _ _ 1 1 [.int .i64 y] rfl rfl (Mine.new w2 3 1 1 #[.int .i64 y] rfl (by simp [maxLen])).sees (by simp [Value.oneCell']) (by unfold maxLen; omega) (by omega) (by simp; omega) ?_; intro A' cap' w3 m3 g3 at3)
        obtain ⟨g', o', rfl⟩ := some_of at3 m3
        have HB3 := Lib.hid ((HB2.out.alloc (by omega) (.cells #[.int .i64 y] 3)).grown g3 (by simp; omega) (by intro j hj; simp at hj; omega))
        clear g3 at3 m2 hlen
        go_wp2
        go_ret
        exact .mk (xs ++ [y]) rfl (by simp [hxl]) (by omega) (by intro z hz; rcases List.mem_append.1 hz with hz | hz; exact HQ.out z hz; simp at hz; subst hz; exact ⟨by omega, by omega⟩) (by simpa using m3.mono (by omega)) HB3.out
      · go_wp2
        go_ret
        exact .mk xs rfl hxl hM HQ.out (m2.mono (by omega)) HB2.out
  · go_wp2
    go_ret
    exact .mk xs rfl hxl hM HQ.out (m1'.mono (by omega)) HB.out

end Go.Proofs.Ytbanibjafmimfaa
