/-
  'FnUpdateCheck': for every input the law returns true, and each argument reads afterwards as it read before. No condition.
  The frame of the row's step follows the kit's skeleton; the walk is ours.
-/
import Derived.Test.YtbanibjafmimfaaLawKit
import Derived.Test.YtbanibjafmimfaaDrawWords
import Derived.Test.YtbanibjafmimfaaSums
import Derived.Test.YtbanibjafmimfaaSum3
import Derived.Test.YtbanibjafmimfaaPlainSum2
import Derived.Deep.RegionHeld3
import Derived.Deep.DrawnRows
namespace Go.Proofs.Ytbanibjafmimfaa.fnUpdateCheck
open Go.ChangeShapes Go.WideShapes Go.ChangeAt Go.RowKit
set_option linter.unusedVariables false

attribute [local go_sem ↓] Go.wp_at_zero Go.wp_at_succ
set_option maxHeartbeats 1600000 in
theorem walk (a : Option Addr) (n c : Nat) (w : World) (w0 : Bytes w a n) (hnc : n ≤ c) (hc : c ≤ 9223372036854775807) :
    Calls Try.prog 8 #[.slice a n c] w fun e w' => e = .returned (.bool true) ∧ Below w.heap.size w w' := by
  by_cases hl : n ≤ 1048576
  · obtain ⟨i0, hi, hz0, hz1, hz2⟩ := info_parts int_info
    have HI := Lib.hid hi
    have HZ := Lib.hid hz0
    have HS := Lib.hid hz1
    have HY := Lib.hid hz2
    clear hi hz0 hz1 hz2
    go_enter Try.func8, Try.ntmps8
    go_wp2_with fail
    refine (DrawCheckOf_any a n c _ w0 hnc hc).mono ?_
    rintro e w1 ⟨g, o, k, cap, xs, rfl, hxl, hM, -, m1, b1⟩
    clear w0 hnc hc
    have row := m1.sees.row
    go_wp2_with fail
    refine (CheckOf_any _ k cap _ xs _ hxl (by omega) row).mono ?_
    rintro e w2 ⟨rfl, rfl⟩
    go_wp2_with fail
    refine (specCheckOf_any _ k cap _ xs _ hxl (by omega) row).mono ?_
    rintro e w2 ⟨rfl, rfl⟩
    cases hv : vw xs
    · have HV := Lib.hid (cof_no hv)
      clear hv
      have hneg : cof xs < 0 := by rw [HV.out]; omega
      go_wp2_with fail
      refine (specCheckOf_any _ k cap _ xs _ hxl (by omega) row).mono ?_
      rintro e w2 ⟨rfl, rfl⟩
      go_wp2
      go_ret
      exact ⟨rfl, b1⟩
    · have ⟨s0, s1⟩ := cof_range hv
      rcases Nat.eq_zero_or_pos k with rfl | hpos
      · clear hv
        go_wp2_with fail
        refine (specCheckOf_any _ 0 cap _ xs _ hxl (by omega) row).mono ?_
        rintro e w2 ⟨rfl, rfl⟩
        go_wp2
        go_ret
        exact ⟨rfl, b1⟩
      · have hk0 : ((k : Int) == 0) = false := by simp; omega
        have hk2 : ¬ k = 0 := by omega
        have hk3 : (k == 0) = false := by simp; omega
        obtain ⟨j, hj⟩ : ∃ j, j = n % k := ⟨_, rfl⟩
        have hjk : j < k := by rw [hj]; exact Nat.mod_lt _ hpos
        have hmod : (n : Int) % (k : Int) = (j : Int) := by rw [hj]; exact (Int.natCast_emod n k).symm
        obtain ⟨y, hy⟩ : ∃ y : Int, (n : Int) * 769 % 65536 = y := ⟨_, rfl⟩
        have y0 : 0 ≤ y := by omega
        have y1 : y ≤ 65535 := by omega
        have HU := Lib.hid (upd_sum (y := y) hv (by rw [hxl]; exact hjk) ⟨y0, y1⟩)
        have HE := Lib.hid (show (xs.map (Value.int .i64))[j]? = some (.int .i64 (xs.getD j 0)) by
          rw [List.getElem?_map, List.getD_eq_getElem?_getD, List.getElem?_eq_getElem (by omega)]; rfl)
        have hcx : w1.cell? ⟨g, o + j, none⟩ = some (.int .i64 (xs.getD j 0)) := by rw [m1.at_ (by omega)]; exact HE.out
        have hgl : g < w1.heap.size := (m1.lt rfl).2
        have hck := Lib.hid (sof_range (vw_set (k := j) hv ⟨y0, y1⟩))
        obtain ⟨x, ex⟩ : ∃ x, x = xs.getD j 0 := ⟨_, rfl⟩
        rw [← ex] at hcx HU
        clear ex hj HE
        have HXL := Lib.hid hxl
        have HV := Lib.hid hv
        have hsee := m1.sees
        have hcm : cap ≤ maxLen := m1.2.2.1
        unfold maxLen at hcm
        have mB := Mine.new w1 3 1 0 #[] rfl (by simp [maxLen])
        have hseeB := hsee.alloc (Nat.le_refl _) (.cells #[] 3)
        have bB : Below w1.heap.size w1 (w1.alloc (.cells #[] 3)) := (Below.refl _ _).alloc (Nat.le_refl _) _
        have hlen : (xs.map (Value.int .i64)).length = k * 1 := by simpa using hxl
        have hlen' : (xs.map (Value.int .i64)).length = k := by simpa using hxl
        clear hv hxl m1 row hsee
        go_wp2_with (at_builtin; refine wpList_append_mine _ rfl (.tmp 36) (.tmp 37) 23 rfl w1.heap.size 3 i0 (.int .i64 0) 1 8 Try.underlying23 HI.out HZ.out HS.out HY.out rfl (by omega) _ 0 0 [] rfl mB _ _ k cap (xs.map (Value.int .i64)) rfl hlen hseeB (one_ints xs) (by unfold maxLen; omega) (by omega) (by simp) ?_; intro A3 cap3 w3 m3 g3 at3; simp only [Nat.zero_add, List.nil_append] at m3; have b3 : Below w1.heap.size w1 w3 := bB.grown g3 (by simp) (by simp); have hs3 := b3.size; obtain ⟨g3', o3', rfl⟩ := some_of' m3 hpos; have hfj := (m3.can (j := j) (by have := m3.2.1; omega)).2; obtain ⟨⟨v3, hv3⟩, _⟩ := m3.can (j := j) (by have := m3.2.1; omega); have j1 : (j : Int) < (k : Int) := (by omega))
        have m4 := m3.set_ (j := j) (by omega) (.int .i64 y)
        have b4 := b3.setCell (p := ⟨g3', o3' + j, none⟩) (m3.lt rfl).1 (.int .i64 y)
        have hcx4 : (w3.setCell ⟨g3', o3' + j, none⟩ (.int .i64 y)).cell? ⟨g, o + j, none⟩ = some (.int .i64 x) := (b4.cell (p := ⟨g, o + j, none⟩) hgl).trans hcx
        have hcy4 : (w3.setCell ⟨g3', o3' + j, none⟩ (.int .i64 y)).cell? ⟨g3', o3' + j, none⟩ = some (.int .i64 y) := by
          rw [m4.at_ (by omega), List.getElem?_set_self (by omega)]
        have row4 : Row .i64 (w3.setCell ⟨g3', o3' + j, none⟩ (.int .i64 y)) (w3.setCell ⟨g3', o3' + j, none⟩ (.int .i64 y)).heap.size (some ⟨g3', o3', none⟩) (xs.set j y) := Sees.row (by rw [List.map_set]; exact m4.sees)
        have hly : (xs.set j y).length = k := by simpa using HXL.out
        clear hfj hv3 m3 m4 g3 at3 b3 mB hseeB bB hcx
        generalize w3.setCell ⟨g3', o3' + j, none⟩ (.int .i64 y) = W at *
        obtain ⟨ys, hys⟩ : ∃ ys, ys = xs.set j y := ⟨_, rfl⟩
        rw [← hys] at row4 hly HU hck
        have HLY := Lib.hid hly
        clear hys hly
        by_cases hz : sof ys = 0
        · have q : (sof ys == 0) = true := by simpa using hz
          clear HU hz hck
          go_quiet ((go_at_call 13; exact quietL (SumOf_any _ k cap3 _ ys _ HLY.out (by omega) (Row.drewN row4 _))))
          go_wp2
          go_ret
          exact ⟨rfl, next b1 (below_drewN b4 nq)⟩
        · have q : (sof ys == 0) = false := by simpa using hz
          have HU2 := Lib.hid (HU.out hz)
          have hW1 : W.heap.size ≤ W.heap.size := Nat.le_refl _
          have hgW : g < W.heap.size := block_lt hcx4
          have hgW' : g3' < W.heap.size := block_lt hcy4
          clear HU hz hck
          go_region_held3 (fun w' => w'.cell? ⟨g, o + j, none⟩ = some (.int .i64 x) ∧ w'.cell? ⟨g3', o3' + j, none⟩ = some (.int .i64 y)) (go_keep)
            (first
            | (go_at_call 13; refine (SumOf_any _ k cap3 _ ys _ HLY.out (by omega) (Row.drew row4)).mono ?_; rintro e w5 ⟨rfl, rfl⟩)
            | (go_at_call 16; refine (UpdateCheck_any _ _ _ _).mono ?_; rw [HU2.out]; rintro e w6 ⟨rfl, b6⟩; have k1 : w6.cell? ⟨g, o + j, none⟩ = some (.int .i64 x) := (b6.cell (p := ⟨g, o + j, none⟩) hgW).trans hcx4; have k2 : w6.cell? ⟨g3', o3' + j, none⟩ = some (.int .i64 y) := (b6.cell (p := ⟨g3', o3' + j, none⟩) hgW').trans hcy4)
            | (go_at_call 10; refine (CheckOf_any _ k cap3 _ ys _ HLY.out (by omega) (row4.drew.below b6)).mono ?_; rintro e w7 ⟨rfl, rfl⟩))
          all_goals go_wp2
          all_goals go_ret
          all_goals exact ⟨rfl, next b1 (next b4.drew b6)⟩
  · go_enter Try.func8, Try.ntmps8
    go_wp2
    go_ret
    exact ⟨rfl, Below.refl _ _⟩

set_option maxRecDepth 100000 in
theorem lifted (os : Os) (started : os.Started) (H : Type) (enc : TypeId × Value → H) :
    ReturnsInHanded {} Try.checked os 8 .any (Rows.fnUpdateCheckSpec.pre6 enc Try.prog Try.f8 Rows.fnUpdateCheckRow.domain false) (Rows.fnUpdateCheckSpec.post enc Try.prog Try.f8 false true false false) := by
  refine returnsInHanded_of_change (C := Try.checked) own started (by kernel_rfl) Try.func8
    (ChangeSpec.witness6 (enc := enc) (C := Try.checked) false ⟨#[], #[.slice none 0 0], []⟩ 8 (by kernel_rfl) (by kernel_rfl) (by kernel_rfl) (by kernel_rfl)) ?_
  intro W base args ds gs before hval0 hW hcnd _
  have hval : ∀ (j : Nat) t v, Try.f8.params[j]? = some t → args[j]? = some v → Value.okWide Try.prog W .any base t v := hval0
  have hW' := hW
  obtain ⟨p, q, hA0, hV, rfl, hfz, hnd⟩ := hW
  have hA : DataW.TrodAll enc Try.prog W 0 (fun _ => true) true Try.f8.params.toList args.toList ds p := hA0
  rw [Try.params8] at hA hval
  obtain ⟨v0, vs0, d0, ds0, p0, q0, hargs, rfl, rfl, h0, r0⟩ := trodAll_cons hA
  obtain ⟨rfl, rfl, rfl⟩ := trodAll_nil r0
  obtain rfl : args = #[v0] := by cases args; simp_all
  obtain ⟨rfl, rfl⟩ := trodVars_none hV
  have k0 := h0
  have lt0 : ∀ x ∈ p0, x.block < W.heap.size := by obtain ⟨m, hm⟩ := k0; exact DataW.trod_lt m _ _ _ hm
  obtain ⟨a0, len0, cap0, rfl⟩ := okWide_slice Try.underlying22 (hval 0 22 v0 rfl rfl)
  obtain ⟨w0, lc0, cm0⟩ : Bytes W a0 len0 ∧ len0 ≤ cap0 ∧ cap0 ≤ 9223372036854775807 := by
    obtain ⟨fuel, hf⟩ := h0
    rcases open_ints Try.underlying22 Try.underlying5 (by kernel_rfl) hf with ⟨hcs, _⟩ | ⟨x, l, c, zs, hcs, _, hl, hm, hz, _, hcell, hwz⟩
    · simp [Value.cells] at hcs
      obtain ⟨rfl, rfl, rfl⟩ := hcs
      exact ⟨fun h => absurd h (by omega), by omega, by omega⟩
    · simp [Value.cells] at hcs
      obtain ⟨rfl, rfl, rfl⟩ := hcs
      have hz' : zs.length = cap0 := by simpa using hz
      exact ⟨bytes_of (by omega) hcell hwz, hl, hm⟩
  clear hA0 hval0
  refine (walk a0 len0 cap0 W w0 lc0 cm0).mono fun e W' ⟨he, bel⟩ => ?_
  subst he
  exact ⟨_, rfl, _, _, _, [], _, [], hW', trodAll_mk1 (shut_bool Try.underlying4 _), (trodAll_cons_mk (Below.trod laidOut (by kernel_rfl) (of_decide_eq_true (by kernel_rfl)) k0 bel lt0) trodAll_mk0), rfl, bel.frame _, fun h => by cases h⟩

theorem over : Rows.fnUpdateCheckRow.holds Try.pinned (OpenSpec.ofChange Rows.fnUpdateCheckSpec) :=
  OpenClaim.holds_of_wide 8 Try.f8 rfl rfl rfl rfl rfl rfl rfl ⟨rfl, rfl, rfl, rfl, rfl⟩ rfl rfl rfl rfl rfl (by kernel_rfl) Try.func8 (by kernel_rfl)
    (of_decide_eq_true (by kernel_rfl)) (by unfold Func.isWrapper; first | (rw [if_pos (by decide +kernel)]; kernel_rfl) | (rw [if_neg (by decide +kernel)]; exact ⟨rfl, rfl⟩))
    (fun os started H enc _ => lifted os started H enc)

theorem proved : Rows.FnUpdateCheckSaid := over
#print axioms proved
end Go.Proofs.Ytbanibjafmimfaa.fnUpdateCheck
