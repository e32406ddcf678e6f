/-
  'FnSumOf': for every input the law returns true, and each argument reads afterwards as it read before. No condition.
  The frame of the row's step follows the kit's skeleton; the walk is ours.
-/
import Derived.Test.YtbmcliaafldkpaaLawKit
import Derived.Test.YtbmcliaafldkpaaDrawWords
import Derived.Test.YtbmcliaafldkpaaSums
import Derived.Test.YtbmcliaafldkpaaPlainSum
import Derived.Deep.RegionWith
import Derived.BigRegion
namespace Go.Proofs.Ytbmcliaafldkpaa.fnSumOf
open Go.ChangeShapes Go.WideShapes Go.ChangeAt Go.RowKit
set_option linter.unusedVariables false

set_option maxHeartbeats 1600000 in
theorem walk (a : Option Addr) (n c : Nat) (w : World) (w0 : Bytes w a n) (hnc : n ≤ c) (hc : c ≤ 9223372036854775807) :
    Calls Try.prog 7 #[.slice a n c] w fun e w' => e = .returned (.bool true) ∧ Below w.heap.size w w' := by
  by_cases hl : n ≤ 1048576
  · go_enter Try.func7, Try.ntmps7
    go_wp2_with fail
    refine (DrawSumOf_any a n c _ w0 hnc hc).mono ?_
    rintro e w1 ⟨g, o, k, cap, xs, rfl, hxl, hM, -, m1, b1⟩
    clear w0 hnc hc
    have row := m1.sees.row
    go_wp2_with fail
    refine (SumOf_any _ k cap _ xs _ hxl (by omega) row).mono ?_
    rintro e w2 ⟨rfl, rfl⟩
    go_wp2_with fail
    refine (specSumOf_any _ k cap _ xs _ hxl (by omega) row).mono ?_
    rintro e w2 ⟨rfl, rfl⟩
    cases hv : vw xs
    · have HV := Lib.hid (sof_no hv)
      clear hv
      have hneg : sof xs < 0 := by rw [HV.out]; omega
      go_wp2_with fail
      refine (specSumOf_any _ k cap _ xs _ hxl (by omega) row).mono ?_
      rintro e w2 ⟨rfl, rfl⟩
      go_wp2
      go_ret
      exact ⟨rfl, b1⟩
    · have ⟨s0, s1⟩ := sof_range hv
      rcases Nat.eq_zero_or_pos k with rfl | hpos
      · clear hv
        go_wp2_with fail
        refine (specSumOf_any _ 0 cap _ xs _ hxl (by omega) row).mono ?_
        rintro e w2 ⟨rfl, rfl⟩
        go_wp2
        go_ret
        exact ⟨rfl, b1⟩
      · obtain ⟨j, rfl⟩ : ∃ j, k = j + 1 := ⟨k - 1, by omega⟩
        have HL := Lib.hid (sof_last hv hxl)
        have hcap : j + 1 ≤ cap := m1.2.1
        have hcm : cap ≤ maxLen := m1.2.2.1
        unfold maxLen at hcm
        have rowT := (m1.take (k := j) (by omega)).sees
        have hcell : w1.cell? ⟨g, o + j, none⟩ = some (.int .i64 (xs.getD j 0)) := by
          rw [m1.at_ (by omega), List.getElem?_map, List.getD_eq_getElem?_getD, List.getElem?_eq_getElem (by omega)]; rfl
        have hrT : Row .i64 w1 w1.heap.size (some ⟨g, o, none⟩) (xs.take j) := Sees.row (by simpa [List.map_take] using rowT)
        have hlT : (xs.take j).length = j := by simp; omega
        obtain ⟨x, hx⟩ : ∃ x, x = xs.getD j 0 := ⟨_, rfl⟩
        rw [← hx] at HL hcell
        have HXL := Lib.hid hxl
        clear hx rowT hv m1 hxl
        have hj0 : ((j : Int) + 1 == 0) = false := by simp; omega
        go_wp2
        go_region_with (first
          | (go_at_call_of 14 (Value.slice (some ⟨g, o, none⟩) j cap); refine (SumOf_any (some ⟨g, o, none⟩) j cap _ (xs.take j) _ hlT (by omega) (Row.drew hrT)).mono ?_; rintro e w2 ⟨rfl, rfl⟩)
          | (go_at_call_of 14 (Value.slice none 0 0); refine (SumOf_any none 0 0 0 [] _ rfl (by omega) Row.nil_).mono ?_; rw [sof_nil]; rintro e w2 ⟨rfl, rfl⟩)
          | (go_at_call 18; refine (AddWords_any _ _ _).mono ?_; rw [HL.out]; rintro e w2 ⟨rfl, b2⟩))
        all_goals go_wp2
        all_goals go_ret
        all_goals exact ⟨rfl, next b1.drew b2⟩
  · go_enter Try.func7, Try.ntmps7
    go_wp2
    go_ret
    exact ⟨rfl, Below.refl _ _⟩

set_option maxRecDepth 100000 in
theorem lifted (os : Os) (started : os.Started) (H : Type) (enc : TypeId × Value → H) :
    ReturnsInHanded {} Try.checked os 7 .any (Rows.fnSumOfSpec.pre6 enc Try.prog Try.f7 Rows.fnSumOfRow.domain false) (Rows.fnSumOfSpec.post enc Try.prog Try.f7 false true false false) := by
  refine returnsInHanded_of_change (C := Try.checked) own started (by kernel_rfl) Try.func7
    (ChangeSpec.witness6 (enc := enc) (C := Try.checked) false ⟨#[], #[.slice none 0 0], []⟩ 8 (by kernel_rfl) (by kernel_rfl) (by kernel_rfl) (by kernel_rfl)) ?_
  intro W base args ds gs before hval0 hW hcnd _
  have hval : ∀ (j : Nat) t v, Try.f7.params[j]? = some t → args[j]? = some v → Value.okWide Try.prog W .any base t v := hval0
  have hW' := hW
  obtain ⟨p, q, hA0, hV, rfl, hfz, hnd⟩ := hW
  have hA : DataW.TrodAll enc Try.prog W 0 (fun _ => true) true Try.f7.params.toList args.toList ds p := hA0
  rw [Try.params7] at hA hval
  obtain ⟨v0, vs0, d0, ds0, p0, q0, hargs, rfl, rfl, h0, r0⟩ := trodAll_cons hA
  obtain ⟨rfl, rfl, rfl⟩ := trodAll_nil r0
  obtain rfl : args = #[v0] := by cases args; simp_all
  obtain ⟨rfl, rfl⟩ := trodVars_none hV
  have k0 := h0
  have lt0 : ∀ x ∈ p0, x.block < W.heap.size := by obtain ⟨m, hm⟩ := k0; exact DataW.trod_lt m _ _ _ hm
  obtain ⟨a0, len0, cap0, rfl⟩ := okWide_slice Try.underlying27 (hval 0 27 v0 rfl rfl)
  obtain ⟨w0, lc0, cm0⟩ : Bytes W a0 len0 ∧ len0 ≤ cap0 ∧ cap0 ≤ 9223372036854775807 := by
    obtain ⟨fuel, hf⟩ := h0
    rcases open_ints Try.underlying27 Try.underlying5 (by kernel_rfl) hf with ⟨hcs, _⟩ | ⟨x, l, c, zs, hcs, _, hl, hm, hz, _, hcell, hwz⟩
    · simp [Value.cells] at hcs
      obtain ⟨rfl, rfl, rfl⟩ := hcs
      exact ⟨fun h => absurd h (by omega), by omega, by omega⟩
    · simp [Value.cells] at hcs
      obtain ⟨rfl, rfl, rfl⟩ := hcs
      have hz' : zs.length = cap0 := by simpa using hz
      exact ⟨bytes_of (by omega) hcell hwz, hl, hm⟩
  clear hA0 hval0
  refine (walk a0 len0 cap0 W w0 lc0 cm0).mono fun e W' ⟨he, bel⟩ => ?_
  subst he
  exact ⟨_, rfl, _, _, _, [], _, [], hW', trodAll_mk1 (shut_bool Try.underlying4 _), (trodAll_cons_mk (Below.trod laidOut (by kernel_rfl) (of_decide_eq_true (by kernel_rfl)) k0 bel lt0) trodAll_mk0), rfl, bel.frame _, fun h => by cases h⟩

theorem over : Rows.fnSumOfRow.holds Try.pinned (OpenSpec.ofChange Rows.fnSumOfSpec) :=
  OpenClaim.holds_of_wide 7 Try.f7 rfl rfl rfl rfl rfl rfl rfl ⟨rfl, rfl, rfl, rfl, rfl⟩ rfl rfl rfl rfl rfl (by kernel_rfl) Try.func7 (by kernel_rfl)
    (of_decide_eq_true (by kernel_rfl)) (by unfold Func.isWrapper; first | (rw [if_pos (by decide +kernel)]; kernel_rfl) | (rw [if_neg (by decide +kernel)]; exact ⟨rfl, rfl⟩))
    (fun os started H enc _ => lifted os started H enc)

theorem proved : Rows.FnSumOfSaid := over
#print axioms proved
end Go.Proofs.Ytbmcliaafldkpaa.fnSumOf
