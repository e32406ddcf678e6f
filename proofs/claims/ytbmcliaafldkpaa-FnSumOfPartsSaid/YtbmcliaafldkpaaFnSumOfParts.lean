/-
  'FnSumOfParts': for every input the law returns true, and each argument reads afterwards as it read before. No condition.
  The frame of the row's step follows the kit's skeleton; the walk is ours.
-/
import Derived.Test.YtbmcliaafldkpaaLawKit
import Derived.Test.YtbmcliaafldkpaaDrawWords
import Derived.Test.YtbmcliaafldkpaaSums
import Derived.Test.YtbmcliaafldkpaaPlainSum
import Derived.Deep.RegionWith
import Derived.BigRegion
namespace Go.Proofs.Ytbmcliaafldkpaa.fnSumOfParts
open Go.ChangeShapes Go.WideShapes Go.ChangeAt Go.RowKit
set_option linter.unusedVariables false

set_option maxHeartbeats 1600000 in
theorem walk (a : Option Addr) (n c : Nat) (w : World) (w0 : Bytes w a n) (hnc : n ≤ c) (hc : c ≤ 9223372036854775807) :
    Calls Try.prog 8 #[.slice a n c] w fun e w' => e = .returned (.bool true) ∧ Below w.heap.size w w' := by
  by_cases hl : n ≤ 1048576
  · go_enter Try.func8, Try.ntmps8
    go_wp2_with fail
    refine (DrawSumOf_any a n c _ w0 hnc hc).mono ?_
    rintro e w1 ⟨g, o, k, cap, xs, rfl, hxl, hM, -, m1, b1⟩
    clear w0 hnc hc
    have row := m1.sees.row
    go_wp2_with fail
    refine (SumOf_any _ k cap _ xs _ hxl (by omega) row).mono ?_
    rintro e w2 ⟨rfl, rfl⟩
    go_wp2_with fail
    refine (specSumOf_any _ k cap _ xs _ hxl (by omega) row).mono ?_
    rintro e w2 ⟨rfl, rfl⟩
    cases hv : vw xs
    · have HV := Lib.hid (sof_no hv)
      clear hv
      have hneg : sof xs < 0 := by rw [HV.out]; omega
      go_wp2_with fail
      refine (specSumOf_any _ k cap _ xs _ hxl (by omega) row).mono ?_
      rintro e w2 ⟨rfl, rfl⟩
      go_wp2
      go_ret
      exact ⟨rfl, b1⟩
    · have ⟨s0, s1⟩ := sof_range hv
      have HP := Lib.hid (sof_parts hv (k / 2))
      have hcap : k ≤ cap := m1.2.1
      have hcm : cap ≤ maxLen := m1.2.2.1
      unfold maxLen at hcm
      rcases Nat.eq_zero_or_pos k with rfl | hpos
      · have hx0 : xs = [] := List.eq_nil_of_length_eq_zero hxl
        subst hx0
        have HN := Lib.hid (sof_nil)
        have HA := Lib.hid (show adw 0 0 = 0 by decide)
        clear hv m1 HP
        rw [HN.out] at s0 s1 ⊢
        by_cases hc0 : cap = 0
        · subst hc0
          go_wp2
          go_region_with (first
            | (go_at_call 14; refine (SumOf_any _ 0 _ 0 [] _ rfl (by omega) Row.nil_).mono ?_; rw [HN.out]; rintro e w2 ⟨rfl, rfl⟩)
            | (go_at_call 18; refine (AddWords_any _ _ _).mono ?_; rw [HA.out]; rintro e w2 ⟨rfl, b2⟩))
          all_goals go_wp2
          all_goals go_ret
          all_goals exact ⟨rfl, next b1.drew b2⟩
        · go_wp2
          go_region_with (first
            | (go_at_call 14; refine (SumOf_any _ 0 _ 0 [] _ rfl (by omega) Row.nil_).mono ?_; rw [HN.out]; rintro e w2 ⟨rfl, rfl⟩)
            | (go_at_call 18; refine (AddWords_any _ _ _).mono ?_; rw [HA.out]; rintro e w2 ⟨rfl, b2⟩))
          all_goals go_wp2
          all_goals go_ret
          all_goals exact ⟨rfl, next b1.drew b2⟩
      · obtain ⟨j, hj⟩ : ∃ j, j = k / 2 := ⟨_, rfl⟩
        rw [← hj] at HP
        have hjk : j < k := by omega
        have hdiv : (k : Int) / 2 = (j : Int) := by omega
        have hcj : ¬ cap = j := by omega
        have rowT : Row .i64 w1 w1.heap.size (some ⟨g, o, none⟩) (xs.take j) := Sees.row (by simpa [List.map_take] using (m1.take (k := j) (by omega)).sees)
        have rowD : Row .i64 w1 w1.heap.size (some ⟨g, o + j, none⟩) (xs.drop j) := Sees.row (by simpa [List.map_drop] using (m1.drop (k := j) (by omega)).sees)
        have hlT : (xs.take j).length = j := by simp; omega
        have hlD : (xs.drop j).length = k - j := by simp; omega
        have HXL := Lib.hid hxl
        have j0 : (0 : Int) ≤ (j : Int) := by omega
        have j1 : (j : Int) ≤ (k : Int) := by omega
        have j2 : (j : Int) ≤ (cap : Int) := by omega
        have j3 : (k : Int) ≤ (cap : Int) := by omega
        have eT := Lib.hid hlT
        have eD := Lib.hid hlD
        clear hj hv m1 hxl hlT hlD
        go_wp2
        go_region_with (first
          | (go_at_call_of 14 (Value.slice (some ⟨g, o, none⟩) j cap); refine (SumOf_any (some ⟨g, o, none⟩) j cap _ (xs.take j) _ eT.out (by omega) (Row.drew rowT)).mono ?_; rintro e w2 ⟨rfl, rfl⟩)
          | (go_at_call 14; refine (SumOf_any (some ⟨g, o + j, none⟩) (k - j) (cap - j) _ (xs.drop j) _ eD.out (by omega) (Row.drew rowD)).mono ?_; rintro e w2 ⟨rfl, rfl⟩)
          | (go_at_call 18; refine (AddWords_any _ _ _).mono ?_; rw [HP.out]; rintro e w2 ⟨rfl, b2⟩))
        all_goals go_wp2
        all_goals go_ret
        all_goals exact ⟨rfl, next b1.drew b2⟩
  · go_enter Try.func8, Try.ntmps8
    go_wp2
    go_ret
    exact ⟨rfl, Below.refl _ _⟩

set_option maxRecDepth 100000 in
theorem lifted (os : Os) (started : os.Started) (H : Type) (enc : TypeId × Value → H) :
    ReturnsInHanded {} Try.checked os 8 .any (Rows.fnSumOfPartsSpec.pre6 enc Try.prog Try.f8 Rows.fnSumOfPartsRow.domain false) (Rows.fnSumOfPartsSpec.post enc Try.prog Try.f8 false true false false) := by
  refine returnsInHanded_of_change (C := Try.checked) own started (by kernel_rfl) Try.func8
    (ChangeSpec.witness6 (enc := enc) (C := Try.checked) false ⟨#[], #[.slice none 0 0], []⟩ 8 (by kernel_rfl) (by kernel_rfl) (by kernel_rfl) (by kernel_rfl)) ?_
  intro W base args ds gs before hval0 hW hcnd _
  have hval : ∀ (j : Nat) t v, Try.f8.params[j]? = some t → args[j]? = some v → Value.okWide Try.prog W .any base t v := hval0
  have hW' := hW
  obtain ⟨p, q, hA0, hV, rfl, hfz, hnd⟩ := hW
  have hA : DataW.TrodAll enc Try.prog W 0 (fun _ => true) true Try.f8.params.toList args.toList ds p := hA0
  rw [Try.params8] at hA hval
  obtain ⟨v0, vs0, d0, ds0, p0, q0, hargs, rfl, rfl, h0, r0⟩ := trodAll_cons hA
  obtain ⟨rfl, rfl, rfl⟩ := trodAll_nil r0
  obtain rfl : args = #[v0] := by cases args; simp_all
  obtain ⟨rfl, rfl⟩ := trodVars_none hV
  have k0 := h0
  have lt0 : ∀ x ∈ p0, x.block < W.heap.size := by obtain ⟨m, hm⟩ := k0; exact DataW.trod_lt m _ _ _ hm
  obtain ⟨a0, len0, cap0, rfl⟩ := okWide_slice Try.underlying27 (hval 0 27 v0 rfl rfl)
  obtain ⟨w0, lc0, cm0⟩ : Bytes W a0 len0 ∧ len0 ≤ cap0 ∧ cap0 ≤ 9223372036854775807 := by
    obtain ⟨fuel, hf⟩ := h0
    rcases open_ints Try.underlying27 Try.underlying5 (by kernel_rfl) hf with ⟨hcs, _⟩ | ⟨x, l, c, zs, hcs, _, hl, hm, hz, _, hcell, hwz⟩
    · simp [Value.cells] at hcs
      obtain ⟨rfl, rfl, rfl⟩ := hcs
      exact ⟨fun h => absurd h (by omega), by omega, by omega⟩
    · simp [Value.cells] at hcs
      obtain ⟨rfl, rfl, rfl⟩ := hcs
      have hz' : zs.length = cap0 := by simpa using hz
      exact ⟨bytes_of (by omega) hcell hwz, hl, hm⟩
  clear hA0 hval0
  refine (walk a0 len0 cap0 W w0 lc0 cm0).mono fun e W' ⟨he, bel⟩ => ?_
  subst he
  exact ⟨_, rfl, _, _, _, [], _, [], hW', trodAll_mk1 (shut_bool Try.underlying4 _), (trodAll_cons_mk (Below.trod laidOut (by kernel_rfl) (of_decide_eq_true (by kernel_rfl)) k0 bel lt0) trodAll_mk0), rfl, bel.frame _, fun h => by cases h⟩

theorem over : Rows.fnSumOfPartsRow.holds Try.pinned (OpenSpec.ofChange Rows.fnSumOfPartsSpec) :=
  OpenClaim.holds_of_wide 8 Try.f8 rfl rfl rfl rfl rfl rfl rfl ⟨rfl, rfl, rfl, rfl, rfl⟩ rfl rfl rfl rfl rfl (by kernel_rfl) Try.func8 (by kernel_rfl)
    (of_decide_eq_true (by kernel_rfl)) (by unfold Func.isWrapper; first | (rw [if_pos (by decide +kernel)]; kernel_rfl) | (rw [if_neg (by decide +kernel)]; exact ⟨rfl, rfl⟩))
    (fun os started H enc _ => lifted os started H enc)

theorem proved : Rows.FnSumOfPartsSaid := over
#print axioms proved
end Go.Proofs.Ytbmcliaafldkpaa.fnSumOfParts
