/-
  'FnIsRight': for every input the law returns true, and each argument reads afterwards as it read before. No condition.
  The frame of the row's step follows the kit's skeleton; the walk is ours.
-/
import Derived.Test.YtbanibjafmimfaaLawKit
import Derived.Test.YtbanibjafmimfaaDrawRight
import Derived.Test.YtbanibjafmimfaaSums
import Derived.Test.YtbanibjafmimfaaPlainSum2
namespace Go.Proofs.Ytbanibjafmimfaa.fnIsRight
open Go.ChangeShapes Go.WideShapes Go.ChangeAt Go.RowKit
set_option linter.unusedVariables false

theorem rev_step (xs : List Int) (q : Nat) (h : q < xs.length) : (xs.drop (q + 1)).reverse ++ [xs.getD q 0] = (xs.drop q).reverse := by
  rw [List.drop_eq_getElem_cons h, List.reverse_cons, List.getD_eq_getElem?_getD, List.getElem?_eq_getElem h]; rfl

set_option maxHeartbeats 1600000 in
theorem walk (a : Option Addr) (n c : Nat) (w : World) (w0 : Bytes w a n) (hnc : n ≤ c) (hc : c ≤ 9223372036854775807) :
    Calls Try.prog 6 #[.slice a n c] w fun e w' => e = .returned (.bool true) ∧ Below w.heap.size w w' := by
  by_cases hl : n ≤ 1048576
  · obtain ⟨i0, hi, hz0, hz1, hz2⟩ := info_parts int_info
    have HI := Lib.hid hi
    have HZ := Lib.hid hz0
    have HS := Lib.hid hz1
    have HY := Lib.hid hz2
    clear hi hz0 hz1 hz2
    go_enter Try.func6, Try.ntmps6
    go_wp2_with fail
    refine (DrawIsRight_any a n c _ w0 hnc hc).mono ?_
    rintro e w1 ⟨g, o, k, cap, xs, rfl, hxl, hM, -, m1, b1⟩
    clear w0 hnc hc
    have row := m1.sees.row
    go_wp2_with fail
    refine (IsRight_any _ k cap _ xs _ hxl (by omega) row).mono ?_
    rintro e w2 ⟨rfl, rfl⟩
    go_wp2_with fail
    refine (specIsRight_any _ k cap _ xs _ hxl (by omega) row).mono ?_
    rintro e w2 ⟨rfl, rfl⟩
    by_cases h20 : k < 20
    · cases hv : vw xs
      · have HV := Lib.hid (sof_no hv)
        have hneg : sof xs < 0 := by rw [HV.out]; omega
        clear hv
        go_wp2_with fail
        refine (SumOf_any _ k cap _ xs _ hxl (by omega) row).mono ?_
        rintro e w2 ⟨rfl, rfl⟩
        go_wp2_with fail
        refine (specIsRight_any _ k cap _ xs _ hxl (by omega) row).mono ?_
        rintro e w2 ⟨rfl, rfl⟩
        go_wp2
        go_ret
        exact ⟨rfl, b1⟩
      · have ⟨s0, s1⟩ := sof_range hv
        go_wp2_with fail
        refine (SumOf_any _ k cap _ xs _ hxl (by omega) row).mono ?_
        rintro e w2 ⟨rfl, rfl⟩
        have hrow1 := row
        have HR := Lib.hid (isr_reverse xs)
        have hvr : vw xs.reverse = true := vw_yes (by have := vw_len hv; simpa using this) (areW_reverse (vw_areW hv))
        have H0 := Lib.hid ((isr_zero hvr (by rw [List.length_reverse]; omega)).trans (isr_reverse xs))
        have HXL := Lib.hid hxl
        have hcell := fun (j : Nat) (hj : j < k) => m1.at_ (j := j) (by omega)
        have HC := Lib.hid hcell
        have hgl : g < w1.heap.size := (m1.lt rfl).2
        have mB := Mine.new w1 3 1 0 #[] rfl (by simp [maxLen])
        have bB : Below w1.heap.size w1 (w1.alloc (.cells #[] 3)) := (Below.refl _ _).alloc (Nat.le_refl _) _
        clear hv hxl hcell m1 row hvr
        go_wp2_with fail
        go_loopw [5, 6] (fun v i wr => ∃ (j : Nat) (iv : Int) (g' o' cap' : Nat), j ≤ k ∧ iv = j - 1 ∧ v = .slice (some ⟨g', o', none⟩) (k - j) cap' ∧ i = .int .i64 iv ∧
            Mine wr w1.heap.size 1 (some ⟨g', o', none⟩) (k - j) cap' ((xs.drop j).reverse.map (Value.int .i64)) ∧ Below w1.heap.size w1 wr) (fun _ i _ => (intOf i + 1).toNat)
        case atStart =>
          have hd : xs.drop k = [] := by rw [List.drop_eq_nil_iff, HXL.out]; exact Nat.le_refl _
          exact ⟨k, (k : Int) - 1, w1.heap.size, 0, 0, Nat.le_refl _, rfl, by simp, rfl, by rw [hd]; simpa using mB, bB⟩
        case round =>
          obtain ⟨j, iv, g', o', cap', hjk, hiv, rfl, rfl, mM, bM⟩ := hrel
          clear mB bB
          have hcm := mM.2.2.1
          unfold maxLen at hcm
          have hgs := bM.size
          have hgl' : w1.heap.size ≤ g' := (mM.lt rfl).1
          cases j with
          | zero =>
            have : iv = -1 := by omega
            subst this
            clear hiv
            rw [List.drop_zero] at mM
            simp only [Nat.sub_zero] at mM ⊢
            have rowB := mM.sees.row
            have hlen : (xs.reverse.map (Value.int .i64)).length = k := by simpa using mM.1
            have HL := Lib.hid hlen
            clear hlen
            go_wp2_with fail
            refine (IsRight_any _ k cap' _ xs.reverse _ (by rw [List.length_reverse]; exact HXL.out) (by omega) rowB).mono ?_
            rw [HR.out]
            rintro e w3 ⟨rfl, rfl⟩
            clear rowB
            go_wp2_with (at_builtin; refine wpList_append_mine_g _ (by rfl) _ _ 23 rfl w1.heap.size 3 i0 (.int .i64 0) 1 8 Try.underlying23 HI.out HZ.out HS.out HY.out rfl (by omega) _ k cap' (xs.reverse.map (Value.int .i64)) rfl (mM.alloc _) _ _ 1 1 [.int .i64 0] rfl rfl (Mine.new wr 3 1 1 #[.int .i64 0] rfl (by simp [maxLen])).sees (by simp [Value.oneCell']) (by unfold maxLen; omega) (by omega) (by simp; omega) ?_; intro A' cap3 w3 m3 g3 at3; obtain ⟨g3', o3', rfl⟩ := some_of at3 m3)
            have bM3 : Below w1.heap.size w1 w3 := (bM.alloc hgs (.cells #[.int .i64 0] 3)).grown g3 (by simp; omega) (by intro j hj; simp at hj; omega)
            have row3 : Row .i64 w3 w3.heap.size (some ⟨g3', o3', none⟩) (xs.reverse ++ [0]) := Sees.row (by simpa using m3.sees)
            clear m3 g3 at3 mM bM
            refine (IsRight_any _ (k + 1) cap3 _ (xs.reverse ++ [0]) _ (by simp [HXL.out]) (by omega) row3).mono ?_
            rw [H0.out]
            rintro e w4 ⟨rfl, rfl⟩
            clear row3
            go_wp2_with fail
            refine (SumOf_any _ k cap _ xs _ HXL.out (by omega) (hrow1.below bM3)).mono ?_
            rintro e w4 ⟨rfl, rfl⟩
            have hq : (sof xs == 65535) = isr xs := rfl
            go_wp2
            go_ret
            exact ⟨rfl, next b1 bM3⟩
          | succ q =>
            have : iv = q := by omega
            subst this
            clear hiv
            have hq : q < k := by omega
            have hcell : wr.cell? ⟨g, o + q, none⟩ = some (.int .i64 (xs.getD q 0)) := by
              rw [bM.cell (p := ⟨g, o + q, none⟩) hgl, HC.out q hq, List.getElem?_map, List.getD_eq_getElem?_getD, List.getElem?_eq_getElem (by rw [HXL.out]; exact hq)]; rfl
            have HT := Lib.hid (rev_step xs q (by rw [HXL.out]; exact hq))
            obtain ⟨x, hx⟩ : ∃ x, x = xs.getD q 0 := ⟨_, rfl⟩
            rw [← hx] at hcell HT
            clear hx
            have q1 : (q : Int) < (k : Int) := by omega
            have bM' : Below w1.heap.size w1 (wr.alloc (.cells #[.int .i64 x] 3)) := bM.alloc hgs _
            go_wp2_with (at_builtin; refine wpList_append_mine _ rfl _ _ 23 rfl w1.heap.size 3 i0 (.int .i64 0) 1 8 Try.underlying23 HI.out HZ.out HS.out HY.out rfl (by omega) _ (k - (q + 1)) cap' ((xs.drop (q + 1)).reverse.map (Value.int .i64)) rfl (mM.alloc _) _ _ 1 1 [.int .i64 x] rfl rfl (Mine.new wr 3 1 1 #[.int .i64 x] rfl (by simp [maxLen])).sees (by simp [Value.oneCell']) (by unfold maxLen; omega) (by omega) (by simp; omega) ?_; intro A' cap3 w3 m3 g3 at3)
            obtain ⟨g3', o3', rfl⟩ := some_of at3 m3
            have bM3 := Lib.hid (bM'.grown g3 (by simp; omega) (by intro j hj; simp at hj; omega))
            have hk1 : k - (q + 1) + 1 = k - q := by omega
            rw [hk1] at m3 ⊢
            have m3' : Mine w3 w1.heap.size 1 (some ⟨g3', o3', none⟩) (k - q) cap3 ((xs.drop q).reverse.map (Value.int .i64)) := by
              rw [← HT.out, List.map_append]; exact m3
            clear m3 g3 at3 hk1 mM bM bM' hcell
            go_wp2
            go_roundw
            case rel => exact ⟨q, (q : Int) - 1, g3', o3', cap3, by omega, rfl, rfl, rfl, m3', bM3.out⟩
            case measure => simp [intOf]
    · have h20' : (20 : Int) ≤ (k : Int) := by omega
      go_wp2_with fail
      refine (specIsRight_any _ k cap _ xs _ hxl (by omega) row).mono ?_
      rintro e w2 ⟨rfl, rfl⟩
      go_wp2
      go_ret
      exact ⟨rfl, b1⟩
  · go_enter Try.func6, Try.ntmps6
    go_wp2
    go_ret
    exact ⟨rfl, Below.refl _ _⟩

set_option maxRecDepth 100000 in
theorem lifted (os : Os) (started : os.Started) (H : Type) (enc : TypeId × Value → H) :
    ReturnsInHanded {} Try.checked os 6 .any (Rows.fnIsRightSpec.pre6 enc Try.prog Try.f6 Rows.fnIsRightRow.domain false) (Rows.fnIsRightSpec.post enc Try.prog Try.f6 false true false false) := by
  refine returnsInHanded_of_change (C := Try.checked) own started (by kernel_rfl) Try.func6
    (ChangeSpec.witness6 (enc := enc) (C := Try.checked) false ⟨#[], #[.slice none 0 0], []⟩ 8 (by kernel_rfl) (by kernel_rfl) (by kernel_rfl) (by kernel_rfl)) ?_
  intro W base args ds gs before hval0 hW hcnd _
  have hval : ∀ (j : Nat) t v, Try.f6.params[j]? = some t → args[j]? = some v → Value.okWide Try.prog W .any base t v := hval0
  have hW' := hW
  obtain ⟨p, q, hA0, hV, rfl, hfz, hnd⟩ := hW
  have hA : DataW.TrodAll enc Try.prog W 0 (fun _ => true) true Try.f6.params.toList args.toList ds p := hA0
  rw [Try.params6] at hA hval
  obtain ⟨v0, vs0, d0, ds0, p0, q0, hargs, rfl, rfl, h0, r0⟩ := trodAll_cons hA
  obtain ⟨rfl, rfl, rfl⟩ := trodAll_nil r0
  obtain rfl : args = #[v0] := by cases args; simp_all
  obtain ⟨rfl, rfl⟩ := trodVars_none hV
  have k0 := h0
  have lt0 : ∀ x ∈ p0, x.block < W.heap.size := by obtain ⟨m, hm⟩ := k0; exact DataW.trod_lt m _ _ _ hm
  obtain ⟨a0, len0, cap0, rfl⟩ := okWide_slice Try.underlying22 (hval 0 22 v0 rfl rfl)
  obtain ⟨w0, lc0, cm0⟩ : Bytes W a0 len0 ∧ len0 ≤ cap0 ∧ cap0 ≤ 9223372036854775807 := by
    obtain ⟨fuel, hf⟩ := h0
    rcases open_ints Try.underlying22 Try.underlying5 (by kernel_rfl) hf with ⟨hcs, _⟩ | ⟨x, l, c, zs, hcs, _, hl, hm, hz, _, hcell, hwz⟩
    · simp [Value.cells] at hcs
      obtain ⟨rfl, rfl, rfl⟩ := hcs
      exact ⟨fun h => absurd h (by omega), by omega, by omega⟩
    · simp [Value.cells] at hcs
      obtain ⟨rfl, rfl, rfl⟩ := hcs
      have hz' : zs.length = cap0 := by simpa using hz
      exact ⟨bytes_of (by omega) hcell hwz, hl, hm⟩
  clear hA0 hval0
  refine (walk a0 len0 cap0 W w0 lc0 cm0).mono fun e W' ⟨he, bel⟩ => ?_
  subst he
  exact ⟨_, rfl, _, _, _, [], _, [], hW', trodAll_mk1 (shut_bool Try.underlying4 _), (trodAll_cons_mk (Below.trod laidOut (by kernel_rfl) (of_decide_eq_true (by kernel_rfl)) k0 bel lt0) trodAll_mk0), rfl, bel.frame _, fun h => by cases h⟩

theorem over : Rows.fnIsRightRow.holds Try.pinned (OpenSpec.ofChange Rows.fnIsRightSpec) :=
  OpenClaim.holds_of_wide 6 Try.f6 rfl rfl rfl rfl rfl rfl rfl ⟨rfl, rfl, rfl, rfl, rfl⟩ rfl rfl rfl rfl rfl (by kernel_rfl) Try.func6 (by kernel_rfl)
    (of_decide_eq_true (by kernel_rfl)) (by unfold Func.isWrapper; first | (rw [if_pos (by decide +kernel)]; kernel_rfl) | (rw [if_neg (by decide +kernel)]; exact ⟨rfl, rfl⟩))
    (fun os started H enc _ => lifted os started H enc)

theorem proved : Rows.FnIsRightSaid := over
#print axioms proved
end Go.Proofs.Ytbanibjafmimfaa.fnIsRight
