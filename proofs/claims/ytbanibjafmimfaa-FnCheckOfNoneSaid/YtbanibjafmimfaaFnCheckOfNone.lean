/-
  'FnCheckOfNone': for every input the law returns true, and each argument reads afterwards as it read before. No condition.
  The frame of the row's step follows the kit's skeleton; the walk is ours.
-/
import Derived.Test.YtbanibjafmimfaaLawKit
import Derived.Test.YtbanibjafmimfaaDrawWords
import Derived.Test.YtbanibjafmimfaaSums
import Derived.Test.YtbanibjafmimfaaPlainSum2
import Derived.Deep.RegionWith
namespace Go.Proofs.Ytbanibjafmimfaa.fnCheckOfNone
open Go.ChangeShapes Go.WideShapes Go.ChangeAt Go.RowKit
set_option linter.unusedVariables false

set_option maxHeartbeats 1600000 in
theorem walk (a : Option Addr) (n c : Nat) (w : World) (w0 : Bytes w a n) (hnc : n ≤ c) (hc : c ≤ 9223372036854775807) :
    Calls Try.prog 3 #[.slice a n c] w fun e w' => e = .returned (.bool true) ∧ Below w.heap.size w w' := by
  by_cases hl : n ≤ 1048576
  · obtain ⟨i0, hi, hz0, hz1, hz2⟩ := info_parts int_info
    have HI := Lib.hid hi
    have HZ := Lib.hid hz0
    have HS := Lib.hid hz1
    have HY := Lib.hid hz2
    clear hi hz0 hz1 hz2
    go_enter Try.func3, Try.ntmps3
    go_wp2_with fail
    refine (DrawCheckOf_any a n c _ w0 hnc hc).mono ?_
    rintro e w1 ⟨g, o, k, cap, xs, rfl, hxl, hM, -, m1, b1⟩
    clear w0 hnc hc
    have row := m1.sees.row
    go_wp2_with fail
    refine (CheckOf_any _ k cap _ xs _ hxl (by omega) row).mono ?_
    rintro e w2 ⟨rfl, rfl⟩
    go_wp2_with fail
    refine (specCheckOf_any _ k cap _ xs _ hxl (by omega) row).mono ?_
    rintro e w2 ⟨rfl, rfl⟩
    cases hv : vw xs
    · have HV := Lib.hid (cof_no hv)
      clear hv
      have hneg : cof xs < 0 := by rw [HV.out]; omega
      go_wp2_with fail
      refine (specCheckOf_any _ k cap _ xs _ hxl (by omega) row).mono ?_
      rintro e w2 ⟨rfl, rfl⟩
      go_wp2
      go_ret
      exact ⟨rfl, b1⟩
    · have ⟨s0, s1⟩ := cof_range hv
      rcases Nat.eq_zero_or_pos k with rfl | hpos
      · clear hv
        go_wp2_with fail
        refine (specCheckOf_any _ 0 cap _ xs _ hxl (by omega) row).mono ?_
        rintro e w2 ⟨rfl, rfl⟩
        go_wp2
        go_ret
        exact ⟨rfl, b1⟩
      · have hk0 : ((k : Int) == 0) = false := by simp; omega
        have hx0 := areW_get (vw_areW hv) 0
        obtain ⟨hx0, hx1⟩ := hx0
        have hcap : k ≤ cap := m1.2.1
        have hcm : cap ≤ maxLen := m1.2.2.1
        unfold maxLen at hcm
        have hone := cof_one hv (by omega)
        have hrT : Row .i64 w1 w1.heap.size (some ⟨g, o, none⟩) (xs.take 1) := Sees.row (by simpa [List.map_take] using (m1.take (k := 1) (by omega)).sees)
        have hcell : w1.cell? ⟨g, o, none⟩ = some (.int .i64 (xs.getD 0 0)) := by
          have h := m1.at_ (j := 0) (by omega)
          rw [Nat.add_zero, List.getElem?_map] at h
          rw [h, List.getD_eq_getElem?_getD, List.getElem?_eq_getElem (by omega)]; rfl
        have hlT : (xs.take 1).length = 1 := by simp; omega
        obtain ⟨x, hx⟩ : ∃ x, x = xs.getD 0 0 := ⟨_, rfl⟩
        rw [← hx] at hcell hone hx0 hx1
        have cN : ∀ W : World, Calls Try.prog 10 #[.slice none 0 0] W fun e w' => e = .returned (.int .i64 65535) ∧ W = w' := fun W => by
          have h := CheckOf_any none 0 0 0 [] W rfl (by omega) Row.nil_
          rw [cof_nil] at h
          exact h
        have c1 : ∀ W : World, Row .i64 W w1.heap.size (some ⟨g, o, none⟩) (xs.take 1) → Calls Try.prog 10 #[.slice (some ⟨g, o, none⟩) 1 cap] W fun e w' => e = .returned (.int .i64 (65535 - x)) ∧ W = w' := fun W hr => by
          have h := CheckOf_any (some ⟨g, o, none⟩) 1 cap _ (xs.take 1) W hlT (by omega) hr
          rw [hone] at h
          exact h
        have CN := Lib.hid cN
        have C1 := Lib.hid c1
        have hw1 : IntKind.i64.wrap (65535 - x) = 65535 - x := wrap_in (by omega)
        have k1 : (1 : Int) ≤ (k : Int) := by omega
        have k2 : (1 : Int) ≤ (cap : Int) := by omega
        have k3 : (0 : Int) < (k : Int) := by omega
        clear cN c1 hx hone hlT hv m1 hxl
        go_wp2
        go_quiet ((first | (go_at_call_of 10 (Value.slice none 0 0); exact quietL (CN.out _)) | (go_at_call 10; exact quietL (C1.out _ (Row.drewN hrT _)))))
        go_wp2
        go_ret
        exact ⟨rfl, below_drewN b1 nq⟩
  · go_enter Try.func3, Try.ntmps3
    go_wp2
    go_ret
    exact ⟨rfl, Below.refl _ _⟩

set_option maxRecDepth 100000 in
theorem lifted (os : Os) (started : os.Started) (H : Type) (enc : TypeId × Value → H) :
    ReturnsInHanded {} Try.checked os 3 .any (Rows.fnCheckOfNoneSpec.pre6 enc Try.prog Try.f3 Rows.fnCheckOfNoneRow.domain false) (Rows.fnCheckOfNoneSpec.post enc Try.prog Try.f3 false true false false) := by
  refine returnsInHanded_of_change (C := Try.checked) own started (by kernel_rfl) Try.func3
    (ChangeSpec.witness6 (enc := enc) (C := Try.checked) false ⟨#[], #[.slice none 0 0], []⟩ 8 (by kernel_rfl) (by kernel_rfl) (by kernel_rfl) (by kernel_rfl)) ?_
  intro W base args ds gs before hval0 hW hcnd _
  have hval : ∀ (j : Nat) t v, Try.f3.params[j]? = some t → args[j]? = some v → Value.okWide Try.prog W .any base t v := hval0
  have hW' := hW
  obtain ⟨p, q, hA0, hV, rfl, hfz, hnd⟩ := hW
  have hA : DataW.TrodAll enc Try.prog W 0 (fun _ => true) true Try.f3.params.toList args.toList ds p := hA0
  rw [Try.params3] at hA hval
  obtain ⟨v0, vs0, d0, ds0, p0, q0, hargs, rfl, rfl, h0, r0⟩ := trodAll_cons hA
  obtain ⟨rfl, rfl, rfl⟩ := trodAll_nil r0
  obtain rfl : args = #[v0] := by cases args; simp_all
  obtain ⟨rfl, rfl⟩ := trodVars_none hV
  have k0 := h0
  have lt0 : ∀ x ∈ p0, x.block < W.heap.size := by obtain ⟨m, hm⟩ := k0; exact DataW.trod_lt m _ _ _ hm
  obtain ⟨a0, len0, cap0, rfl⟩ := okWide_slice Try.underlying22 (hval 0 22 v0 rfl rfl)
  obtain ⟨w0, lc0, cm0⟩ : Bytes W a0 len0 ∧ len0 ≤ cap0 ∧ cap0 ≤ 9223372036854775807 := by
    obtain ⟨fuel, hf⟩ := h0
    rcases open_ints Try.underlying22 Try.underlying5 (by kernel_rfl) hf with ⟨hcs, _⟩ | ⟨x, l, c, zs, hcs, _, hl, hm, hz, _, hcell, hwz⟩
    · simp [Value.cells] at hcs
      obtain ⟨rfl, rfl, rfl⟩ := hcs
      exact ⟨fun h => absurd h (by omega), by omega, by omega⟩
    · simp [Value.cells] at hcs
      obtain ⟨rfl, rfl, rfl⟩ := hcs
      have hz' : zs.length = cap0 := by simpa using hz
      exact ⟨bytes_of (by omega) hcell hwz, hl, hm⟩
  clear hA0 hval0
  refine (walk a0 len0 cap0 W w0 lc0 cm0).mono fun e W' ⟨he, bel⟩ => ?_
  subst he
  exact ⟨_, rfl, _, _, _, [], _, [], hW', trodAll_mk1 (shut_bool Try.underlying4 _), (trodAll_cons_mk (Below.trod laidOut (by kernel_rfl) (of_decide_eq_true (by kernel_rfl)) k0 bel lt0) trodAll_mk0), rfl, bel.frame _, fun h => by cases h⟩

theorem over : Rows.fnCheckOfNoneRow.holds Try.pinned (OpenSpec.ofChange Rows.fnCheckOfNoneSpec) :=
  OpenClaim.holds_of_wide 3 Try.f3 rfl rfl rfl rfl rfl rfl rfl ⟨rfl, rfl, rfl, rfl, rfl⟩ rfl rfl rfl rfl rfl (by kernel_rfl) Try.func3 (by kernel_rfl)
    (of_decide_eq_true (by kernel_rfl)) (by unfold Func.isWrapper; first | (rw [if_pos (by decide +kernel)]; kernel_rfl) | (rw [if_neg (by decide +kernel)]; exact ⟨rfl, rfl⟩))
    (fun os started H enc _ => lifted os started H enc)

theorem proved : Rows.FnCheckOfNoneSaid := over
#print axioms proved
end Go.Proofs.Ytbanibjafmimfaa.fnCheckOfNone
