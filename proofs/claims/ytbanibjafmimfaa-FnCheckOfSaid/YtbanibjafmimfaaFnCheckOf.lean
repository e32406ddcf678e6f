/-
  'FnCheckOf': for every input the law returns true, and each argument reads afterwards as it read before. No condition.
  The frame of the row's step follows the kit's skeleton; the walk is ours.
-/
import Derived.Test.YtbanibjafmimfaaLawKit
import Derived.Test.YtbanibjafmimfaaDrawWords
import Derived.Test.YtbanibjafmimfaaSums
import Derived.Test.YtbanibjafmimfaaPlainSum2
namespace Go.Proofs.Ytbanibjafmimfaa.fnCheckOf
open Go.ChangeShapes Go.WideShapes Go.ChangeAt Go.RowKit
set_option linter.unusedVariables false

set_option maxHeartbeats 1600000 in
theorem walk (a : Option Addr) (n c : Nat) (w : World) (w0 : Bytes w a n) (hnc : n ≤ c) (hc : c ≤ 9223372036854775807) :
    Calls Try.prog 4 #[.slice a n c] w fun e w' => e = .returned (.bool true) ∧ Below w.heap.size w w' := by
  by_cases hl : n ≤ 1048576
  · obtain ⟨i0, hi, hz0, hz1, hz2⟩ := info_parts int_info
    have HI := Lib.hid hi
    have HZ := Lib.hid hz0
    have HS := Lib.hid hz1
    have HY := Lib.hid hz2
    clear hi hz0 hz1 hz2
    go_enter Try.func4, Try.ntmps4
    go_wp2_with fail
    refine (DrawCheckOf_any a n c _ w0 hnc hc).mono ?_
    rintro e w1 ⟨g, o, k, cap, xs, rfl, hxl, hM, -, m1, b1⟩
    clear w0 hnc hc
    have row := m1.sees.row
    go_wp2_with fail
    refine (CheckOf_any _ k cap _ xs _ hxl (by omega) row).mono ?_
    rintro e w2 ⟨rfl, rfl⟩
    go_wp2_with fail
    refine (specCheckOf_any _ k cap _ xs _ hxl (by omega) row).mono ?_
    rintro e w2 ⟨rfl, rfl⟩
    cases hv : vw xs
    · have HV := Lib.hid (cof_no hv)
      clear hv
      have hneg : cof xs < 0 := by rw [HV.out]; omega
      go_wp2_with fail
      refine (specCheckOf_any _ k cap _ xs _ hxl (by omega) row).mono ?_
      rintro e w2 ⟨rfl, rfl⟩
      go_wp2
      go_ret
      exact ⟨rfl, b1⟩
    · have ⟨s0, s1⟩ := cof_range hv
      by_cases h20 : k = 20
      · clear hv
        subst h20
        go_wp2_with fail
        refine (specCheckOf_any _ 20 cap _ xs _ hxl (by omega) row).mono ?_
        rintro e w2 ⟨rfl, rfl⟩
        go_wp2
        go_ret
        exact ⟨rfl, b1⟩
      · have h20' : ((k : Int) == 20) = false := by simp; omega
        have HC := Lib.hid (isr_check hv (by have := vw_len hv; omega))
        have HF := Lib.hid (sof_cof hv)
        have hrow1 := row
        obtain ⟨y, hy⟩ : ∃ y, y = cof xs := ⟨_, rfl⟩
        rw [← hy] at s0 s1 HC HF ⊢
        have ⟨t0, t1⟩ := sof_range hv
        clear hy
        have HXL := Lib.hid hxl
        have HV := Lib.hid hv
        have hsee := m1.sees
        have hcm : cap ≤ maxLen := m1.2.2.1
        unfold maxLen at hcm
        have mB := Mine.new w1 3 1 0 #[] rfl (by simp [maxLen])
        have hseeB := hsee.alloc (Nat.le_refl _) (.cells #[] 3)
        have bB : Below w1.heap.size w1 (w1.alloc (.cells #[] 3)) := (Below.refl _ _).alloc (Nat.le_refl _) _
        have hlen : (xs.map (Value.int .i64)).length = k * 1 := by simpa using hxl
        have hlen' : (xs.map (Value.int .i64)).length = k := by simpa using hxl
        clear hv hxl m1 row hsee
        go_wp2_with (first
          | (at_builtin; refine wpList_append_mine _ rfl (.tmp 29) (.tmp 30) 23 rfl w1.heap.size 3 i0 (.int .i64 0) 1 8 Try.underlying23 HI.out HZ.out HS.out HY.out rfl (by omega) _ 0 0 [] rfl mB _ _ k cap (xs.map (Value.int .i64)) rfl hlen hseeB (one_ints xs) (by unfold maxLen; omega) (by omega) (by simp) ?_; intro A3 cap3 w3 m3 g3 at3; simp only [Nat.zero_add, List.nil_append] at m3; have b3 : Below w1.heap.size w1 w3 := bB.grown g3 (by simp) (by simp); have hs3 := b3.size)
          | (at_builtin; refine wpList_append_mine _ rfl (.tmp 31) (.tmp 33) 23 rfl w1.heap.size 3 i0 (.int .i64 0) 1 8 Try.underlying23 HI.out HZ.out HS.out HY.out rfl (by omega) A3 k cap3 (xs.map (Value.int .i64)) rfl (m3.alloc _) _ _ 1 1 [.int .i64 y] rfl rfl (Mine.new w3 3 1 1 #[.int .i64 y] rfl (by simp [maxLen])).sees (by simp [Value.oneCell']) (by unfold maxLen; omega) (by omega) (by simp; omega) ?_; intro A4 cap4 w4 m4 g4 at4))
        obtain ⟨g4', o4', rfl⟩ := some_of' m4 (by omega)
        have hs4 := g4.size
        have b4 : Below w1.heap.size w1 w4 := (b3.alloc hs3 (.cells #[.int .i64 y] 3)).grown g4 (by simp; omega) (fun j hj => (m3.lt hj).1)
        have row4 : Row .i64 w4 w4.heap.size (some ⟨g4', o4', none⟩) (xs ++ [y]) := Sees.row (by simpa using m4.sees)
        clear m3 g3 at3 b3 m4 g4 at4 mB hseeB bB hs3
        refine (IsRight_any _ (k + 1) cap4 _ (xs ++ [y]) _ (by simp [HXL.out]) (by omega) row4).mono ?_
        rw [HC.out]
        rintro e w5 ⟨rfl, rfl⟩
        go_wp2_with fail
        refine (SumOf_any _ k cap _ xs _ HXL.out (by omega) (hrow1.below b4)).mono ?_
        rintro e w5 ⟨rfl, rfl⟩
        have hfin : (sof xs + y == 65535) = true := by rw [HF.out]; rfl
        go_wp2
        go_ret
        exact ⟨rfl, next b1 b4⟩
  · go_enter Try.func4, Try.ntmps4
    go_wp2
    go_ret
    exact ⟨rfl, Below.refl _ _⟩

set_option maxRecDepth 100000 in
theorem lifted (os : Os) (started : os.Started) (H : Type) (enc : TypeId × Value → H) :
    ReturnsInHanded {} Try.checked os 4 .any (Rows.fnCheckOfSpec.pre6 enc Try.prog Try.f4 Rows.fnCheckOfRow.domain false) (Rows.fnCheckOfSpec.post enc Try.prog Try.f4 false true false false) := by
  refine returnsInHanded_of_change (C := Try.checked) own started (by kernel_rfl) Try.func4
    (ChangeSpec.witness6 (enc := enc) (C := Try.checked) false ⟨#[], #[.slice none 0 0], []⟩ 8 (by kernel_rfl) (by kernel_rfl) (by kernel_rfl) (by kernel_rfl)) ?_
  intro W base args ds gs before hval0 hW hcnd _
  have hval : ∀ (j : Nat) t v, Try.f4.params[j]? = some t → args[j]? = some v → Value.okWide Try.prog W .any base t v := hval0
  have hW' := hW
  obtain ⟨p, q, hA0, hV, rfl, hfz, hnd⟩ := hW
  have hA : DataW.TrodAll enc Try.prog W 0 (fun _ => true) true Try.f4.params.toList args.toList ds p := hA0
  rw [Try.params4] at hA hval
  obtain ⟨v0, vs0, d0, ds0, p0, q0, hargs, rfl, rfl, h0, r0⟩ := trodAll_cons hA
  obtain ⟨rfl, rfl, rfl⟩ := trodAll_nil r0
  obtain rfl : args = #[v0] := by cases args; simp_all
  obtain ⟨rfl, rfl⟩ := trodVars_none hV
  have k0 := h0
  have lt0 : ∀ x ∈ p0, x.block < W.heap.size := by obtain ⟨m, hm⟩ := k0; exact DataW.trod_lt m _ _ _ hm
  obtain ⟨a0, len0, cap0, rfl⟩ := okWide_slice Try.underlying22 (hval 0 22 v0 rfl rfl)
  obtain ⟨w0, lc0, cm0⟩ : Bytes W a0 len0 ∧ len0 ≤ cap0 ∧ cap0 ≤ 9223372036854775807 := by
    obtain ⟨fuel, hf⟩ := h0
    rcases open_ints Try.underlying22 Try.underlying5 (by kernel_rfl) hf with ⟨hcs, _⟩ | ⟨x, l, c, zs, hcs, _, hl, hm, hz, _, hcell, hwz⟩
    · simp [Value.cells] at hcs
      obtain ⟨rfl, rfl, rfl⟩ := hcs
      exact ⟨fun h => absurd h (by omega), by omega, by omega⟩
    · simp [Value.cells] at hcs
      obtain ⟨rfl, rfl, rfl⟩ := hcs
      have hz' : zs.length = cap0 := by simpa using hz
      exact ⟨bytes_of (by omega) hcell hwz, hl, hm⟩
  clear hA0 hval0
  refine (walk a0 len0 cap0 W w0 lc0 cm0).mono fun e W' ⟨he, bel⟩ => ?_
  subst he
  exact ⟨_, rfl, _, _, _, [], _, [], hW', trodAll_mk1 (shut_bool Try.underlying4 _), (trodAll_cons_mk (Below.trod laidOut (by kernel_rfl) (of_decide_eq_true (by kernel_rfl)) k0 bel lt0) trodAll_mk0), rfl, bel.frame _, fun h => by cases h⟩

theorem over : Rows.fnCheckOfRow.holds Try.pinned (OpenSpec.ofChange Rows.fnCheckOfSpec) :=
  OpenClaim.holds_of_wide 4 Try.f4 rfl rfl rfl rfl rfl rfl rfl ⟨rfl, rfl, rfl, rfl, rfl⟩ rfl rfl rfl rfl rfl (by kernel_rfl) Try.func4 (by kernel_rfl)
    (of_decide_eq_true (by kernel_rfl)) (by unfold Func.isWrapper; first | (rw [if_pos (by decide +kernel)]; kernel_rfl) | (rw [if_neg (by decide +kernel)]; exact ⟨rfl, rfl⟩))
    (fun os started H enc _ => lifted os started H enc)

theorem proved : Rows.FnCheckOfSaid := over
#print axioms proved
end Go.Proofs.Ytbanibjafmimfaa.fnCheckOf
