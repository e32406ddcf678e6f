/-
  'FnMissingFromMore': for every input the law returns true, and each argument reads afterwards as it read before. No condition.
  The frame of the row's step follows the kit's skeleton; the walk is ours.
-/
import Derived.Test.YtoiobkoeghjjoaaLawKit
import Derived.Test.YtoiobkoeghjjoaaPlainPart
import Derived.Test.YtoiobkoeghjjoaaDrawPart
namespace Go.Proofs.Ytoiobkoeghjjoaa.fnMissingFromMore
open Go.ChangeShapes Go.WideShapes Go.ChangeAt Go.RowKit
set_option linter.unusedVariables false

set_option maxHeartbeats 1600000 in
theorem walk (a : Option Addr) (n c : Nat) (w : World) (w0 : Bytes w a n) (hnc : n ≤ c) (hc : c ≤ 9223372036854775807) :
    Calls Try.prog 13 #[.slice a n c] w fun e w' => e = .returned (.bool true) ∧ Below w.heap.size w w' := by
  by_cases hl : n ≤ 1048576
  · go_enter Try.func13, Try.ntmps13
    go_wp2_with fail
    refine (DrawMissingFrom_any a n c _ w0 hnc hc).mono ?_
    rintro e w1 ⟨A, m, cap, V, rfl, hm7, hQ, m1, b1⟩
    have R1 := Lib.hid m1.row
    have hmc := m1.2.1.2.1
    have hcm := m1.2.1.2.2.1
    unfold maxLen at hcm
    obtain ⟨L, hL⟩ : ∃ L, L = V.map PV.pt := ⟨_, rfl⟩
    have hLm : L.length = m := by rw [hL, List.length_map]; exact m1.1
    rw [← hL] at R1
    have B1 := Lib.hid b1
    clear w0 hnc hc b1 m1 hQ hL
    go_wp2_with fail
    refine (MissingFrom_any A m cap L _ hLm (by omega) R1.out).mono ?_
    rintro e w2 ⟨rfl, b2⟩
    have R2 := Lib.hid (R1.out.on b2)
    have B2 := Lib.hid (next B1.out b2)
    clear b2
    go_wp2_with fail
    refine (specMissingFrom_any A m cap L _ hLm (by omega) R2.out).mono ?_
    rintro e w3 ⟨rfl, b3⟩
    have R3 := Lib.hid (R2.out.on b3)
    have B3 := Lib.hid (next B2.out b3)
    clear b3
    cases hv : validP L
    · have hk := miss_bad hv
      clear hv
      have HK := Lib.hid hk
      rw [hk]
      clear hk
      go_wp2_with fail
      refine (specMissingFrom_any A m cap L _ hLm (by omega) R3.out).mono ?_
      rintro e w4 ⟨rfl, b4⟩
      have B4 := Lib.hid (next B3.out b4)
      clear b4
      rw [HK.out]
      go_wp2
      go_ret
      exact ⟨ret_bool (by simp), B4.out⟩
    have hk := miss_yes hv
    have HK := Lib.hid hk
    have HV := Lib.hid hv
    have hk9 := (missN_spec hv).1
    obtain ⟨k, hk'⟩ : ∃ k, k = missN L := ⟨_, rfl⟩
    rw [← hk'] at hk HK hk9
    rw [hk]
    clear hk hv hk'
    rcases Nat.eq_zero_or_pos m with hm0 | hm0
    · subst hm0
      go_wp2_with fail
      refine (specMissingFrom_any A 0 cap L _ hLm (by omega) R3.out).mono ?_
      rintro e w4 ⟨rfl, b4⟩
      have B4 := Lib.hid (next B3.out b4)
      clear b4
      rw [HK.out]
      go_wp2
      go_ret
      exact ⟨ret_bool (by simp), B4.out⟩
    have l0 : ((m : Int) == 0) = false := by simp; omega
    have l1 : ¬ ((m : Int) = 0) := by omega
    have l2 : (1 : Int) ≤ (m : Int) := by omega
    have l3 : (m : Int) - 1 = ((m - 1 : Nat) : Int) := by omega
    have l4 : ¬ ((k : Int) < 0) := by omega
    have HT := Lib.hid (R3.out.take (m - 1))
    have HS := Lib.hid (miss_sub (M := L.take (m - 1)) HV.out (fun p hp => List.mem_of_mem_take hp) (by rw [List.length_take]; omega))
    rw [HK.out] at HS
    go_wp2_with fail
    refine (MissingFrom_any A (m - 1) cap (L.take (m - 1)) _ (by rw [List.length_take]; omega) (by omega) HT.out).mono ?_
    rintro e w4 ⟨rfl, b4⟩
    have B4 := Lib.hid (next B3.out b4)
    clear b4
    obtain ⟨d, hd⟩ : ∃ d, d = missOf (L.take (m - 1)) := ⟨_, rfl⟩
    rw [← hd] at HS ⊢
    have hd1 := HS.out.1
    clear hd
    go_wp2_with fail
    refine (MissingFrom_any none 0 0 [] _ rfl (by omega) PRow.nil_).mono ?_
    rintro e w5 ⟨rfl, b5⟩
    rw [miss_nil]
    have B5 := Lib.hid (next B4.out b5)
    clear b5
    go_wp2
    go_ret
    exact ⟨ret_bool (by simp), B5.out⟩
  · go_enter Try.func13, Try.ntmps13
    go_wp2
    go_ret
    exact ⟨rfl, Below.refl _ _⟩

set_option maxRecDepth 100000 in
theorem lifted (os : Os) (started : os.Started) (H : Type) (enc : TypeId × Value → H) :
    ReturnsInHanded {} Try.checked os 13 .any (Rows.fnMissingFromMoreSpec.pre6 enc Try.prog Try.f13 Rows.fnMissingFromMoreRow.domain false) (Rows.fnMissingFromMoreSpec.post enc Try.prog Try.f13 false true false false) := by
  refine returnsInHanded_of_change (C := Try.checked) own started (by kernel_rfl) Try.func13
    (ChangeSpec.witness6 (enc := enc) (C := Try.checked) false ⟨#[], #[.slice none 0 0], []⟩ 8 (by kernel_rfl) (by kernel_rfl) (by kernel_rfl) (by kernel_rfl)) ?_
  intro W base args ds gs before hval0 hW hcnd _
  have hval : ∀ (j : Nat) t v, Try.f13.params[j]? = some t → args[j]? = some v → Value.okWide Try.prog W .any base t v := hval0
  have hW' := hW
  obtain ⟨p, q, hA0, hV, rfl, hfz, hnd⟩ := hW
  have hA : DataW.TrodAll enc Try.prog W 0 (fun _ => true) true Try.f13.params.toList args.toList ds p := hA0
  rw [Try.params13] at hA hval
  obtain ⟨v0, vs0, d0, ds0, p0, q0, hargs, rfl, rfl, h0, r0⟩ := trodAll_cons hA
  obtain ⟨rfl, rfl, rfl⟩ := trodAll_nil r0
  obtain rfl : args = #[v0] := by cases args; simp_all
  obtain ⟨rfl, rfl⟩ := trodVars_none hV
  have k0 := h0
  have lt0 : ∀ x ∈ p0, x.block < W.heap.size := by obtain ⟨m, hm⟩ := k0; exact DataW.trod_lt m _ _ _ hm
  obtain ⟨a0, len0, cap0, rfl⟩ := okWide_slice Try.underlying29 (hval 0 29 v0 rfl rfl)
  obtain ⟨w0, lc0, cm0⟩ : Bytes W a0 len0 ∧ len0 ≤ cap0 ∧ cap0 ≤ 9223372036854775807 := by
    obtain ⟨fuel, hf⟩ := h0
    rcases open_ints Try.underlying29 Try.underlying5 (by kernel_rfl) hf with ⟨hcs, _⟩ | ⟨x, l, c, zs, hcs, _, hl, hm, hz, _, hcell, hwz⟩
    · simp [Value.cells] at hcs
      obtain ⟨rfl, rfl, rfl⟩ := hcs
      exact ⟨fun h => absurd h (by omega), by omega, by omega⟩
    · simp [Value.cells] at hcs
      obtain ⟨rfl, rfl, rfl⟩ := hcs
      have hz' : zs.length = cap0 := by simpa using hz
      exact ⟨bytes_of (by omega) hcell hwz, hl, hm⟩
  clear hA0 hval0
  refine (walk a0 len0 cap0 W w0 lc0 cm0).mono fun e W' ⟨he, bel⟩ => ?_
  subst he
  exact ⟨_, rfl, _, _, _, [], _, [], hW', trodAll_mk1 (shut_bool Try.underlying4 _), (trodAll_cons_mk (Below.trod laidOut (by kernel_rfl) (of_decide_eq_true (by kernel_rfl)) k0 bel lt0) trodAll_mk0), rfl, bel.frame _, fun h => by cases h⟩

theorem over : Rows.fnMissingFromMoreRow.holds Try.pinned (OpenSpec.ofChange Rows.fnMissingFromMoreSpec) :=
  OpenClaim.holds_of_wide 13 Try.f13 rfl rfl rfl rfl rfl rfl rfl ⟨rfl, rfl, rfl, rfl, rfl⟩ rfl rfl rfl rfl rfl (by kernel_rfl) Try.func13 (by kernel_rfl)
    (of_decide_eq_true (by kernel_rfl)) (by unfold Func.isWrapper; first | (rw [if_pos (by decide +kernel)]; kernel_rfl) | (rw [if_neg (by decide +kernel)]; exact ⟨rfl, rfl⟩))
    (fun os started H enc _ => lifted os started H enc)

theorem proved : Rows.FnMissingFromMoreSaid := over
#print axioms proved
end Go.Proofs.Ytoiobkoeghjjoaa.fnMissingFromMore
