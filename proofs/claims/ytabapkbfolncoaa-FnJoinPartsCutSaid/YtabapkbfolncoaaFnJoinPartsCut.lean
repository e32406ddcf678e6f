/-
  'FnJoinPartsCut': for every input the law returns true, and each argument reads afterwards as it read before. No condition.
  The frame of the row's step follows the kit's skeleton; the walk is ours.
-/
import Derived.Test.YtabapkbfolncoaaLawKit
import Derived.Test.YtabapkbfolncoaaJoinL
namespace Go.Proofs.Ytabapkbfolncoaa.fnJoinPartsCut
open Go.ChangeShapes Go.WideShapes Go.ChangeAt Go.RowKit
set_option linter.unusedVariables false

set_option maxHeartbeats 1600000 in
theorem walk (a : Option Addr) (n c : Nat) (w : World) (w0 : Bytes w a n) (hnc : n ≤ c) (hc : c ≤ 9223372036854775807) :
    Calls Try.prog 4 #[.slice a n c] w fun e w' => e = .returned (.bool true) ∧ Below w.heap.size w w' := by
  by_cases hl : n ≤ 1048576
  · go_enter Try.func4, Try.ntmps4
    go_wp2_with fail
    refine (DrawJoinParts_any a n c _ w0 hnc hc).mono ?_
    rintro e w1 ⟨A, m, cap, V, rfl, hm7, hQ, m1, b1⟩
    have R1 := Lib.hid m1.row
    have hmc := m1.2.1.2.1
    have hcm := m1.2.1.2.2.1
    unfold maxLen at hcm
    obtain ⟨L, hL⟩ : ∃ L, L = V.map PV.pt := ⟨_, rfl⟩
    have hLm : L.length = m := by rw [hL, List.length_map]; exact m1.1
    rw [← hL] at R1
    have B1 := Lib.hid b1
    clear w0 hnc hc b1 m1 hQ hL
    obtain ⟨r, hr⟩ : ∃ r, r = joinOf L := ⟨_, rfl⟩
    have hrl := join_len (L := L)
    rw [← hr] at hrl
    have HR := Lib.hid hr
    go_wp2_with fail
    refine (JoinParts_any A m cap L _ hLm hmc (by omega) R1.out).mono ?_
    rw [← hr]
    clear hr
    rintro e w2 ⟨A2, n2, c2, rfl, h2, m2, b2⟩
    have R2 := Lib.hid (R1.out.on b2)
    have B2 := Lib.hid (next B1.out b2)
    have M2 := Lib.hid m2
    clear b2 m2
    go_wp2_with fail
    refine (specJoinParts_any A m cap L _ hLm (by omega) R2.out).mono ?_
    rw [← HR.out]
    rintro e w3 ⟨A3, n3, c3, rfl, h3, m3, b3⟩
    obtain rfl : n3 = n2 := by omega
    have R3 := Lib.hid (R2.out.on b3)
    have B3 := Lib.hid (next B2.out b3)
    have M3 := Lib.hid (M2.out.below b3)
    have W3 := Lib.hid m3
    clear b3 m3 h3
    go_wp2_with fail
    refine (equalInts_b A2 A3 n3 c2 c3 _ _ (r.getD []) _ h2 (by omega) M3.out.sees.row W3.out.sees.row).mono ?_
    rintro e w4 ⟨rfl, b4⟩
    have R4 := Lib.hid (R3.out.on b4)
    have B4 := Lib.hid (next B3.out b4)
    have M4 := Lib.hid (M3.out.below b4)
    have W4 := Lib.hid (W3.out.below b4)
    clear b4
    cases r with
    | none =>
      simp only [Option.isSome_none]
      go_wp2_with fail
      refine (equalInts_b A2 A3 n3 c2 c3 _ _ [] _ h2 (by omega) M4.out.sees.row W4.out.sees.row).mono ?_
      rintro e w5 ⟨rfl, b5⟩
      have B5 := Lib.hid (next B4.out b5)
      clear b5
      go_wp2
      go_ret
      exact ⟨ret_bool (by simp), B5.out⟩
    | some xs =>
      simp only [Option.isSome_some]
      have hjc := join_cut HR.out.symm
      obtain ⟨⟨x1, x2⟩, hjj, -⟩ := hjc
      have HJ := Lib.hid hjj
      clear hjj
      have hN : xs.length = n3 := h2
      have y1 := M4.out.2.1
      have y2 := M4.out.2.2.1
      unfold maxLen at y2
      go_wp2_with fail
      refine (CutData_any A2 n3 c2 xs 4 _ hN y1 (by omega) M4.out.sees.row).mono ?_
      rintro e w5 ⟨A5, k5, c5, V5, rfl, hv5, m5, b5⟩
      have B5 := Lib.hid (next B4.out b5)
      have M5 := Lib.hid (M4.out.below b5)
      have R5 := m5.row
      rw [hv5] at R5
      have R5 := Lib.hid R5
      have hk5 : (cutOf xs 4).length = k5 := by rw [← hv5, List.length_map]; exact m5.1
      have y3 := m5.2.1.2.1
      have y4 := m5.2.1.2.2.1
      unfold maxLen at y4
      clear b5 m5 hv5
      go_wp2_with fail
      refine (JoinParts_any A5 k5 c5 _ _ hk5 y3 (by omega) R5.out).mono ?_
      rw [HJ.out]
      rintro e w6 ⟨A6, n6, c6, rfl, h6, m6, b6⟩
      obtain rfl : n6 = n3 := by rw [← h6]; exact hN
      simp only [Option.isSome_some]
      have B6 := Lib.hid (next B5.out b6)
      have M6 := Lib.hid (M5.out.below b6)
      have W6 := Lib.hid m6
      clear b6 m6 h6
      go_wp2_with fail
      refine (equalInts_b A6 A2 n6 c6 c2 _ _ xs _ hN (by omega) W6.out.sees.row M6.out.sees.row).mono ?_
      rintro e w7 ⟨rfl, b7⟩
      have B7 := Lib.hid (next B6.out b7)
      clear b7
      have l0 : (0 : Int) < (n6 : Int) := by omega
      go_wp2
      go_ret
      exact ⟨ret_bool (by simp; omega), B7.out⟩
  · go_enter Try.func4, Try.ntmps4
    go_wp2
    go_ret
    exact ⟨rfl, Below.refl _ _⟩

set_option maxRecDepth 100000 in
theorem lifted (os : Os) (started : os.Started) (H : Type) (enc : TypeId × Value → H) :
    ReturnsInHanded {} Try.checked os 4 .any (Rows.fnJoinPartsCutSpec.pre6 enc Try.prog Try.f4 Rows.fnJoinPartsCutRow.domain false) (Rows.fnJoinPartsCutSpec.post enc Try.prog Try.f4 false true false false) := by
  refine returnsInHanded_of_change (C := Try.checked) own started (by kernel_rfl) Try.func4
    (ChangeSpec.witness6 (enc := enc) (C := Try.checked) false ⟨#[], #[.slice none 0 0], []⟩ 8 (by kernel_rfl) (by kernel_rfl) (by kernel_rfl) (by kernel_rfl)) ?_
  intro W base args ds gs before hval0 hW hcnd _
  have hval : ∀ (j : Nat) t v, Try.f4.params[j]? = some t → args[j]? = some v → Value.okWide Try.prog W .any base t v := hval0
  have hW' := hW
  obtain ⟨p, q, hA0, hV, rfl, hfz, hnd⟩ := hW
  have hA : DataW.TrodAll enc Try.prog W 0 (fun _ => true) true Try.f4.params.toList args.toList ds p := hA0
  rw [Try.params4] at hA hval
  obtain ⟨v0, vs0, d0, ds0, p0, q0, hargs, rfl, rfl, h0, r0⟩ := trodAll_cons hA
  obtain ⟨rfl, rfl, rfl⟩ := trodAll_nil r0
  obtain rfl : args = #[v0] := by cases args; simp_all
  obtain ⟨rfl, rfl⟩ := trodVars_none hV
  have k0 := h0
  have lt0 : ∀ x ∈ p0, x.block < W.heap.size := by obtain ⟨m, hm⟩ := k0; exact DataW.trod_lt m _ _ _ hm
  obtain ⟨a0, len0, cap0, rfl⟩ := okWide_slice Try.underlying34 (hval 0 34 v0 rfl rfl)
  obtain ⟨w0, lc0, cm0⟩ : Bytes W a0 len0 ∧ len0 ≤ cap0 ∧ cap0 ≤ 9223372036854775807 := by
    obtain ⟨fuel, hf⟩ := h0
    rcases open_ints Try.underlying34 Try.underlying5 (by kernel_rfl) hf with ⟨hcs, _⟩ | ⟨x, l, c, zs, hcs, _, hl, hm, hz, _, hcell, hwz⟩
    · simp [Value.cells] at hcs
      obtain ⟨rfl, rfl, rfl⟩ := hcs
      exact ⟨fun h => absurd h (by omega), by omega, by omega⟩
    · simp [Value.cells] at hcs
      obtain ⟨rfl, rfl, rfl⟩ := hcs
      have hz' : zs.length = cap0 := by simpa using hz
      exact ⟨bytes_of (by omega) hcell hwz, hl, hm⟩
  clear hA0 hval0
  refine (walk a0 len0 cap0 W w0 lc0 cm0).mono fun e W' ⟨he, bel⟩ => ?_
  subst he
  exact ⟨_, rfl, _, _, _, [], _, [], hW', trodAll_mk1 (shut_bool Try.underlying4 _), (trodAll_cons_mk (Below.trod laidOut (by kernel_rfl) (of_decide_eq_true (by kernel_rfl)) k0 bel lt0) trodAll_mk0), rfl, bel.frame _, fun h => by cases h⟩

theorem over : Rows.fnJoinPartsCutRow.holds Try.pinned (OpenSpec.ofChange Rows.fnJoinPartsCutSpec) :=
  OpenClaim.holds_of_wide 4 Try.f4 rfl rfl rfl rfl rfl rfl rfl ⟨rfl, rfl, rfl, rfl, rfl⟩ rfl rfl rfl rfl rfl (by kernel_rfl) Try.func4 (by kernel_rfl)
    (of_decide_eq_true (by kernel_rfl)) (by unfold Func.isWrapper; first | (rw [if_pos (by decide +kernel)]; kernel_rfl) | (rw [if_neg (by decide +kernel)]; exact ⟨rfl, rfl⟩))
    (fun os started H enc _ => lifted os started H enc)

theorem proved : Rows.FnJoinPartsCutSaid := over
#print axioms proved
end Go.Proofs.Ytabapkbfolncoaa.fnJoinPartsCut
