/-
  'FnExactMissingFrom': for every input the law returns true, and each argument reads afterwards as it read before. No condition.
  The frame of the row's step follows the kit's skeleton; the walk is ours.
-/
import Derived.Test.YtoiobkoeghjjoaaLawKit
import Derived.Test.YtoiobkoeghjjoaaPart3
import Derived.Test.YtoiobkoeghjjoaaPart5
import Derived.Test.YtoiobkoeghjjoaaLawOpen
namespace Go.Proofs.Ytoiobkoeghjjoaa.fnExactMissingFrom
open Go.ChangeShapes Go.WideShapes Go.ChangeAt Go.RowKit
set_option linter.unusedVariables false

set_option maxHeartbeats 1600000 in
theorem walk (A : Option Addr) (n c : Nat) (L : List Pt) (w : World) (hr : PRow w w.heap.size A L) (hn : L.length = n) (lc : n ≤ c) (cm : c ≤ 9223372036854775807) :
    Calls Try.prog 11 #[.slice A n c] w fun e w' => e = .returned (.bool true) ∧ Below w.heap.size w w' := by
  go_enter Try.func11, Try.ntmps11
  go_wp2_with fail
  refine (szPartS_any A n c L _ hn (by omega) hr).mono ?_
  rintro e w0 ⟨l, rfl, hsm, b0⟩
  have q0 := hr.on b0
  have B0 := Lib.hid b0
  have HSM := Lib.hid hsm
  clear hr b0 hsm
  by_cases hl : l < 0
  · go_wp2
    go_ret
    exact ⟨rfl, B0.out⟩
  · have ⟨hs1, hs2⟩ := HSM.out (by omega)
    have H2 := Lib.hid hs2
    have hnn : n ≤ 1048576 := by omega
    clear hs2 hs1
    go_wp2_with fail
    refine (toPartS_any A n c L _ hn hnn H2.out q0).mono ?_
    rintro e w1 ⟨V1, rfl, hv1, m1, b1⟩
    have q1 := q0.on b1
    have B1 := Lib.hid (next B0.out b1)
    have r1 := m1.row
    rw [hv1] at r1
    clear q0 b1 hv1 m1
    go_wp2_with fail
    refine (specMissingFrom_any _ n n L _ hn (by omega) r1).mono ?_
    rintro e w2 ⟨rfl, b2⟩
    have q2 := q1.on b2
    have B2 := Lib.hid (next B1.out b2)
    clear q1 b2 r1
    go_wp2_with fail
    refine (toPartS_any A n c L _ hn hnn H2.out q2).mono ?_
    rintro e w3 ⟨V3, rfl, hv3, m3, b3⟩
    have q3 := q2.on b3
    have B3 := Lib.hid (next B2.out b3)
    have r3 := m3.row
    rw [hv3] at r3
    clear q2 b3 hv3 m3
    go_wp2_with fail
    refine (MissingFrom_any _ n n L _ hn (by omega) r3).mono ?_
    rintro e w4 ⟨rfl, b4⟩
    have q4 := q3.on b4
    have r4 := r3.on b4
    have B4 := Lib.hid (next B3.out b4)
    clear q3 r3 b4
    go_wp2_with fail
    refine (toPartS_any A n c L _ hn hnn H2.out q4).mono ?_
    rintro e w5 ⟨V5, rfl, hv5, m5, b5⟩
    have r4' := r4.on b5
    have B5 := Lib.hid (next B4.out b5)
    have r5 := m5.row
    rw [hv5] at r5
    clear q4 r4 b5 hv5 m5
    go_wp2_with fail
    refine (eqPartS_same _ _ n n n L _ hn hnn H2.out r4' r5).mono ?_
    rintro e w6 ⟨rfl, b6⟩
    have B6 := Lib.hid (next B5.out b6)
    clear r4' r5 b6
    go_wp2
    go_ret
    exact ⟨rfl, B6.out⟩

set_option maxRecDepth 100000 in
theorem lifted (os : Os) (started : os.Started) (H : Type) (enc : TypeId × Value → H) :
    ReturnsInHanded {} Try.checked os 11 .any (Rows.fnExactMissingFromSpec.pre6 enc Try.prog Try.f11 Rows.fnExactMissingFromRow.domain false) (Rows.fnExactMissingFromSpec.post enc Try.prog Try.f11 false true false false) := by
  refine returnsInHanded_of_change (C := Try.checked) own started (by kernel_rfl) Try.func11
    (ChangeSpec.witness6 (enc := enc) (C := Try.checked) false ⟨#[], #[.slice none 0 0], []⟩ 8 (by kernel_rfl) (by kernel_rfl) (by kernel_rfl) (by kernel_rfl)) ?_
  intro W base args ds gs before hval0 hW hcnd _
  have hval : ∀ (j : Nat) t v, Try.f11.params[j]? = some t → args[j]? = some v → Value.okWide Try.prog W .any base t v := hval0
  have hW' := hW
  obtain ⟨p, q, hA0, hV, rfl, hfz, hnd⟩ := hW
  have hA : DataW.TrodAll enc Try.prog W 0 (fun _ => true) true Try.f11.params.toList args.toList ds p := hA0
  rw [Try.params11] at hA hval
  obtain ⟨v0, vs0, d0, ds0, p0, q0, hargs, rfl, rfl, h0, r0⟩ := trodAll_cons hA
  obtain ⟨rfl, rfl, rfl⟩ := trodAll_nil r0
  obtain rfl : args = #[v0] := by cases args; simp_all
  obtain ⟨rfl, rfl⟩ := trodVars_none hV
  have k0 := h0
  have lt0 : ∀ x ∈ p0, x.block < W.heap.size := by obtain ⟨m, hm⟩ := k0; exact DataW.trod_lt m _ _ _ hm
  obtain ⟨a0, len0, cap0, L0, rfl, w0, xl0, lc0, cm0⟩ := open_parts (hval 0 22 v0 rfl rfl) h0
  clear hA0 hval0
  refine (walk a0 len0 cap0 L0 W w0 xl0 lc0 cm0).mono fun e W' ⟨he, bel⟩ => ?_
  subst he
  exact ⟨_, rfl, _, _, _, [], _, [], hW', trodAll_mk1 (shut_bool Try.underlying4 _), (trodAll_cons_mk (Below.trod laidOut (by kernel_rfl) (of_decide_eq_true (by kernel_rfl)) k0 bel lt0) trodAll_mk0), rfl, bel.frame _, fun h => by cases h⟩

theorem over : Rows.fnExactMissingFromRow.holds Try.pinned (OpenSpec.ofChange Rows.fnExactMissingFromSpec) :=
  OpenClaim.holds_of_wide 11 Try.f11 rfl rfl rfl rfl rfl rfl rfl ⟨rfl, rfl, rfl, rfl, rfl⟩ rfl rfl rfl rfl rfl (by kernel_rfl) Try.func11 (by kernel_rfl)
    (of_decide_eq_true (by kernel_rfl)) (by unfold Func.isWrapper; first | (rw [if_pos (by decide +kernel)]; kernel_rfl) | (rw [if_neg (by decide +kernel)]; exact ⟨rfl, rfl⟩))
    (fun os started H enc _ => lifted os started H enc)

theorem proved : Rows.FnExactMissingFromSaid := over
#print axioms proved
end Go.Proofs.Ytoiobkoeghjjoaa.fnExactMissingFrom
