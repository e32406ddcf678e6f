/-
  'FnExactIsRight': for every input the law returns true, and each argument reads afterwards as it read before. No condition.
  The frame of the row's step follows the kit's skeleton; the walk is ours.
-/
import Derived.Test.YtbmcliaafldkpaaLawKit
import Derived.Test.YtbmcliaafldkpaaInts
import Derived.Test.YtbmcliaafldkpaaSums
namespace Go.Proofs.Ytbmcliaafldkpaa.fnExactIsRight
open Go.ChangeShapes Go.WideShapes Go.ChangeAt Go.RowKit
set_option linter.unusedVariables false

set_option maxHeartbeats 800000 in
theorem walk (a : Option Addr) (n c : Nat) (xs : List Int) (w : World) (w0 : Row .i64 w w.heap.size a xs) (hn : xs.length = n) (wf : ∀ z ∈ xs, (Lit.int .i64 z).wf = true) (lc : n ≤ c) (cm : c ≤ 9223372036854775807) :
    Calls Try.prog 3 #[.slice a n c] w fun e w' => e = .returned (.bool true) ∧ Below w.heap.size w w' := by
  clear wf
  by_cases hl : n ≤ 1048576
  · go_enter Try.func3, Try.ntmps3
    go_wp2_with fail
    refine (toIntS_any a n c xs _ hn hl w0).mono ?_
    rintro e w1 ⟨rfl, m1, b1⟩
    have row1 := m1.sees.row
    have r1 := w0.on b1
    clear w0 m1
    go_wp2_with fail
    refine (specIsRight_any _ n n _ xs _ hn (by omega) row1).mono ?_
    rintro e w2 ⟨rfl, rfl⟩
    clear row1
    go_wp2_with fail
    refine (toIntS_any a n c xs _ hn hl r1).mono ?_
    rintro e w2 ⟨rfl, m2, b2⟩
    have row2 := m2.sees.row
    have r2 := r1.on b2
    clear r1 m2
    go_wp2_with fail
    refine (IsRight_any _ n n _ xs _ hn (by omega) row2).mono ?_
    rintro e w3 ⟨rfl, rfl⟩
    go_wp2_with fail
    refine (toIntS_any a n c xs _ hn hl r2).mono ?_
    rintro e w3 ⟨rfl, m3, b3⟩
    have row3 := m3.sees.row
    have row2' := row2.on b3
    clear r2 m3 row2
    go_wp2_with fail
    refine (eqIntS_same _ _ n n n _ _ xs _ hn hl row2' row3).mono ?_
    rintro e w4 ⟨rfl, b4⟩
    clear row2' row3
    go_wp2
    go_ret
    exact ⟨rfl, next (next (next b1 b2) b3) b4⟩
  · go_enter Try.func3, Try.ntmps3
    go_wp2
    go_ret
    exact ⟨rfl, Below.refl _ _⟩

set_option maxRecDepth 100000 in
theorem lifted (os : Os) (started : os.Started) (H : Type) (enc : TypeId × Value → H) :
    ReturnsInHanded {} Try.checked os 3 .any (Rows.fnExactIsRightSpec.pre6 enc Try.prog Try.f3 Rows.fnExactIsRightRow.domain false) (Rows.fnExactIsRightSpec.post enc Try.prog Try.f3 false true false false) := by
  refine returnsInHanded_of_change (C := Try.checked) own started (by kernel_rfl) Try.func3
    (ChangeSpec.witness6 (enc := enc) (C := Try.checked) false ⟨#[], #[.slice none 0 0], []⟩ 8 (by kernel_rfl) (by kernel_rfl) (by kernel_rfl) (by kernel_rfl)) ?_
  intro W base args ds gs before hval0 hW hcnd _
  have hval : ∀ (j : Nat) t v, Try.f3.params[j]? = some t → args[j]? = some v → Value.okWide Try.prog W .any base t v := hval0
  have hW' := hW
  obtain ⟨p, q, hA0, hV, rfl, hfz, hnd⟩ := hW
  have hA : DataW.TrodAll enc Try.prog W 0 (fun _ => true) true Try.f3.params.toList args.toList ds p := hA0
  rw [Try.params3] at hA hval
  obtain ⟨v0, vs0, d0, ds0, p0, q0, hargs, rfl, rfl, h0, r0⟩ := trodAll_cons hA
  obtain ⟨rfl, rfl, rfl⟩ := trodAll_nil r0
  obtain rfl : args = #[v0] := by cases args; simp_all
  obtain ⟨rfl, rfl⟩ := trodVars_none hV
  have k0 := h0
  have lt0 : ∀ x ∈ p0, x.block < W.heap.size := by obtain ⟨m, hm⟩ := k0; exact DataW.trod_lt m _ _ _ hm
  obtain ⟨a0, len0, cap0, rfl⟩ := okWide_slice Try.underlying22 (hval 0 22 v0 rfl rfl)
  obtain ⟨xs0, w0, xl0, wf0, lc0, cm0⟩ : ∃ xs : List Int, Row .i64 W W.heap.size a0 xs ∧ xs.length = len0 ∧ (∀ n ∈ xs, (Lit.int .i64 n).wf = true) ∧ len0 ≤ cap0 ∧ cap0 ≤ 9223372036854775807 := by
    obtain ⟨fuel, hf⟩ := h0
    rcases open_ints Try.underlying22 Try.underlying3 (by kernel_rfl) hf with ⟨hcs, _⟩ | ⟨x, l, c, zs, hcs, _, hl, hm, hz, _, hcell, hwz⟩
    · simp [Value.cells] at hcs
      obtain ⟨rfl, rfl, rfl⟩ := hcs
      exact ⟨[], Row.nil_, rfl, by simp, by omega, by omega⟩
    · simp [Value.cells] at hcs
      obtain ⟨rfl, rfl, rfl⟩ := hcs
      have hz' : zs.length = cap0 := by simpa using hz
      exact ⟨zs.take len0, row_of (by omega) hcell, by simp; omega, fun n hn => hwz n (List.mem_of_mem_take hn), hl, hm⟩
  clear hA0 hval0
  refine (walk a0 len0 cap0 xs0 W w0 xl0 wf0 lc0 cm0).mono fun e W' ⟨he, bel⟩ => ?_
  subst he
  exact ⟨_, rfl, _, _, _, [], _, [], hW', trodAll_mk1 (shut_bool Try.underlying4 _), (trodAll_cons_mk (Below.trod laidOut (by kernel_rfl) (of_decide_eq_true (by kernel_rfl)) k0 bel lt0) trodAll_mk0), rfl, bel.frame _, fun h => by cases h⟩

theorem over : Rows.fnExactIsRightRow.holds Try.pinned (OpenSpec.ofChange Rows.fnExactIsRightSpec) :=
  OpenClaim.holds_of_wide 3 Try.f3 rfl rfl rfl rfl rfl rfl rfl ⟨rfl, rfl, rfl, rfl, rfl⟩ rfl rfl rfl rfl rfl (by kernel_rfl) Try.func3 (by kernel_rfl)
    (of_decide_eq_true (by kernel_rfl)) (by unfold Func.isWrapper; first | (rw [if_pos (by decide +kernel)]; kernel_rfl) | (rw [if_neg (by decide +kernel)]; exact ⟨rfl, rfl⟩))
    (fun os started H enc _ => lifted os started H enc)

theorem proved : Rows.FnExactIsRightSaid := over
#print axioms proved
end Go.Proofs.Ytbmcliaafldkpaa.fnExactIsRight
