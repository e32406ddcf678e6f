/-
  'FnExactInNet': for every input the law returns true, and each argument reads afterwards as it read before. No condition.
  The frame of the row's step follows the kit's skeleton; the walk is ours.
-/
import Derived.Test.YthafiplhfjjbgaaLawKit
import Derived.Test.YthafiplhfjjbgaaNet2
import Derived.Test.YthafiplhfjjbgaaNetL
import Derived.Lib.SmallJoins
namespace Go.Proofs.Ythafiplhfjjbgaa.fnExactInNet
open Go.ChangeShapes Go.WideShapes Go.ChangeAt Go.RowKit Go.Joins
set_option linter.unusedVariables false

theorem walk (b s a : Int) (w : World) (wb : (Lit.int .i64 b).wf = true) (ws : (Lit.int .i64 s).wf = true) (wa : (Lit.int .i64 a).wf = true) :
    Calls Try.prog 4 #[.agg #[.int .i64 b, .int .i64 s], .int .i64 a] w fun e w' => e = .returned (.bool true) ∧ Below w.heap.size w w' := by
  clear wb ws wa
  have HB := Lib.hid ((Below.refl w.heap.size w).alloc (Nat.le_refl _) (.cells #[.int .i64 b, .int .i64 s] 23))
  go_enter Try.func4, Try.ntmps4
  go_wp2_with fail
  refine (toNet_any b s _).mono ?_
  rintro e w1 ⟨rfl, b1⟩
  have k0 : w1.cell? ⟨w.heap.size, 0, none⟩ = some (.int .i64 b) := (b1.cell (p := ⟨w.heap.size, 0, none⟩) (by simp)).trans (box2 w _ _ _).1
  have k1 : w1.cell? ⟨w.heap.size, 1, none⟩ = some (.int .i64 s) := (b1.cell (p := ⟨w.heap.size, 1, none⟩) (by simp)).trans (box2 w _ _ _).2
  have hw1 := b1.size
  simp at hw1
  have B1 := next HB.out b1
  clear b1
  go_wp2_with fail
  refine (specInNet_any b s a _).mono ?_
  rintro e w2 ⟨rfl, b2⟩
  have k2 : w2.cell? ⟨w.heap.size, 0, none⟩ = some (.int .i64 b) := (b2.cell (p := ⟨w.heap.size, 0, none⟩) (by simp; omega)).trans k0
  have k3 : w2.cell? ⟨w.heap.size, 1, none⟩ = some (.int .i64 s) := (b2.cell (p := ⟨w.heap.size, 1, none⟩) (by simp; omega)).trans k1
  have B2 := next B1 b2
  clear b2 k0 k1 B1
  go_wp2_with fail
  refine (toNet_any b s _).mono ?_
  rintro e w3 ⟨rfl, b3⟩
  have B3 := next B2 b3
  clear b3 B2
  go_wp2_with fail
  refine (InNet_any b s a _).mono ?_
  rintro e w4 ⟨rfl, b4⟩
  have B4 := next B3 b4
  clear b4 B3
  go_wp2
  go_ret
  exact ⟨rfl, B4⟩

set_option maxRecDepth 100000 in
theorem lifted (os : Os) (started : os.Started) (H : Type) (enc : TypeId × Value → H) :
    ReturnsInHanded {} Try.checked os 4 .any (Rows.fnExactInNetSpec.pre6 enc Try.prog Try.f4 Rows.fnExactInNetRow.domain false) (Rows.fnExactInNetSpec.post enc Try.prog Try.f4 false true false false) := by
  refine returnsInHanded_of_change (C := Try.checked) own started (by kernel_rfl) Try.func4
    (ChangeSpec.witness6 (enc := enc) (C := Try.checked) false ⟨#[], #[.agg #[.int .i64 0, .int .i64 0], .int .i64 0], []⟩ 8 (by kernel_rfl) (by kernel_rfl) (by kernel_rfl) (by kernel_rfl)) ?_
  intro W base args ds gs before hval0 hW hcnd _
  have hval : ∀ (j : Nat) t v, Try.f4.params[j]? = some t → args[j]? = some v → Value.okWide Try.prog W .any base t v := hval0
  have hW' := hW
  obtain ⟨p, q, hA0, hV, rfl, hfz, hnd⟩ := hW
  have hA : DataW.TrodAll enc Try.prog W 0 (fun _ => true) true Try.f4.params.toList args.toList ds p := hA0
  rw [Try.params4] at hA hval
  obtain ⟨v0, vs0, d0, ds0, p0, q0, hargs, rfl, rfl, h0, r0⟩ := trodAll_cons hA
  obtain ⟨v1, vs1, d1, ds1, p1, q1, rfl, rfl, rfl, h1, r1⟩ := trodAll_cons r0
  obtain ⟨rfl, rfl, rfl⟩ := trodAll_nil r1
  obtain rfl : args = #[v0, v1] := by cases args; simp_all
  obtain ⟨rfl, rfl⟩ := trodVars_none hV
  have k0 := h0
  have lt0 : ∀ x ∈ p0, x.block < W.heap.size := by obtain ⟨m, hm⟩ := k0; exact DataW.trod_lt m _ _ _ hm
  obtain ⟨c0x, c0y, y0x, y0y, m0, rfl, rfl, rfl, hx0, hy0⟩ := open_agg2 Try.underlying23 (by kernel_rfl) (by kernel_rfl) (hval 0 23 v0 rfl rfl) h0
  obtain ⟨b0, e0x, _, wfx0⟩ := DataW.trod_int Try.underlying3 hx0
  obtain ⟨s0, e0y, _, wfy0⟩ := DataW.trod_int Try.underlying3 hy0
  simp at e0x e0y
  subst e0x e0y
  have k1 := h1
  have lt1 : ∀ x ∈ p1, x.block < W.heap.size := by obtain ⟨m, hm⟩ := k1; exact DataW.trod_lt m _ _ _ hm
  obtain ⟨a1, rfl, rfl, rfl, wf1⟩ := open_int Try.underlying3 (hval 1 3 v1 rfl rfl) h1
  clear hA0 hval0
  refine (walk b0 s0 a1 W wfx0 wfy0 wf1).mono fun e W' ⟨he, bel⟩ => ?_
  subst he
  exact ⟨_, rfl, _, _, _, [], _, [], hW', trodAll_mk1 (shut_bool Try.underlying4 _), (trodAll_cons_mk (Below.trod laidOut (by kernel_rfl) (of_decide_eq_true (by kernel_rfl)) k0 bel lt0) (trodAll_cons_mk (Below.trod laidOut (by kernel_rfl) (of_decide_eq_true (by kernel_rfl)) k1 bel lt1) trodAll_mk0)), rfl, bel.frame _, fun h => by cases h⟩

theorem over : Rows.fnExactInNetRow.holds Try.pinned (OpenSpec.ofChange Rows.fnExactInNetSpec) :=
  OpenClaim.holds_of_wide 4 Try.f4 rfl rfl rfl rfl rfl rfl rfl ⟨rfl, rfl, rfl, rfl, rfl⟩ rfl rfl rfl rfl rfl (by kernel_rfl) Try.func4 (by kernel_rfl)
    (of_decide_eq_true (by kernel_rfl)) (by unfold Func.isWrapper; first | (rw [if_pos (by decide +kernel)]; kernel_rfl) | (rw [if_neg (by decide +kernel)]; exact ⟨rfl, rfl⟩))
    (fun os started H enc _ => lifted os started H enc)

theorem proved : Rows.FnExactInNetSaid := over
#print axioms proved
end Go.Proofs.Ythafiplhfjjbgaa.fnExactInNet
