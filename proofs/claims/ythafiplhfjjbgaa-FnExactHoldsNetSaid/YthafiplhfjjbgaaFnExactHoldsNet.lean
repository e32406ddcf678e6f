/-
  'FnExactHoldsNet': for every input the law returns true, and each argument reads afterwards as it read before. No condition.
  The frame of the row's step follows the kit's skeleton; the walk is ours.
-/
import Derived.Test.YthafiplhfjjbgaaLawKit
import Derived.Test.YthafiplhfjjbgaaNet3
import Derived.Test.YthafiplhfjjbgaaNetL
import Derived.Lib.SmallJoins
namespace Go.Proofs.Ythafiplhfjjbgaa.fnExactHoldsNet
open Go.ChangeShapes Go.WideShapes Go.ChangeAt Go.RowKit Go.Joins
set_option linter.unusedVariables false

theorem HoldF.drew {w w1 : World} {b s b' s' : Int} (h : HoldF w b s b' s' w1) : HoldF w b s b' s' w1.drew :=
  ⟨h.1, h.2.1.drew, h.2.2⟩

set_option maxHeartbeats 800000 in
theorem walk (b s b' s' : Int) (w : World) (wb : (Lit.int .i64 b).wf = true) (ws : (Lit.int .i64 s).wf = true) (wb' : (Lit.int .i64 b').wf = true) (ws' : (Lit.int .i64 s').wf = true) :
    Calls Try.prog 5 #[.agg #[.int .i64 b, .int .i64 s], .agg #[.int .i64 b', .int .i64 s']] w fun e w' => e = .returned (.bool true) ∧ Below w.heap.size w w' := by
  clear wb ws wb' ws'
  have h0 : HoldF w b s b' s' ((w.alloc (.cells #[.int .i64 b, .int .i64 s] 23)).alloc (.cells #[.int .i64 b', .int .i64 s'] 23)).drew :=
    ⟨box22 w _ _ _ _ _, (((Below.refl w.heap.size w).alloc (Nat.le_refl _) _).alloc (by simp) _).drew, by simp [World.drew]⟩
  have H0 := Lib.hid h0
  obtain ⟨S, f, hne, HF, HI⟩ := cls_of (HoldF w b s b' s') h0
  clear h0
  have k0 : ∀ x, (f x).cell? ⟨w.heap.size, 0, none⟩ = some (.int .i64 b) := fun x => (HF.out x).1.1
  have k1 : ∀ x, (f x).cell? ⟨w.heap.size, 1, none⟩ = some (.int .i64 s) := fun x => (HF.out x).1.2.1
  have k2 : ∀ x, (f x).cell? ⟨w.heap.size + 1, 0, none⟩ = some (.int .i64 b') := fun x => (HF.out x).1.2.2.1
  have k3 : ∀ x, (f x).cell? ⟨w.heap.size + 1, 1, none⟩ = some (.int .i64 s') := fun x => (HF.out x).1.2.2.2
  have c1 := Lib.hid (fun x => cls_call (x := x) HI (fun w' => (HF.out x).step) (toNet_any b s (f x)))
  have c2 := Lib.hid (fun x => cls_call (x := x) HI (fun w' => (HF.out x).step) (toNet_any b' s' (f x)))
  have c3 := Lib.hid (fun x => cls_call (x := x) HI (fun w' => (HF.out x).step) (specHoldsNet_any b s b' s' (f x)))
  have c4 := Lib.hid (fun x => cls_call (x := x) HI (fun w' => (HF.out x).step) (HoldsNet_any b s b' s' (f x)))
  go_enter Try.func5, Try.ntmps5
  go_wp2
  refine wp_region_cls f (by kernel_rfl) (by kernel_rfl) (HI.out _ H0.out) ?_
  repeat (go_big_quiet_step ((first | (go_at_call_of 13 (Value.agg #[.int .i64 b, .int .i64 s]); exact c1.out _) | (go_at_call_of 13 (Value.agg #[.int .i64 b', .int .i64 s']); exact c2.out _) | (go_at_call 17; exact c3.out _))))
  refine wpQuiet_nil ?_
  rintro _ ⟨x, rfl⟩
  go_wp2
  refine wp_region_cls f (by kernel_rfl) (by kernel_rfl) (HI.out _ (HoldF.drew (HF.out x))) ?_
  repeat (go_big_quiet_step ((first | (go_at_call_of 13 (Value.agg #[.int .i64 b, .int .i64 s]); exact c1.out _) | (go_at_call_of 13 (Value.agg #[.int .i64 b', .int .i64 s']); exact c2.out _) | (go_at_call 18; exact c4.out _))))
  refine wpQuiet_nil ?_
  rintro _ ⟨y, rfl⟩
  have hb := (HF.out y).2.1
  clear k0 k1 k2 k3
  go_wp2
  go_ret
  exact ⟨rfl, hb⟩

set_option maxRecDepth 100000 in
theorem lifted (os : Os) (started : os.Started) (H : Type) (enc : TypeId × Value → H) :
    ReturnsInHanded {} Try.checked os 5 .any (Rows.fnExactHoldsNetSpec.pre6 enc Try.prog Try.f5 Rows.fnExactHoldsNetRow.domain false) (Rows.fnExactHoldsNetSpec.post enc Try.prog Try.f5 false true false false) := by
  refine returnsInHanded_of_change (C := Try.checked) own started (by kernel_rfl) Try.func5
    (ChangeSpec.witness6 (enc := enc) (C := Try.checked) false ⟨#[], #[.agg #[.int .i64 0, .int .i64 0], .agg #[.int .i64 0, .int .i64 0]], []⟩ 8 (by kernel_rfl) (by kernel_rfl) (by kernel_rfl) (by kernel_rfl)) ?_
  intro W base args ds gs before hval0 hW hcnd _
  have hval : ∀ (j : Nat) t v, Try.f5.params[j]? = some t → args[j]? = some v → Value.okWide Try.prog W .any base t v := hval0
  have hW' := hW
  obtain ⟨p, q, hA0, hV, rfl, hfz, hnd⟩ := hW
  have hA : DataW.TrodAll enc Try.prog W 0 (fun _ => true) true Try.f5.params.toList args.toList ds p := hA0
  rw [Try.params5] at hA hval
  obtain ⟨v0, vs0, d0, ds0, p0, q0, hargs, rfl, rfl, h0, r0⟩ := trodAll_cons hA
  obtain ⟨v1, vs1, d1, ds1, p1, q1, rfl, rfl, rfl, h1, r1⟩ := trodAll_cons r0
  obtain ⟨rfl, rfl, rfl⟩ := trodAll_nil r1
  obtain rfl : args = #[v0, v1] := by cases args; simp_all
  obtain ⟨rfl, rfl⟩ := trodVars_none hV
  have k0 := h0
  have lt0 : ∀ x ∈ p0, x.block < W.heap.size := by obtain ⟨m, hm⟩ := k0; exact DataW.trod_lt m _ _ _ hm
  obtain ⟨c0x, c0y, y0x, y0y, m0, rfl, rfl, rfl, hx0, hy0⟩ := open_agg2 Try.underlying23 (by kernel_rfl) (by kernel_rfl) (hval 0 23 v0 rfl rfl) h0
  obtain ⟨b0, e0x, _, wfx0⟩ := DataW.trod_int Try.underlying3 hx0
  obtain ⟨s0, e0y, _, wfy0⟩ := DataW.trod_int Try.underlying3 hy0
  simp at e0x e0y
  subst e0x e0y
  have k1 := h1
  have lt1 : ∀ x ∈ p1, x.block < W.heap.size := by obtain ⟨m, hm⟩ := k1; exact DataW.trod_lt m _ _ _ hm
  obtain ⟨c1x, c1y, y1x, y1y, m1, rfl, rfl, rfl, hx1, hy1⟩ := open_agg2 Try.underlying23 (by kernel_rfl) (by kernel_rfl) (hval 1 23 v1 rfl rfl) h1
  obtain ⟨b1, e1x, _, wfx1⟩ := DataW.trod_int Try.underlying3 hx1
  obtain ⟨s1, e1y, _, wfy1⟩ := DataW.trod_int Try.underlying3 hy1
  simp at e1x e1y
  subst e1x e1y
  clear hA0 hval0
  refine (walk b0 s0 b1 s1 W wfx0 wfy0 wfx1 wfy1).mono fun e W' ⟨he, bel⟩ => ?_
  subst he
  exact ⟨_, rfl, _, _, _, [], _, [], hW', trodAll_mk1 (shut_bool Try.underlying4 _), (trodAll_cons_mk (Below.trod laidOut (by kernel_rfl) (of_decide_eq_true (by kernel_rfl)) k0 bel lt0) (trodAll_cons_mk (Below.trod laidOut (by kernel_rfl) (of_decide_eq_true (by kernel_rfl)) k1 bel lt1) trodAll_mk0)), rfl, bel.frame _, fun h => by cases h⟩

theorem over : Rows.fnExactHoldsNetRow.holds Try.pinned (OpenSpec.ofChange Rows.fnExactHoldsNetSpec) :=
  OpenClaim.holds_of_wide 5 Try.f5 rfl rfl rfl rfl rfl rfl rfl ⟨rfl, rfl, rfl, rfl, rfl⟩ rfl rfl rfl rfl rfl (by kernel_rfl) Try.func5 (by kernel_rfl)
    (of_decide_eq_true (by kernel_rfl)) (by unfold Func.isWrapper; first | (rw [if_pos (by decide +kernel)]; kernel_rfl) | (rw [if_neg (by decide +kernel)]; exact ⟨rfl, rfl⟩))
    (fun os started H enc _ => lifted os started H enc)

theorem proved : Rows.FnExactHoldsNetSaid := over
#print axioms proved
end Go.Proofs.Ythafiplhfjjbgaa.fnExactHoldsNet
