/-
  'FnExactSplitNet': for every input the law returns true, and each argument reads afterwards as it read before. No condition.
  The frame of the row's step follows the kit's skeleton; the walk is ours.
-/
import Derived.Test.YthafiplhfjjbgaaLawKit
import Derived.Test.YthafiplhfjjbgaaNetS
import Derived.Test.YthafiplhfjjbgaaNetM
import Derived.Lib.SmallJoins
namespace Go.Proofs.Ythafiplhfjjbgaa.fnExactSplitNet
open Go.ChangeShapes Go.WideShapes Go.ChangeAt Go.RowKit Go.Joins
set_option linter.unusedVariables false

theorem half_row {w : World} {base g : Nat} {b s : Int} (h : Mine w base 2 (some ⟨g, 0, none⟩) 2 2 (halvesN b s)) : NRow w w.heap.size (some ⟨g, 0, none⟩) [(b, s + 1), (b + szN s / 2, s + 1)] := fun _ => by
  refine ⟨g, 0, rfl, (h.lt rfl).2, fun i hi => ?_⟩
  have hi : i < 2 := hi
  rw [Nat.zero_add]
  refine ⟨(h.at0 (j := i * 2) (by omega)).trans ?_, (h.at0 (j := i * 2 + 1) (by omega)).trans ?_⟩ <;>
  · match i, hi with
    | 0, _ => rfl
    | 1, _ => rfl

/-- The cells of a boxed net. -/
def NK (w : World) (H : Nat) (b s : Int) : Prop := w.cell? ⟨H, 0, none⟩ = some (.int .i64 b) ∧ w.cell? ⟨H, 1, none⟩ = some (.int .i64 s)
theorem NK.on {w w' : World} {H : Nat} {b s : Int} (h : NK w H b s) (hb : Below w.heap.size w w') (hH : H < w.heap.size) : NK w' H b s :=
  ⟨(hb.cell (p := ⟨H, 0, none⟩) hH).trans h.1, (hb.cell (p := ⟨H, 1, none⟩) hH).trans h.2⟩

set_option maxHeartbeats 1600000 in
theorem walk_no (b s : Int) (w : World) (ht : twoN b s = false) :
    Calls Try.prog 9 #[.agg #[.int .i64 b, .int .i64 s]] w fun e w' => e = .returned (.bool true) ∧ Below w.heap.size w w' := by
  have HB := Lib.hid ((Below.refl w.heap.size w).alloc (Nat.le_refl _) (.cells #[.int .i64 b, .int .i64 s] 23))
  have HK := Lib.hid (show NK (w.alloc (.cells #[.int .i64 b, .int .i64 s] 23)) w.heap.size b s from box2 w _ _ _)
  have HT := Lib.hid ht
  clear ht
  go_enter Try.func9, Try.ntmps9
  go_wp2_with fail
  refine (toNet_any b s _).mono ?_
  rintro e w1 ⟨rfl, b1⟩
  have hw1 := b1.size
  simp at hw1
  have ⟨k0, k1⟩ := HK.out.on b1 (by simp)
  have B1 := Lib.hid (next HB.out b1)
  clear b1
  go_wp2_with fail
  refine (specSplitNet_no b s _ HT.out).mono ?_
  rintro e w2 ⟨rfl, b2⟩
  have hw2 := b2.size
  have ⟨k2, k3⟩ := NK.on ⟨k0, k1⟩ b2 (by omega)
  have B2 := Lib.hid (next B1.out b2)
  clear b2 k0 k1
  go_wp2_with fail
  refine (toNet_any b s _).mono ?_
  rintro e w3 ⟨rfl, b3⟩
  have hw3 := b3.size
  have ⟨k4, k5⟩ := NK.on ⟨k2, k3⟩ b3 (by omega)
  have B3 := Lib.hid (next B2.out b3)
  clear b3 k2 k3
  go_wp2_with fail
  refine (SplitNet_no b s _ HT.out).mono ?_
  rintro e w4 ⟨rfl, b4⟩
  have hw4 := b4.size
  have ⟨k6, k7⟩ := NK.on ⟨k4, k5⟩ b4 (by omega)
  have B4 := Lib.hid (next B3.out b4)
  clear b4 k4 k5
  go_wp2_with fail
  refine (eqNetS_same none none 0 0 0 [] _ rfl (by decide) NRow.nil_ NRow.nil_).mono ?_
  rintro e w5 ⟨rfl, b5⟩
  have hw5 := b5.size
  have ⟨k8, k9⟩ := NK.on ⟨k6, k7⟩ b5 (by omega)
  have B5 := Lib.hid (next B4.out b5)
  clear b5 k6 k7
  go_wp2_with fail
  refine (markNetS_none 1 _).mono ?_
  rintro e w6 ⟨rfl, rfl⟩
  go_wp2_with fail
  refine (heldNetS_none 1 _).mono ?_
  rintro e w6 ⟨rfl, rfl⟩
  go_wp2_with fail
  refine (toNet_any b s _).mono ?_
  rintro e w6 ⟨rfl, b6⟩
  have B6 := Lib.hid (next B5.out b6)
  clear b6 k8 k9
  go_wp2_with fail
  refine (SplitNet_no b s _ HT.out).mono ?_
  rintro e w7 ⟨rfl, b7⟩
  have B7 := Lib.hid (next B6.out b7)
  clear b7
  go_wp2_with fail
  refine (eqNetS_same none none 0 0 0 [] _ rfl (by decide) NRow.nil_ NRow.nil_).mono ?_
  rintro e w8 ⟨rfl, b8⟩
  have B8 := Lib.hid (next B7.out b8)
  clear b8
  go_wp2_with fail
  refine (heldNetS_none 1 _).mono ?_
  rintro e w9 ⟨rfl, rfl⟩
  go_wp2
  go_ret
  exact ⟨rfl, B8.out⟩

set_option maxHeartbeats 1600000 in
theorem walk_yes (b s : Int) (w : World) (ht : twoN b s = true) :
    Calls Try.prog 9 #[.agg #[.int .i64 b, .int .i64 s]] w fun e w' => e = .returned (.bool true) ∧ Below w.heap.size w w' := by
  have HB := Lib.hid ((Below.refl w.heap.size w).alloc (Nat.le_refl _) (.cells #[.int .i64 b, .int .i64 s] 23))
  have HK := Lib.hid (show NK (w.alloc (.cells #[.int .i64 b, .int .i64 s] 23)) w.heap.size b s from box2 w _ _ _)
  have HT := Lib.hid ht
  clear ht
  go_enter Try.func9, Try.ntmps9
  go_wp2_with fail
  refine (toNet_any b s _).mono ?_
  rintro e w1 ⟨rfl, b1⟩
  have hw1 := b1.size
  simp at hw1
  have ⟨k0, k1⟩ := HK.out.on b1 (by simp)
  have B1 := Lib.hid (next HB.out b1)
  clear b1
  go_wp2_with fail
  refine (specSplitNet_yes b s _ HT.out).mono ?_
  rintro e w2 ⟨g, rfl, m2, b2⟩
  have hw2 := b2.size
  have ⟨k2, k3⟩ := NK.on ⟨k0, k1⟩ b2 (by omega)
  have B2 := Lib.hid (next B1.out b2)
  clear b2 k0 k1
  go_wp2_with fail
  refine (toNet_any b s _).mono ?_
  rintro e w3 ⟨rfl, b3⟩
  have hw3 := b3.size
  have ⟨k4, k5⟩ := NK.on ⟨k2, k3⟩ b3 (by omega)
  have B3 := Lib.hid (next B2.out b3)
  have m3 := m2.below b3
  have g1 := (m3.lt rfl).1
  have g2 := (m3.lt rfl).2
  clear b3 k2 k3 m2
  go_wp2_with fail
  refine (SplitNet_yes b s _ HT.out).mono ?_
  rintro e w4 ⟨d, rfl, n4, b4⟩
  have hw4 := b4.size
  have ⟨k6, k7⟩ := NK.on ⟨k4, k5⟩ b4 (by omega)
  have B4 := Lib.hid (next B3.out b4)
  have m4 := m3.below b4
  have d1 := (n4.lt rfl).1
  have d2 := (n4.lt rfl).2
  clear b4 k4 k5 m3
  go_wp2_with fail
  refine (eqNetS_same _ _ 2 _ _ _ _ rfl (by decide) (half_row n4) (half_row m4)).mono ?_
  rintro e w5 ⟨rfl, b5⟩
  have hw5 := b5.size
  have ⟨k8, k9⟩ := NK.on ⟨k6, k7⟩ b5 (by omega)
  have B5 := Lib.hid (next B4.out b5)
  have m5 := m4.below b5
  have n5 := n4.below b5
  clear b5 k6 k7 m4 n4
  go_wp2_with fail
  refine (markNetS_any d 2 2 _ _ _ n5 (by decide)).mono ?_
  rintro e w6 ⟨rfl, gr6, n6⟩
  have hw6 := gr6.size
  have k10 : w6.cell? ⟨w.heap.size, 0, none⟩ = some (.int .i64 b) := (World.cell?_of_block (a := ⟨w.heap.size, 0, none⟩) (gr6.block _ (by show w.heap.size < _; omega) (fun e => by injection e with e; have e : w.heap.size = d := e; omega))).trans k8
  have k11 : w6.cell? ⟨w.heap.size, 1, none⟩ = some (.int .i64 s) := (World.cell?_of_block (a := ⟨w.heap.size, 1, none⟩) (gr6.block _ (by show w.heap.size < _; omega) (fun e => by injection e with e; have e : w.heap.size = d := e; omega))).trans k9
  have B6 := Lib.hid (only_below B5.out gr6 (by omega) (by omega))
  have m6 := m5.kept gr6 (fun g' hg e => by simp at hg; injection e with e; omega)
  clear gr6 k8 k9 m5 n5
  go_wp2_with fail
  refine (heldNetS_any d 2 2 _ _ n6 (by decide)).mono ?_
  rintro e w7 ⟨rfl, rfl⟩
  go_wp2_with fail
  refine (toNet_any b s _).mono ?_
  rintro e w7 ⟨rfl, b7⟩
  have hw7 := b7.size
  have B7 := Lib.hid (next B6.out b7)
  have m7 := m6.below b7
  have n7 := n6.below b7
  clear b7 k10 k11 m6 n6
  go_wp2_with fail
  refine (SplitNet_yes b s _ HT.out).mono ?_
  rintro e w8 ⟨c, rfl, l8, b8⟩
  have hw8 := b8.size
  have B8 := Lib.hid (next B7.out b8)
  have m8 := m7.below b8
  have n8 := n7.below b8
  clear b8 m7 n7
  go_wp2_with fail
  refine (eqNetS_same _ _ 2 _ _ _ _ rfl (by decide) (half_row l8) (half_row m8)).mono ?_
  rintro e w9 ⟨rfl, b9⟩
  have B9 := Lib.hid (next B8.out b9)
  have n9 := n8.below b9
  clear b9 m8 n8 l8
  go_wp2_with fail
  refine (heldNetS_any d 2 2 _ _ n9 (by decide)).mono ?_
  rintro e w10 ⟨rfl, rfl⟩
  go_wp2
  go_ret
  exact ⟨rfl, B9.out⟩

theorem walk (b s : Int) (w : World) (wb : (Lit.int .i64 b).wf = true) (ws : (Lit.int .i64 s).wf = true) :
    Calls Try.prog 9 #[.agg #[.int .i64 b, .int .i64 s]] w fun e w' => e = .returned (.bool true) ∧ Below w.heap.size w w' := by
  cases h : twoN b s
  · exact walk_no b s w h
  · exact walk_yes b s w h

set_option maxRecDepth 100000 in
theorem lifted (os : Os) (started : os.Started) (H : Type) (enc : TypeId × Value → H) :
    ReturnsInHanded {} Try.checked os 9 .any (Rows.fnExactSplitNetSpec.pre6 enc Try.prog Try.f9 Rows.fnExactSplitNetRow.domain false) (Rows.fnExactSplitNetSpec.post enc Try.prog Try.f9 false true false false) := by
  refine returnsInHanded_of_change (C := Try.checked) own started (by kernel_rfl) Try.func9
    (ChangeSpec.witness6 (enc := enc) (C := Try.checked) false ⟨#[], #[.agg #[.int .i64 0, .int .i64 0]], []⟩ 8 (by kernel_rfl) (by kernel_rfl) (by kernel_rfl) (by kernel_rfl)) ?_
  intro W base args ds gs before hval0 hW hcnd _
  have hval : ∀ (j : Nat) t v, Try.f9.params[j]? = some t → args[j]? = some v → Value.okWide Try.prog W .any base t v := hval0
  have hW' := hW
  obtain ⟨p, q, hA0, hV, rfl, hfz, hnd⟩ := hW
  have hA : DataW.TrodAll enc Try.prog W 0 (fun _ => true) true Try.f9.params.toList args.toList ds p := hA0
  rw [Try.params9] at hA hval
  obtain ⟨v0, vs0, d0, ds0, p0, q0, hargs, rfl, rfl, h0, r0⟩ := trodAll_cons hA
  obtain ⟨rfl, rfl, rfl⟩ := trodAll_nil r0
  obtain rfl : args = #[v0] := by cases args; simp_all
  obtain ⟨rfl, rfl⟩ := trodVars_none hV
  have k0 := h0
  have lt0 : ∀ x ∈ p0, x.block < W.heap.size := by obtain ⟨m, hm⟩ := k0; exact DataW.trod_lt m _ _ _ hm
  obtain ⟨c0x, c0y, y0x, y0y, m0, rfl, rfl, rfl, hx0, hy0⟩ := open_agg2 Try.underlying23 (by kernel_rfl) (by kernel_rfl) (hval 0 23 v0 rfl rfl) h0
  obtain ⟨b0, e0x, _, wfx0⟩ := DataW.trod_int Try.underlying3 hx0
  obtain ⟨s0, e0y, _, wfy0⟩ := DataW.trod_int Try.underlying3 hy0
  simp at e0x e0y
  subst e0x e0y
  clear hA0 hval0
  refine (walk b0 s0 W wfx0 wfy0).mono fun e W' ⟨he, bel⟩ => ?_
  subst he
  exact ⟨_, rfl, _, _, _, [], _, [], hW', trodAll_mk1 (shut_bool Try.underlying4 _), (trodAll_cons_mk (Below.trod laidOut (by kernel_rfl) (of_decide_eq_true (by kernel_rfl)) k0 bel lt0) trodAll_mk0), rfl, bel.frame _, fun h => by cases h⟩

theorem over : Rows.fnExactSplitNetRow.holds Try.pinned (OpenSpec.ofChange Rows.fnExactSplitNetSpec) :=
  OpenClaim.holds_of_wide 9 Try.f9 rfl rfl rfl rfl rfl rfl rfl ⟨rfl, rfl, rfl, rfl, rfl⟩ rfl rfl rfl rfl rfl (by kernel_rfl) Try.func9 (by kernel_rfl)
    (of_decide_eq_true (by kernel_rfl)) (by unfold Func.isWrapper; first | (rw [if_pos (by decide +kernel)]; kernel_rfl) | (rw [if_neg (by decide +kernel)]; exact ⟨rfl, rfl⟩))
    (fun os started H enc _ => lifted os started H enc)

theorem proved : Rows.FnExactSplitNetSaid := over
#print axioms proved
end Go.Proofs.Ythafiplhfjjbgaa.fnExactSplitNet
