/-
  'FnSplitNet': for every input the law returns true, and each argument reads afterwards as it read before. No condition.
  The frame of the row's step follows the kit's skeleton; the walk is ours.
-/
import Derived.Test.YtmaecadflilbgaaLawKit
import Derived.Test.YtmaecadflilbgaaPlainNet3
import Derived.Test.YtmaecadflilbgaaNet2
import Derived.Test.YtmaecadflilbgaaNetQ
namespace Go.Proofs.Ytmaecadflilbgaa.fnSplitNet
open Go.ChangeShapes Go.WideShapes Go.ChangeAt Go.RowKit
set_option linter.unusedVariables false

set_option maxHeartbeats 1600000 in
theorem walk (a : Option Addr) (n c : Nat) (w : World) (w0 : Bytes w a n) (hnc : n ≤ c) (hc : c ≤ 9223372036854775807) :
    Calls Try.prog 8 #[.slice a n c] w fun e w' => e = .returned (.bool true) ∧ Below w.heap.size w w' := by
  by_cases hl : n ≤ 1048576
  · go_enter Try.func8, Try.ntmps8
    go_wp2_with fail
    refine (DrawSplitNet_any a n c _ w0 hnc hc).mono ?_
    rintro e w1 ⟨b, s, rfl, ⟨-, -, x0, x1⟩, b1⟩
    have K1 := Lib.hid (Boxed.new_at w1 w1.heap.size rfl 24 b s)
    have B1 := Lib.hid (b1.alloc b1.size (.cells #[.int .i64 b, .int .i64 s] 24))
    clear w0 hnc hc b1
    cases ht : twoN b s
    · have HT := Lib.hid ht
      clear ht
      go_wp2_with fail
      refine (SplitNet_no b s _ HT.out).mono ?_
      rintro e w2 ⟨rfl, b2⟩
      have K2 := Lib.hid (K1.out.on b2)
      have B2 := Lib.hid (next B1.out b2)
      clear b2 K1
      obtain ⟨⟨k0, k1⟩, -⟩ := K2.out
      go_wp2_with fail
      refine (specSplitNet_no b s _ HT.out).mono ?_
      rintro e w3 ⟨rfl, b3⟩
      have K3 := Lib.hid (K2.out.on b3)
      have B3 := Lib.hid (next B2.out b3)
      clear b3 K2 k0 k1
      obtain ⟨⟨k0, k1⟩, -⟩ := K3.out
      go_wp2_with fail
      refine (equalNets_same none none 0 0 0 0 0 [] _ rfl (by decide) NRow.nil_ NRow.nil_).mono ?_
      rintro e w4 ⟨rfl, b4⟩
      have K4 := Lib.hid (K3.out.on b4)
      have B4 := Lib.hid (next B3.out b4)
      clear b4 K3 k0 k1
      obtain ⟨⟨k0, k1⟩, -⟩ := K4.out
      go_wp2_with fail
      refine (ValidNet_any b s _).mono ?_
      rintro e w5 ⟨rfl, b5⟩
      have K5 := Lib.hid (K4.out.on b5)
      have B5 := Lib.hid (next B4.out b5)
      clear b5 K4 k0 k1
      obtain ⟨⟨k0, k1⟩, -⟩ := K5.out
      cases hv : vN b s
      · clear hv
        go_wp2_with fail
        refine (specSplitNet_no b s _ HT.out).mono ?_
        rintro e w6 ⟨rfl, b6⟩
        have K6 := Lib.hid (K5.out.on b6)
        have B6 := Lib.hid (next B5.out b6)
        clear b6 K5 k0 k1
        obtain ⟨⟨k0, k1⟩, -⟩ := K6.out
        go_wp2_with fail
        refine (equalNets_same none none 0 0 0 0 0 [] _ rfl (by decide) NRow.nil_ NRow.nil_).mono ?_
        rintro e w7 ⟨rfl, b7⟩
        have K7 := Lib.hid (K6.out.on b7)
        have B7 := Lib.hid (next B6.out b7)
        clear b7 K6 k0 k1
        obtain ⟨⟨k0, k1⟩, -⟩ := K7.out
        go_wp2
        go_ret
        exact ⟨rfl, B7.out⟩
      · have h16 : s = 16 := by have h := HT.out; simp [twoN, hv] at h; exact h
        subst h16
        clear hv
        go_wp2
        go_ret
        exact ⟨rfl, B5.out⟩
    · have HT := Lib.hid ht
      clear ht
      have HV := Lib.hid (twoN_vN HT.out)
      have HS := Lib.hid (twoN_lt HT.out).2
      have ⟨s0, s9⟩ := twoN_lt HT.out
      have hs16 : (s == 16) = false := by simp; omega
      have hss : ¬ s = 16 := by omega
      go_wp2_with fail
      refine (SplitNet_yes b s _ HT.out).mono ?_
      rintro e w2 ⟨g, rfl, m2, b2⟩
      have K2 := Lib.hid (K1.out.on b2)
      have B2 := Lib.hid (next B1.out b2)
      clear b2 K1 
      have M2 := Lib.hid m2
      clear m2
      obtain ⟨⟨k0, k1⟩, -⟩ := K2.out
      go_wp2_with fail
      refine (specSplitNet_yes b s _ HT.out).mono ?_
      rintro e w3 ⟨g', rfl, n3, b3⟩
      have K3 := Lib.hid (K2.out.on b3)
      have B3 := Lib.hid (next B2.out b3)
      have M3 := Lib.hid (M2.out.below b3)
      clear b3 K2 M2 k0 k1
      obtain ⟨⟨k0, k1⟩, -⟩ := K3.out
      have hrow := half_row n3
      clear n3
      obtain ⟨p0, p1, p2, p3⟩ := half_at M3.out
      go_wp2_with fail
      refine (equalNets_same _ _ 2 _ _ _ _ _ _ rfl (by decide) (half_row M3.out) hrow).mono ?_
      rintro e w4 ⟨rfl, b4⟩
      have K4 := Lib.hid (K3.out.on b4)
      have B4 := Lib.hid (next B3.out b4)
      have M4 := Lib.hid (M3.out.below b4)
      clear b4 K3 M3 p0 p1 p2 p3 k0 k1
      obtain ⟨⟨k0, k1⟩, -⟩ := K4.out
      clear hrow
      obtain ⟨p0, p1, p2, p3⟩ := half_at M4.out
      go_wp2_with fail
      refine (ValidNet_any b s _).mono ?_
      rintro e w5 ⟨rfl, b5⟩
      have K5 := Lib.hid (K4.out.on b5)
      have B5 := Lib.hid (next B4.out b5)
      have M5 := Lib.hid (M4.out.below b5)
      rw [HV.out]
      clear b5 K4 M4 p0 p1 p2 p3 k0 k1
      obtain ⟨⟨k0, k1⟩, -⟩ := K5.out
      have ha := half_apart HV.out HS.out
      have HP := Lib.hid ha.1
      have HQ := Lib.hid ha.2.1
      have hlt := ha.2.2
      obtain ⟨-, ⟨b0, b9⟩, hfit, hpos⟩ := vN_range HV.out
      have e1 : IntKind.i64.wrap (s + 1) = s + 1 := wrap_in (by omega)
      have hlt9 : b + szN s / 2 ≤ 131072 := by omega
      have e2 : IntKind.i64.wrap (b + szN s / 2 - 1) = b + szN s / 2 - 1 := wrap_in (by omega)
      clear ha
      obtain ⟨p0, p1, p2, p3⟩ := half_at M5.out
      have hne : (b == b) = true := by simp
      have hd : decide (b < b + szN s / 2) = true := by simpa using hlt
      obtain ⟨S, f, hne, HF, HI⟩ := cls_more w5
      have c0 := Lib.hid (fun x => cls_call (x := x) HI (fun w' k => next (HF.out x) k) ((ValidNet_any b (s + 1) (f x)).mono fun _ _ ⟨he, hb⟩ => ⟨by rw [he, half_v1 HV.out HS.out], hb⟩))
      have c1 := Lib.hid (fun x => cls_call (x := x) HI (fun w' k => next (HF.out x) k) ((ValidNet_any (b + szN s / 2) (s + 1) (f x)).mono fun _ _ ⟨he, hb⟩ => ⟨by rw [he, half_v2 HV.out HS.out], hb⟩))
      have c2 := Lib.hid (fun x => cls_call (x := x) HI (fun w' k => next (HF.out x) k) ((InNet_any b (s + 1) (b + szN s / 2) (f x)).mono fun _ _ ⟨he, hb⟩ => ⟨by rw [he, HP.out], hb⟩))
      have c3 := Lib.hid (fun x => cls_call (x := x) HI (fun w' k => next (HF.out x) k) ((InNet_any b (s + 1) (b + szN s / 2 - 1) (f x)).mono fun _ _ ⟨he, hb⟩ => ⟨by rw [he, HQ.out], hb⟩))
      go_wp2
      clear k0 k1 p0 p1 p2 p3
      have k0 : ∀ x, (f x).cell? ⟨w1.heap.size, 0, none⟩ = some (.int .i64 b) := fun x => (K5.out.on (HF.out x)).1.1
      have k1 : ∀ x, (f x).cell? ⟨w1.heap.size, 1, none⟩ = some (.int .i64 s) := fun x => (K5.out.on (HF.out x)).1.2
      have p0 : ∀ x, (f x).cell? ⟨g, 0, none⟩ = some (.int .i64 b) := fun x => (half_at (M5.out.below (HF.out x))).1
      have p1 : ∀ x, (f x).cell? ⟨g, 1, none⟩ = some (.int .i64 (s + 1)) := fun x => (half_at (M5.out.below (HF.out x))).2.1
      have p2 : ∀ x, (f x).cell? ⟨g, 2, none⟩ = some (.int .i64 (b + szN s / 2)) := fun x => (half_at (M5.out.below (HF.out x))).2.2.1
      have p3 : ∀ x, (f x).cell? ⟨g, 3, none⟩ = some (.int .i64 (s + 1)) := fun x => (half_at (M5.out.below (HF.out x))).2.2.2
      refine wp_region_cls f (by kernel_rfl) (by kernel_rfl) (HI.out _ (Below.refl _ _).drew) ?_
      simp only [List.append_eq, List.cons_append, List.nil_append]
      repeat (go_big_quiet_step ((first | (go_at_call 15; with_reducible exact c0.out _) | (go_at_call 15; with_reducible exact c1.out _) | (go_at_call 16; with_reducible exact c2.out _) | (go_at_call 16; with_reducible exact c3.out _))))
      refine wpQuiet_nil ?_
      rintro _ ⟨x, rfl⟩
      have b6 := HF.out x
      clear HF HI hne c0 c1 c2 c3 k0 k1 p0 p1 p2 p3
      generalize f x = w6 at b6 ⊢
      clear x f S
      have K6 := Lib.hid (K5.out.on b6)
      have B6 := Lib.hid (next B5.out b6)
      have bb6 := b6
      clear b6 K5
      obtain ⟨⟨k0, k1⟩, -⟩ := K6.out
      go_wp2
      go_ret
      exact ⟨rfl, B6.out⟩
  · go_enter Try.func8, Try.ntmps8
    go_wp2
    go_ret
    exact ⟨rfl, Below.refl _ _⟩

set_option maxRecDepth 100000 in
theorem lifted (os : Os) (started : os.Started) (H : Type) (enc : TypeId × Value → H) :
    ReturnsInHanded {} Try.checked os 8 .any (Rows.fnSplitNetSpec.pre6 enc Try.prog Try.f8 Rows.fnSplitNetRow.domain false) (Rows.fnSplitNetSpec.post enc Try.prog Try.f8 false true false false) := by
  refine returnsInHanded_of_change (C := Try.checked) own started (by kernel_rfl) Try.func8
    (ChangeSpec.witness6 (enc := enc) (C := Try.checked) false ⟨#[], #[.slice none 0 0], []⟩ 8 (by kernel_rfl) (by kernel_rfl) (by kernel_rfl) (by kernel_rfl)) ?_
  intro W base args ds gs before hval0 hW hcnd _
  have hval : ∀ (j : Nat) t v, Try.f8.params[j]? = some t → args[j]? = some v → Value.okWide Try.prog W .any base t v := hval0
  have hW' := hW
  obtain ⟨p, q, hA0, hV, rfl, hfz, hnd⟩ := hW
  have hA : DataW.TrodAll enc Try.prog W 0 (fun _ => true) true Try.f8.params.toList args.toList ds p := hA0
  rw [Try.params8] at hA hval
  obtain ⟨v0, vs0, d0, ds0, p0, q0, hargs, rfl, rfl, h0, r0⟩ := trodAll_cons hA
  obtain ⟨rfl, rfl, rfl⟩ := trodAll_nil r0
  obtain rfl : args = #[v0] := by cases args; simp_all
  obtain ⟨rfl, rfl⟩ := trodVars_none hV
  have k0 := h0
  have lt0 : ∀ x ∈ p0, x.block < W.heap.size := by obtain ⟨m, hm⟩ := k0; exact DataW.trod_lt m _ _ _ hm
  obtain ⟨a0, len0, cap0, rfl⟩ := okWide_slice Try.underlying22 (hval 0 22 v0 rfl rfl)
  obtain ⟨w0, lc0, cm0⟩ : Bytes W a0 len0 ∧ len0 ≤ cap0 ∧ cap0 ≤ 9223372036854775807 := by
    obtain ⟨fuel, hf⟩ := h0
    rcases open_ints Try.underlying22 Try.underlying5 (by kernel_rfl) hf with ⟨hcs, _⟩ | ⟨x, l, c, zs, hcs, _, hl, hm, hz, _, hcell, hwz⟩
    · simp [Value.cells] at hcs
      obtain ⟨rfl, rfl, rfl⟩ := hcs
      exact ⟨fun h => absurd h (by omega), by omega, by omega⟩
    · simp [Value.cells] at hcs
      obtain ⟨rfl, rfl, rfl⟩ := hcs
      have hz' : zs.length = cap0 := by simpa using hz
      exact ⟨bytes_of (by omega) hcell hwz, hl, hm⟩
  clear hA0 hval0
  refine (walk a0 len0 cap0 W w0 lc0 cm0).mono fun e W' ⟨he, bel⟩ => ?_
  subst he
  exact ⟨_, rfl, _, _, _, [], _, [], hW', trodAll_mk1 (shut_bool Try.underlying4 _), (trodAll_cons_mk (Below.trod laidOut (by kernel_rfl) (of_decide_eq_true (by kernel_rfl)) k0 bel lt0) trodAll_mk0), rfl, bel.frame _, fun h => by cases h⟩

theorem over : Rows.fnSplitNetRow.holds Try.pinned (OpenSpec.ofChange Rows.fnSplitNetSpec) :=
  OpenClaim.holds_of_wide 8 Try.f8 rfl rfl rfl rfl rfl rfl rfl ⟨rfl, rfl, rfl, rfl, rfl⟩ rfl rfl rfl rfl rfl (by kernel_rfl) Try.func8 (by kernel_rfl)
    (of_decide_eq_true (by kernel_rfl)) (by unfold Func.isWrapper; first | (rw [if_pos (by decide +kernel)]; kernel_rfl) | (rw [if_neg (by decide +kernel)]; exact ⟨rfl, rfl⟩))
    (fun os started H enc _ => lifted os started H enc)

theorem proved : Rows.FnSplitNetSaid := over
#print axioms proved
end Go.Proofs.Ytmaecadflilbgaa.fnSplitNet
