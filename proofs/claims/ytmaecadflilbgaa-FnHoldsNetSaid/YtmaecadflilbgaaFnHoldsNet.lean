/-
  'FnHoldsNet': for every input the law returns true, and each argument reads afterwards as it read before. No condition.
  The frame of the row's step follows the kit's skeleton; the walk is ours.
-/
import Derived.Test.YtmaecadflilbgaaLawKit
import Derived.Test.YtmaecadflilbgaaDrawNet5
import Derived.Test.YtmaecadflilbgaaPlainNet3
import Derived.Test.YtmaecadflilbgaaNet3
import Derived.Test.YtmaecadflilbgaaNetH
namespace Go.Proofs.Ytmaecadflilbgaa.fnHoldsNet
open Go.ChangeShapes Go.WideShapes Go.ChangeAt Go.RowKit
set_option linter.unusedVariables false

set_option maxHeartbeats 1600000 in
theorem walk (a : Option Addr) (n c : Nat) (w : World) (w0 : Bytes w a n) (hnc : n ≤ c) (hc : c ≤ 9223372036854775807) :
    Calls Try.prog 6 #[.slice a n c] w fun e w' => e = .returned (.bool true) ∧ Below w.heap.size w w' := by
  by_cases hl : n ≤ 1048576
  · go_enter Try.func6, Try.ntmps6
    go_wp2_with fail
    refine (DrawHoldsNet_any a n c _ w0 hnc hc).mono ?_
    rintro e w1 ⟨b, s, b', s', rfl, b1⟩
    have K1 := Lib.hid (Boxes.new_at w1 w1.heap.size rfl 24 24 b s b' s')
    have B1 := Lib.hid ((b1.alloc b1.size (.cells #[.int .i64 b, .int .i64 s] 24)).alloc (by have := b1.size; simp; omega) (.cells #[.int .i64 b', .int .i64 s'] 24))
    clear w0 hnc hc b1
    go_wp2_with fail
    refine (HoldsNet_any b s b' s' _).mono ?_
    rintro e w2 ⟨rfl, b2⟩
    have K2 := Lib.hid (K1.out.on b2)
    have B2 := Lib.hid (next B1.out b2)
    clear b2 K1
    obtain ⟨⟨⟨k0, k1⟩, -⟩, ⟨k2, k3⟩, -⟩ := K2.out
    go_wp2_with fail
    refine (specHoldsNet_any b s b' s' _).mono ?_
    rintro e w3 ⟨rfl, b3⟩
    have K3 := Lib.hid (K2.out.on b3)
    have B3 := Lib.hid (next B2.out b3)
    clear b3 K2 k0 k1 k2 k3
    obtain ⟨⟨⟨k0, k1⟩, -⟩, ⟨k2, k3⟩, -⟩ := K3.out
    go_wp2_with fail
    refine (ValidNet_any b s _).mono ?_
    rintro e w4 ⟨rfl, b4⟩
    have K4 := Lib.hid (K3.out.on b4)
    have B4 := Lib.hid (next B3.out b4)
    clear b4 K3 k0 k1 k2 k3
    obtain ⟨⟨⟨k0, k1⟩, -⟩, ⟨k2, k3⟩, -⟩ := K4.out
    cases hv : vN b s
    · have HV := Lib.hid (holdsN_no1 (b' := b') (s' := s') hv)
      clear hv
      go_wp2_with fail
      refine (specHoldsNet_any b s b' s' _).mono ?_
      rintro e w5 ⟨rfl, b5⟩
      have K5 := Lib.hid (K4.out.on b5)
      have B5 := Lib.hid (next B4.out b5)
      rw [HV.out]
      clear b5 K4 k0 k1 k2 k3
      obtain ⟨⟨⟨k0, k1⟩, -⟩, ⟨k2, k3⟩, -⟩ := K5.out
      go_wp2
      go_ret
      exact ⟨rfl, B5.out⟩
    · have HV := Lib.hid hv
      clear hv
      cases ht : twoN b s
      · have HT := Lib.hid ht
        clear ht
        go_wp2_with fail
        refine (SplitNet_no b s _ HT.out).mono ?_
        rintro e w5 ⟨rfl, b5⟩
        have K5 := Lib.hid (K4.out.on b5)
        have B5 := Lib.hid (next B4.out b5)
        clear b5 K4 k0 k1 k2 k3
        obtain ⟨⟨⟨k0, k1⟩, -⟩, ⟨k2, k3⟩, -⟩ := K5.out
        clear k0 k1 k2 k3
        go_wp2_with fail
        go_loopw [7] (fun i wr => i = .int .i64 0 ∧ Boxes wr w1.heap.size b s b' s' ∧ Below w.heap.size w wr) (fun _ _ => 0)
        case atStart => exact ⟨rfl, K5.out, B5.out⟩
        case round =>
          obtain ⟨rfl, hK, hB⟩ := hrel
          have K6 := Lib.hid hK
          have B6 := Lib.hid hB
          clear hK hB K5
          obtain ⟨⟨⟨k0, k1⟩, -⟩, ⟨k2, k3⟩, -⟩ := K6.out
          go_wp2_with fail
          refine (HoldsNet_any b s b s _).mono ?_
          rintro e w7 ⟨rfl, b7⟩
          have K7 := Lib.hid (K6.out.on b7)
          have B7 := Lib.hid (next B6.out b7)
          rw [holds_self HV.out]
          clear b7 K6 k0 k1 k2 k3
          obtain ⟨⟨⟨k0, k1⟩, -⟩, ⟨k2, k3⟩, -⟩ := K7.out
          go_wp2
          go_ret
          exact ⟨rfl, B7.out⟩
      · have HT := Lib.hid ht
        clear ht
        have HS := Lib.hid (twoN_lt HT.out).2
        go_wp2_with fail
        refine (SplitNet_yes b s _ HT.out).mono ?_
        rintro e w5 ⟨g, rfl, m5, b5⟩
        have K5 := Lib.hid (K4.out.on b5)
        have B5 := Lib.hid (next B4.out b5)
        clear b5 K4 k0 k1 k2 k3
        have M5 := Lib.hid m5
        clear m5
        go_wp2_with fail
        go_loopw [7] (fun i wr => ∃ k : Nat, k ≤ 2 ∧ i = .int .i64 k ∧ Boxes wr w1.heap.size b s b' s' ∧ Mine wr w4.heap.size 2 (some ⟨g, 0, none⟩) 2 2 (halvesN b s) ∧ Below w.heap.size w wr) (fun i _ => 2 - (intOf i).toNat)
        case atStart => exact ⟨0, Nat.zero_le _, rfl, K5.out, M5.out, B5.out⟩
        case round =>
          obtain ⟨k, hk, rfl, hK, hM, hB⟩ := hrel
          have K6 := Lib.hid hK
          have M6 := Lib.hid hM
          have B6 := Lib.hid hB
          clear hK hM hB K5 M5
          obtain ⟨⟨⟨k0, k1⟩, -⟩, ⟨k2, k3⟩, -⟩ := K6.out
          obtain ⟨p0, p1, p2, p3⟩ := half_at M6.out
          obtain rfl | rfl | rfl : k = 0 ∨ k = 1 ∨ k = 2 := by omega
          · clear hk
            obtain ⟨S, f, hne, HF, HI⟩ := cls_more wr
            have c0 := Lib.hid (fun x => cls_call (x := x) HI (fun w' k => next (HF.out x) k) ((HoldsNet_any b s b (s + 1) (f x)).mono fun _ _ ⟨he, hb⟩ => ⟨by rw [he, half_h1 HV.out HS.out], hb⟩))
            have c1 := Lib.hid (fun x => cls_call (x := x) HI (fun w' k => next (HF.out x) k) ((HoldsNet_any b (s + 1) b s (f x)).mono fun _ _ ⟨he, hb⟩ => ⟨by rw [he, half_n1 HV.out HS.out], hb⟩))
            go_wp2
            clear k0 k1 k2 k3 p0 p1 p2 p3
            have k0 : ∀ x, (f x).cell? ⟨w1.heap.size, 0, none⟩ = some (.int .i64 b) := fun x => (K6.out.on (HF.out x)).1.1.1
            have k1 : ∀ x, (f x).cell? ⟨w1.heap.size, 1, none⟩ = some (.int .i64 s) := fun x => (K6.out.on (HF.out x)).1.1.2
            have k2 : ∀ x, (f x).cell? ⟨w1.heap.size + 1, 0, none⟩ = some (.int .i64 b') := fun x => (K6.out.on (HF.out x)).2.1.1
            have k3 : ∀ x, (f x).cell? ⟨w1.heap.size + 1, 1, none⟩ = some (.int .i64 s') := fun x => (K6.out.on (HF.out x)).2.1.2
            have p0 : ∀ x, (f x).cell? ⟨g, 0, none⟩ = some (.int .i64 b) := fun x => (half_at (M6.out.below (HF.out x))).1
            have p1 : ∀ x, (f x).cell? ⟨g, 1, none⟩ = some (.int .i64 (s + 1)) := fun x => (half_at (M6.out.below (HF.out x))).2.1
            have p2 : ∀ x, (f x).cell? ⟨g, 2, none⟩ = some (.int .i64 (b + szN s / 2)) := fun x => (half_at (M6.out.below (HF.out x))).2.2.1
            have p3 : ∀ x, (f x).cell? ⟨g, 3, none⟩ = some (.int .i64 (s + 1)) := fun x => (half_at (M6.out.below (HF.out x))).2.2.2
            refine wp_region_cls f (by kernel_rfl) (by kernel_rfl) (HI.out _ (Below.refl _ _).drew) ?_
            repeat (go_big_quiet_step ((first | (go_at_call 13; with_reducible exact c0.out _) | (go_at_call 13; with_reducible exact c1.out _))))
            refine wpQuiet_nil ?_
            rintro _ ⟨x, rfl⟩
            have b7 := HF.out x
            clear HF HI hne c0 c1 k0 k1 k2 k3 p0 p1 p2 p3
            generalize f x = w7 at b7 ⊢
            clear x f S
            have K7 := Lib.hid (K6.out.on b7)
            have B7 := Lib.hid (next B6.out b7)
            have bb7 := b7
            clear b7 K6
            obtain ⟨⟨⟨k0, k1⟩, -⟩, ⟨k2, k3⟩, -⟩ := K7.out
            have M7 := Lib.hid (M6.out.below bb7)
            clear M6 bb7
            go_wp2
            go_roundw
            case rel => exact ⟨1, by omega, rfl, K7.out, M7.out, B7.out⟩
            case measure => simp [intOf]
          · clear hk
            obtain ⟨S, f, hne, HF, HI⟩ := cls_more wr
            have c0 := Lib.hid (fun x => cls_call (x := x) HI (fun w' k => next (HF.out x) k) ((HoldsNet_any b s (b + szN s / 2) (s + 1) (f x)).mono fun _ _ ⟨he, hb⟩ => ⟨by rw [he, half_h2 HV.out HS.out], hb⟩))
            have c1 := Lib.hid (fun x => cls_call (x := x) HI (fun w' k => next (HF.out x) k) ((HoldsNet_any (b + szN s / 2) (s + 1) b s (f x)).mono fun _ _ ⟨he, hb⟩ => ⟨by rw [he, half_n2 HV.out HS.out], hb⟩))
            go_wp2
            clear k0 k1 k2 k3 p0 p1 p2 p3
            have k0 : ∀ x, (f x).cell? ⟨w1.heap.size, 0, none⟩ = some (.int .i64 b) := fun x => (K6.out.on (HF.out x)).1.1.1
            have k1 : ∀ x, (f x).cell? ⟨w1.heap.size, 1, none⟩ = some (.int .i64 s) := fun x => (K6.out.on (HF.out x)).1.1.2
            have k2 : ∀ x, (f x).cell? ⟨w1.heap.size + 1, 0, none⟩ = some (.int .i64 b') := fun x => (K6.out.on (HF.out x)).2.1.1
            have k3 : ∀ x, (f x).cell? ⟨w1.heap.size + 1, 1, none⟩ = some (.int .i64 s') := fun x => (K6.out.on (HF.out x)).2.1.2
            have p0 : ∀ x, (f x).cell? ⟨g, 0, none⟩ = some (.int .i64 b) := fun x => (half_at (M6.out.below (HF.out x))).1
            have p1 : ∀ x, (f x).cell? ⟨g, 1, none⟩ = some (.int .i64 (s + 1)) := fun x => (half_at (M6.out.below (HF.out x))).2.1
            have p2 : ∀ x, (f x).cell? ⟨g, 2, none⟩ = some (.int .i64 (b + szN s / 2)) := fun x => (half_at (M6.out.below (HF.out x))).2.2.1
            have p3 : ∀ x, (f x).cell? ⟨g, 3, none⟩ = some (.int .i64 (s + 1)) := fun x => (half_at (M6.out.below (HF.out x))).2.2.2
            refine wp_region_cls f (by kernel_rfl) (by kernel_rfl) (HI.out _ (Below.refl _ _).drew) ?_
            repeat (go_big_quiet_step ((first | (go_at_call 13; with_reducible exact c0.out _) | (go_at_call 13; with_reducible exact c1.out _))))
            refine wpQuiet_nil ?_
            rintro _ ⟨x, rfl⟩
            have b7 := HF.out x
            clear HF HI hne c0 c1 k0 k1 k2 k3 p0 p1 p2 p3
            generalize f x = w7 at b7 ⊢
            clear x f S
            have K7 := Lib.hid (K6.out.on b7)
            have B7 := Lib.hid (next B6.out b7)
            have bb7 := b7
            clear b7 K6
            obtain ⟨⟨⟨k0, k1⟩, -⟩, ⟨k2, k3⟩, -⟩ := K7.out
            have M7 := Lib.hid (M6.out.below bb7)
            clear M6 bb7
            go_wp2
            go_roundw
            case rel => exact ⟨2, by omega, rfl, K7.out, M7.out, B7.out⟩
            case measure => simp [intOf]
          · clear p0 p1 p2 p3 M6
            go_wp2_with fail
            refine (HoldsNet_any b s b s _).mono ?_
            rintro e w7 ⟨rfl, b7⟩
            have K7 := Lib.hid (K6.out.on b7)
            have B7 := Lib.hid (next B6.out b7)
            rw [holds_self HV.out]
            clear b7 K6 k0 k1 k2 k3
            obtain ⟨⟨⟨k0, k1⟩, -⟩, ⟨k2, k3⟩, -⟩ := K7.out
            go_wp2
            go_ret
            exact ⟨rfl, B7.out⟩
  · go_enter Try.func6, Try.ntmps6
    go_wp2
    go_ret
    exact ⟨rfl, Below.refl _ _⟩

set_option maxRecDepth 100000 in
theorem lifted (os : Os) (started : os.Started) (H : Type) (enc : TypeId × Value → H) :
    ReturnsInHanded {} Try.checked os 6 .any (Rows.fnHoldsNetSpec.pre6 enc Try.prog Try.f6 Rows.fnHoldsNetRow.domain false) (Rows.fnHoldsNetSpec.post enc Try.prog Try.f6 false true false false) := by
  refine returnsInHanded_of_change (C := Try.checked) own started (by kernel_rfl) Try.func6
    (ChangeSpec.witness6 (enc := enc) (C := Try.checked) false ⟨#[], #[.slice none 0 0], []⟩ 8 (by kernel_rfl) (by kernel_rfl) (by kernel_rfl) (by kernel_rfl)) ?_
  intro W base args ds gs before hval0 hW hcnd _
  have hval : ∀ (j : Nat) t v, Try.f6.params[j]? = some t → args[j]? = some v → Value.okWide Try.prog W .any base t v := hval0
  have hW' := hW
  obtain ⟨p, q, hA0, hV, rfl, hfz, hnd⟩ := hW
  have hA : DataW.TrodAll enc Try.prog W 0 (fun _ => true) true Try.f6.params.toList args.toList ds p := hA0
  rw [Try.params6] at hA hval
  obtain ⟨v0, vs0, d0, ds0, p0, q0, hargs, rfl, rfl, h0, r0⟩ := trodAll_cons hA
  obtain ⟨rfl, rfl, rfl⟩ := trodAll_nil r0
  obtain rfl : args = #[v0] := by cases args; simp_all
  obtain ⟨rfl, rfl⟩ := trodVars_none hV
  have k0 := h0
  have lt0 : ∀ x ∈ p0, x.block < W.heap.size := by obtain ⟨m, hm⟩ := k0; exact DataW.trod_lt m _ _ _ hm
  obtain ⟨a0, len0, cap0, rfl⟩ := okWide_slice Try.underlying22 (hval 0 22 v0 rfl rfl)
  obtain ⟨w0, lc0, cm0⟩ : Bytes W a0 len0 ∧ len0 ≤ cap0 ∧ cap0 ≤ 9223372036854775807 := by
    obtain ⟨fuel, hf⟩ := h0
    rcases open_ints Try.underlying22 Try.underlying5 (by kernel_rfl) hf with ⟨hcs, _⟩ | ⟨x, l, c, zs, hcs, _, hl, hm, hz, _, hcell, hwz⟩
    · simp [Value.cells] at hcs
      obtain ⟨rfl, rfl, rfl⟩ := hcs
      exact ⟨fun h => absurd h (by omega), by omega, by omega⟩
    · simp [Value.cells] at hcs
      obtain ⟨rfl, rfl, rfl⟩ := hcs
      have hz' : zs.length = cap0 := by simpa using hz
      exact ⟨bytes_of (by omega) hcell hwz, hl, hm⟩
  clear hA0 hval0
  refine (walk a0 len0 cap0 W w0 lc0 cm0).mono fun e W' ⟨he, bel⟩ => ?_
  subst he
  exact ⟨_, rfl, _, _, _, [], _, [], hW', trodAll_mk1 (shut_bool Try.underlying4 _), (trodAll_cons_mk (Below.trod laidOut (by kernel_rfl) (of_decide_eq_true (by kernel_rfl)) k0 bel lt0) trodAll_mk0), rfl, bel.frame _, fun h => by cases h⟩

theorem over : Rows.fnHoldsNetRow.holds Try.pinned (OpenSpec.ofChange Rows.fnHoldsNetSpec) :=
  OpenClaim.holds_of_wide 6 Try.f6 rfl rfl rfl rfl rfl rfl rfl ⟨rfl, rfl, rfl, rfl, rfl⟩ rfl rfl rfl rfl rfl (by kernel_rfl) Try.func6 (by kernel_rfl)
    (of_decide_eq_true (by kernel_rfl)) (by unfold Func.isWrapper; first | (rw [if_pos (by decide +kernel)]; kernel_rfl) | (rw [if_neg (by decide +kernel)]; exact ⟨rfl, rfl⟩))
    (fun os started H enc _ => lifted os started H enc)

theorem proved : Rows.FnHoldsNetSaid := over
#print axioms proved
end Go.Proofs.Ytmaecadflilbgaa.fnHoldsNet
