/-
  'FnInNetHolds': for every input the law returns true, and each argument reads afterwards as it read before. No condition.
  The frame of the row's step follows the kit's skeleton; the walk is ours.
-/
import Derived.Test.YtmaecadflilbgaaLawKit
import Derived.Test.YtmaecadflilbgaaDrawNet5
import Derived.Test.YtmaecadflilbgaaPlainNet3
import Derived.Test.YtmaecadflilbgaaNet3
import Derived.Test.YtmaecadflilbgaaNetH
namespace Go.Proofs.Ytmaecadflilbgaa.fnInNetHolds
open Go.ChangeShapes Go.WideShapes Go.ChangeAt Go.RowKit
set_option linter.unusedVariables false

set_option maxHeartbeats 1600000 in
theorem walk (a : Option Addr) (n c : Nat) (w : World) (w0 : Bytes w a n) (hnc : n ≤ c) (hc : c ≤ 9223372036854775807) :
    Calls Try.prog 4 #[.slice a n c] w fun e w' => e = .returned (.bool true) ∧ Below w.heap.size w w' := by
  by_cases hl : n ≤ 1048576
  · go_enter Try.func4, Try.ntmps4
    go_wp2_with fail
    refine (DrawHoldsNet_any a n c _ w0 hnc hc).mono ?_
    rintro e w1 ⟨b, s, b', s', rfl, b1⟩
    have K1 := Lib.hid (Boxes.new_at w1 w1.heap.size rfl 24 24 b s b' s')
    have B1 := Lib.hid ((b1.alloc b1.size (.cells #[.int .i64 b, .int .i64 s] 24)).alloc (by have := b1.size; simp; omega) (.cells #[.int .i64 b', .int .i64 s'] 24))
    clear w0 hnc hc b1
    go_wp2_with fail
    refine (HoldsNet_any b s b' s' _).mono ?_
    rintro e w2 ⟨rfl, b2⟩
    have K2 := Lib.hid (K1.out.on b2)
    have B2 := Lib.hid (next B1.out b2)
    clear b2 K1
    obtain ⟨⟨⟨k0, k1⟩, -⟩, ⟨k2, k3⟩, -⟩ := K2.out
    go_wp2_with fail
    refine (specHoldsNet_any b s b' s' _).mono ?_
    rintro e w3 ⟨rfl, b3⟩
    have K3 := Lib.hid (K2.out.on b3)
    have B3 := Lib.hid (next B2.out b3)
    clear b3 K2 k0 k1 k2 k3
    obtain ⟨⟨⟨k0, k1⟩, -⟩, ⟨k2, k3⟩, -⟩ := K3.out
    cases hv : holdsN b s b' s'
    · have HV := Lib.hid (hv)
      clear hv
      go_wp2_with fail
      refine (specHoldsNet_any b s b' s' _).mono ?_
      rintro e w4 ⟨rfl, b4⟩
      have K4 := Lib.hid (K3.out.on b4)
      have B4 := Lib.hid (next B3.out b4)
      rw [HV.out]
      clear b4 K3 k0 k1 k2 k3
      obtain ⟨⟨⟨k0, k1⟩, -⟩, ⟨k2, k3⟩, -⟩ := K4.out
      go_wp2
      go_ret
      exact ⟨rfl, B4.out⟩
    · have HV := Lib.hid hv
      clear hv
      have ⟨y0, y9⟩ := (vN_range (holdsN_def.1 HV.out).2.1).2.1
      clear k0 k1 k2 k3
      go_wp2_with fail
      go_loopw [6] (fun i wr => ∃ k : Nat, k ≤ 20 ∧ i = .int .i64 k ∧ Boxes wr w1.heap.size b s b' s' ∧ Below w.heap.size w wr) (fun i _ => 20 - (intOf i).toNat)
      case atStart => exact ⟨0, Nat.zero_le _, rfl, K3.out, B3.out⟩
      case round =>
        obtain ⟨k, hk, rfl, hK, hB⟩ := hrel
        have KK := Lib.hid hK
        have BB := Lib.hid hB
        clear hK hB K3
        obtain ⟨⟨⟨k0, k1⟩, -⟩, ⟨k2, k3⟩, -⟩ := KK.out
        by_cases hlt : k < 20
        · have hb0 : 0 ≤ b' + (k : Int) * 7 := by omega
          have hb9 : b' + (k : Int) * 7 ≤ 100000 := by omega
          go_wp2_with fail
          refine (InNet_any b' s' (b' + (k : Int) * 7) _).mono ?_
          rintro e w4 ⟨rfl, b4⟩
          have K4 := Lib.hid (KK.out.on b4)
          have B4 := Lib.hid (next BB.out b4)
          clear b4 KK BB k0 k1 k2 k3
          obtain ⟨⟨⟨k0, k1⟩, -⟩, ⟨k2, k3⟩, -⟩ := K4.out
          cases hx : inN b' s' (b' + (k : Int) * 7)
          · clear hx
            go_wp2
            go_roundw
            case rel => exact ⟨k + 1, by omega, by go_num, K4.out, B4.out⟩
            case measure => simp [intOf]; omega
          · have HX := Lib.hid (in_held HV.out hx)
            clear hx
            go_wp2_with fail
            refine (InNet_any b s (b' + (k : Int) * 7) _).mono ?_
            rintro e w5 ⟨rfl, b5⟩
            have K5 := Lib.hid (K4.out.on b5)
            have B5 := Lib.hid (next B4.out b5)
            clear b5 K4 B4 k0 k1 k2 k3
            rw [HX.out]
            go_wp2
            go_roundw
            case rel => exact ⟨k + 1, by omega, by go_num, K5.out, B5.out⟩
            case measure => simp [intOf]; omega
        · go_wp2
          go_ret
          exact ⟨rfl, BB.out⟩
  · go_enter Try.func4, Try.ntmps4
    go_wp2
    go_ret
    exact ⟨rfl, Below.refl _ _⟩

set_option maxRecDepth 100000 in
theorem lifted (os : Os) (started : os.Started) (H : Type) (enc : TypeId × Value → H) :
    ReturnsInHanded {} Try.checked os 4 .any (Rows.fnInNetHoldsSpec.pre6 enc Try.prog Try.f4 Rows.fnInNetHoldsRow.domain false) (Rows.fnInNetHoldsSpec.post enc Try.prog Try.f4 false true false false) := by
  refine returnsInHanded_of_change (C := Try.checked) own started (by kernel_rfl) Try.func4
    (ChangeSpec.witness6 (enc := enc) (C := Try.checked) false ⟨#[], #[.slice none 0 0], []⟩ 8 (by kernel_rfl) (by kernel_rfl) (by kernel_rfl) (by kernel_rfl)) ?_
  intro W base args ds gs before hval0 hW hcnd _
  have hval : ∀ (j : Nat) t v, Try.f4.params[j]? = some t → args[j]? = some v → Value.okWide Try.prog W .any base t v := hval0
  have hW' := hW
  obtain ⟨p, q, hA0, hV, rfl, hfz, hnd⟩ := hW
  have hA : DataW.TrodAll enc Try.prog W 0 (fun _ => true) true Try.f4.params.toList args.toList ds p := hA0
  rw [Try.params4] at hA hval
  obtain ⟨v0, vs0, d0, ds0, p0, q0, hargs, rfl, rfl, h0, r0⟩ := trodAll_cons hA
  obtain ⟨rfl, rfl, rfl⟩ := trodAll_nil r0
  obtain rfl : args = #[v0] := by cases args; simp_all
  obtain ⟨rfl, rfl⟩ := trodVars_none hV
  have k0 := h0
  have lt0 : ∀ x ∈ p0, x.block < W.heap.size := by obtain ⟨m, hm⟩ := k0; exact DataW.trod_lt m _ _ _ hm
  obtain ⟨a0, len0, cap0, rfl⟩ := okWide_slice Try.underlying22 (hval 0 22 v0 rfl rfl)
  obtain ⟨w0, lc0, cm0⟩ : Bytes W a0 len0 ∧ len0 ≤ cap0 ∧ cap0 ≤ 9223372036854775807 := by
    obtain ⟨fuel, hf⟩ := h0
    rcases open_ints Try.underlying22 Try.underlying5 (by kernel_rfl) hf with ⟨hcs, _⟩ | ⟨x, l, c, zs, hcs, _, hl, hm, hz, _, hcell, hwz⟩
    · simp [Value.cells] at hcs
      obtain ⟨rfl, rfl, rfl⟩ := hcs
      exact ⟨fun h => absurd h (by omega), by omega, by omega⟩
    · simp [Value.cells] at hcs
      obtain ⟨rfl, rfl, rfl⟩ := hcs
      have hz' : zs.length = cap0 := by simpa using hz
      exact ⟨bytes_of (by omega) hcell hwz, hl, hm⟩
  clear hA0 hval0
  refine (walk a0 len0 cap0 W w0 lc0 cm0).mono fun e W' ⟨he, bel⟩ => ?_
  subst he
  exact ⟨_, rfl, _, _, _, [], _, [], hW', trodAll_mk1 (shut_bool Try.underlying4 _), (trodAll_cons_mk (Below.trod laidOut (by kernel_rfl) (of_decide_eq_true (by kernel_rfl)) k0 bel lt0) trodAll_mk0), rfl, bel.frame _, fun h => by cases h⟩

theorem over : Rows.fnInNetHoldsRow.holds Try.pinned (OpenSpec.ofChange Rows.fnInNetHoldsSpec) :=
  OpenClaim.holds_of_wide 4 Try.f4 rfl rfl rfl rfl rfl rfl rfl ⟨rfl, rfl, rfl, rfl, rfl⟩ rfl rfl rfl rfl rfl (by kernel_rfl) Try.func4 (by kernel_rfl)
    (of_decide_eq_true (by kernel_rfl)) (by unfold Func.isWrapper; first | (rw [if_pos (by decide +kernel)]; kernel_rfl) | (rw [if_neg (by decide +kernel)]; exact ⟨rfl, rfl⟩))
    (fun os started H enc _ => lifted os started H enc)

theorem proved : Rows.FnInNetHoldsSaid := over
#print axioms proved
end Go.Proofs.Ytmaecadflilbgaa.fnInNetHolds
