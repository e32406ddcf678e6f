/-
  'FnInNetSplit': for every input the law returns true, and each argument reads afterwards as it read before. No condition.
  The frame of the row's step follows the kit's skeleton; the walk is ours.
-/
import Derived.Test.YtmaecadflilbgaaLawKit
import Derived.Test.YtmaecadflilbgaaDrawNet4
import Derived.Test.YtmaecadflilbgaaPlainNet3
import Derived.Test.YtmaecadflilbgaaNet2
import Derived.Test.YtmaecadflilbgaaNetH
namespace Go.Proofs.Ytmaecadflilbgaa.fnInNetSplit
open Go.ChangeShapes Go.WideShapes Go.ChangeAt Go.RowKit
set_option linter.unusedVariables false

set_option maxHeartbeats 1600000 in
theorem walk (a : Option Addr) (n c : Nat) (w : World) (w0 : Bytes w a n) (hnc : n ≤ c) (hc : c ≤ 9223372036854775807) :
    Calls Try.prog 5 #[.slice a n c] w fun e w' => e = .returned (.bool true) ∧ Below w.heap.size w w' := by
  by_cases hl : n ≤ 1048576
  · go_enter Try.func5, Try.ntmps5
    go_wp2_with fail
    refine (DrawInNet_any a n c _ w0 hnc hc).mono ?_
    rintro e w1 ⟨b, s, x, rfl, ⟨-, -, x0, x1⟩, -, b1⟩
    have K1 := Lib.hid (Boxed.new_at w1 w1.heap.size rfl 24 b s)
    have B1 := Lib.hid (b1.alloc b1.size (.cells #[.int .i64 b, .int .i64 s] 24))
    clear w0 hnc hc b1
    go_wp2_with fail
    refine (InNet_any b s x _).mono ?_
    rintro e w2 ⟨rfl, b2⟩
    have K2 := Lib.hid (K1.out.on b2)
    have B2 := Lib.hid (next B1.out b2)
    clear b2 K1
    obtain ⟨⟨k0, k1⟩, -⟩ := K2.out
    cases ht : twoN b s
    · have HT := Lib.hid ht
      clear ht
      go_wp2_with fail
      refine (SplitNet_no b s _ HT.out).mono ?_
      rintro e w3 ⟨rfl, b3⟩
      have K3 := Lib.hid (K2.out.on b3)
      have B3 := Lib.hid (next B2.out b3)
      clear b3 K2 k0 k1
      obtain ⟨⟨k0, k1⟩, -⟩ := K3.out
      go_wp2_with fail
      refine (specInNet_any b s x _).mono ?_
      rintro e w4 ⟨rfl, b4⟩
      have K4 := Lib.hid (K3.out.on b4)
      have B4 := Lib.hid (next B3.out b4)
      clear b4 K3 k0 k1
      obtain ⟨⟨k0, k1⟩, -⟩ := K4.out
      go_wp2_with fail
      refine (specInNet_any b s x _).mono ?_
      rintro e w5 ⟨rfl, b5⟩
      have K5 := Lib.hid (K4.out.on b5)
      have B5 := Lib.hid (next B4.out b5)
      clear b5 K4 k0 k1
      obtain ⟨⟨k0, k1⟩, -⟩ := K5.out
      go_wp2
      go_ret
      exact ⟨rfl, B5.out⟩
    · have HT := Lib.hid ht
      clear ht
      have HV := Lib.hid (twoN_vN HT.out)
      have HS := Lib.hid (twoN_lt HT.out).2
      go_wp2_with fail
      refine (SplitNet_yes b s _ HT.out).mono ?_
      rintro e w3 ⟨g, rfl, m3, b3⟩
      have K3 := Lib.hid (K2.out.on b3)
      have B3 := Lib.hid (next B2.out b3)
      clear b3 K2 k0 k1
      obtain ⟨⟨k0, k1⟩, -⟩ := K3.out
      have M3 := Lib.hid m3
      clear m3
      obtain ⟨p0, p1, p2, p3⟩ := half_at M3.out
      go_wp2_with fail
      refine (specInNet_any b s x _).mono ?_
      rintro e w4 ⟨rfl, b4⟩
      have K4 := Lib.hid (K3.out.on b4)
      have B4 := Lib.hid (next B3.out b4)
      have M4 := Lib.hid (M3.out.below b4)
      clear b4 K3 M3 p0 p1 p2 p3 k0 k1
      obtain ⟨⟨k0, k1⟩, -⟩ := K4.out
      obtain ⟨p0, p1, p2, p3⟩ := half_at M4.out
      go_wp2_with fail
      refine (InNet_any b (s + 1) x _).mono ?_
      rintro e w5 ⟨rfl, b5⟩
      have K5 := Lib.hid (K4.out.on b5)
      have B5 := Lib.hid (next B4.out b5)
      have M5 := Lib.hid (M4.out.below b5)
      clear b5 K4 M4 p0 p1 p2 p3 k0 k1
      obtain ⟨⟨k0, k1⟩, -⟩ := K5.out
      obtain ⟨p0, p1, p2, p3⟩ := half_at M5.out
      go_wp2_with fail
      refine (InNet_any (b + szN s / 2) (s + 1) x _).mono ?_
      rintro e w6 ⟨rfl, b6⟩
      have K6 := Lib.hid (K5.out.on b6)
      have B6 := Lib.hid (next B5.out b6)
      have M6 := Lib.hid (M5.out.below b6)
      clear b6 K5 M5 p0 p1 p2 p3 k0 k1
      obtain ⟨⟨k0, k1⟩, -⟩ := K6.out
      have HI := Lib.hid (in_halves (a := x) HV.out HS.out)
      rw [HI.out.1]
      cases h1 : inN b (s + 1) x
      · have H1 := Lib.hid h1
        clear h1
        cases h2 : inN (b + szN s / 2) (s + 1) x
        · have H2 := Lib.hid h2
          clear h2
          go_wp2
          go_ret
          exact ⟨rfl, B6.out⟩
        · have H2 := Lib.hid h2
          clear h2
          go_wp2
          go_ret
          exact ⟨rfl, B6.out⟩
      · have H1 := Lib.hid h1
        clear h1
        cases h2 : inN (b + szN s / 2) (s + 1) x
        · have H2 := Lib.hid h2
          clear h2
          go_wp2
          go_ret
          exact ⟨rfl, B6.out⟩
        · have H2 := Lib.hid h2
          clear h2
          have h := HI.out.2
          rw [H1.out, H2.out] at h
          cases h
  · go_enter Try.func5, Try.ntmps5
    go_wp2
    go_ret
    exact ⟨rfl, Below.refl _ _⟩

set_option maxRecDepth 100000 in
theorem lifted (os : Os) (started : os.Started) (H : Type) (enc : TypeId × Value → H) :
    ReturnsInHanded {} Try.checked os 5 .any (Rows.fnInNetSplitSpec.pre6 enc Try.prog Try.f5 Rows.fnInNetSplitRow.domain false) (Rows.fnInNetSplitSpec.post enc Try.prog Try.f5 false true false false) := by
  refine returnsInHanded_of_change (C := Try.checked) own started (by kernel_rfl) Try.func5
    (ChangeSpec.witness6 (enc := enc) (C := Try.checked) false ⟨#[], #[.slice none 0 0], []⟩ 8 (by kernel_rfl) (by kernel_rfl) (by kernel_rfl) (by kernel_rfl)) ?_
  intro W base args ds gs before hval0 hW hcnd _
  have hval : ∀ (j : Nat) t v, Try.f5.params[j]? = some t → args[j]? = some v → Value.okWide Try.prog W .any base t v := hval0
  have hW' := hW
  obtain ⟨p, q, hA0, hV, rfl, hfz, hnd⟩ := hW
  have hA : DataW.TrodAll enc Try.prog W 0 (fun _ => true) true Try.f5.params.toList args.toList ds p := hA0
  rw [Try.params5] at hA hval
  obtain ⟨v0, vs0, d0, ds0, p0, q0, hargs, rfl, rfl, h0, r0⟩ := trodAll_cons hA
  obtain ⟨rfl, rfl, rfl⟩ := trodAll_nil r0
  obtain rfl : args = #[v0] := by cases args; simp_all
  obtain ⟨rfl, rfl⟩ := trodVars_none hV
  have k0 := h0
  have lt0 : ∀ x ∈ p0, x.block < W.heap.size := by obtain ⟨m, hm⟩ := k0; exact DataW.trod_lt m _ _ _ hm
  obtain ⟨a0, len0, cap0, rfl⟩ := okWide_slice Try.underlying22 (hval 0 22 v0 rfl rfl)
  obtain ⟨w0, lc0, cm0⟩ : Bytes W a0 len0 ∧ len0 ≤ cap0 ∧ cap0 ≤ 9223372036854775807 := by
    obtain ⟨fuel, hf⟩ := h0
    rcases open_ints Try.underlying22 Try.underlying5 (by kernel_rfl) hf with ⟨hcs, _⟩ | ⟨x, l, c, zs, hcs, _, hl, hm, hz, _, hcell, hwz⟩
    · simp [Value.cells] at hcs
      obtain ⟨rfl, rfl, rfl⟩ := hcs
      exact ⟨fun h => absurd h (by omega), by omega, by omega⟩
    · simp [Value.cells] at hcs
      obtain ⟨rfl, rfl, rfl⟩ := hcs
      have hz' : zs.length = cap0 := by simpa using hz
      exact ⟨bytes_of (by omega) hcell hwz, hl, hm⟩
  clear hA0 hval0
  refine (walk a0 len0 cap0 W w0 lc0 cm0).mono fun e W' ⟨he, bel⟩ => ?_
  subst he
  exact ⟨_, rfl, _, _, _, [], _, [], hW', trodAll_mk1 (shut_bool Try.underlying4 _), (trodAll_cons_mk (Below.trod laidOut (by kernel_rfl) (of_decide_eq_true (by kernel_rfl)) k0 bel lt0) trodAll_mk0), rfl, bel.frame _, fun h => by cases h⟩

theorem over : Rows.fnInNetSplitRow.holds Try.pinned (OpenSpec.ofChange Rows.fnInNetSplitSpec) :=
  OpenClaim.holds_of_wide 5 Try.f5 rfl rfl rfl rfl rfl rfl rfl ⟨rfl, rfl, rfl, rfl, rfl⟩ rfl rfl rfl rfl rfl (by kernel_rfl) Try.func5 (by kernel_rfl)
    (of_decide_eq_true (by kernel_rfl)) (by unfold Func.isWrapper; first | (rw [if_pos (by decide +kernel)]; kernel_rfl) | (rw [if_neg (by decide +kernel)]; exact ⟨rfl, rfl⟩))
    (fun os started H enc _ => lifted os started H enc)

theorem proved : Rows.FnInNetSplitSaid := over
#print axioms proved
end Go.Proofs.Ytmaecadflilbgaa.fnInNetSplit
