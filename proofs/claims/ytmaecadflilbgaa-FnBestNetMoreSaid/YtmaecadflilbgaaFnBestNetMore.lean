/-
  'FnBestNetMore': for every input the law returns true, and each argument reads afterwards as it read before. No condition.
  The frame of the row's step follows the kit's skeleton; the walk is ours.
-/
import Derived.Test.YtmaecadflilbgaaLawKit
import Derived.Test.YtmaecadflilbgaaDrawNet6
import Derived.Test.YtmaecadflilbgaaNetB
import Derived.Test.YtmaecadflilbgaaPlainBest2
import Derived.Test.YtmaecadflilbgaaNetH
namespace Go.Proofs.Ytmaecadflilbgaa.fnBestNetMore
open Go.ChangeShapes Go.WideShapes Go.ChangeAt Go.RowKit
set_option linter.unusedVariables false

theorem nrow_sub {w : World} {B b o : Nat} {L : List (Int × Int)} (h : NRow w B (some ⟨b, o, none⟩) L) {i : Nat} (hi : i < L.length) {x y : Int} (hx : (x, y) = L.getD i (0, 0)) : NRow w B (some ⟨b, o + i * 2, none⟩) [(x, y)] := fun _ => by
  obtain ⟨b', o', e, hb, hc⟩ := h (by omega)
  injection e with e; injection e with e1 e2; subst e1; subst e2
  refine ⟨b, o + i * 2, rfl, hb, fun j hj => ?_⟩
  have hj : j = 0 := by simpa using hj
  subst hj
  have := hc i hi
  rw [← hx] at this
  simpa using this
set_option maxHeartbeats 3200000 in
theorem walk (a : Option Addr) (n c : Nat) (w : World) (w0 : Bytes w a n) (hnc : n ≤ c) (hc : c ≤ 9223372036854775807) :
    Calls Try.prog 9 #[.slice a n c] w fun e w' => e = .returned (.bool true) ∧ Below w.heap.size w w' := by
  by_cases hl : n ≤ 1048576
  · go_enter Try.func9, Try.ntmps9
    go_wp2_with fail
    refine (DrawBestNet_any a n c _ w0 hnc hc).mono ?_
    rintro e w1 ⟨g, o, k, cap, L, x, rfl, hL, h9, m1, b1⟩
    have hcap : k ≤ cap := m1.2.1
    have hcm := m1.2.2.1
    unfold maxLen at hcm
    have M1 := Lib.hid m1
    have B1 := Lib.hid b1
    have HL := Lib.hid hL
    clear w0 hnc hc b1 m1 hL
    go_wp2_with fail
    refine (BestNet_any _ k cap x L _ HL.out (by omega) (M1.out.nrow HL.out)).mono ?_
    rintro e w2 ⟨rfl, b2⟩
    have M2 := Lib.hid (M1.out.below b2)
    have B2 := Lib.hid (next B1.out b2)
    clear b2 M1
    go_wp2_with fail
    refine (specBestNet_any _ k cap x L _ HL.out (by omega) (M2.out.nrow HL.out)).mono ?_
    rintro e w3 ⟨rfl, b3⟩
    have M3 := Lib.hid (M2.out.below b3)
    have B3 := Lib.hid (next B2.out b3)
    clear b3 M2
    have ⟨hr0, hr9⟩ := bestN_range L x
    rw [HL.out] at hr9
    by_cases hneg : bestN L x < 0
    · go_wp2_with fail
      refine (specBestNet_any _ k cap x L _ HL.out (by omega) (M3.out.nrow HL.out)).mono ?_
      rintro e w4 ⟨rfl, b4⟩
      have B4 := Lib.hid (next B3.out b4)
      clear b4 M3
      go_wp2
      go_ret
      exact ⟨rfl, B4.out⟩
    · obtain ⟨m, hm⟩ := Int.eq_ofNat_of_zero_le (show 0 ≤ bestN L x by omega)
      have HM := Lib.hid hm
      rw [hm] at hr0 hr9 hneg ⊢
      clear hm
      have hmk : m < k := by omega
      have hk0 : 0 < k := by omega
      have hmk' : ¬ (k : Int) ≤ (m : Int) := by omega
      have hmk2 : decide (k ≤ m) = false := by simpa using hmk
      have hm2 : decide ((m : Int) < 0) = false := by simp
      clear hr0 hneg
      have hk1 : ((k : Int) - 1).toNat = k - 1 := by omega
      have hk2 : (0 : Int) ≤ (k : Int) - 1 := by omega
      have hk3 : (k : Int) - 1 ≤ (cap : Int) := by omega
      have HR := Lib.hid (best_more HM.out)
      have HK : Hid ((L.take (L.length - 1)).length = k - 1) := Lib.hid (by rw [List.length_take, HL.out]; omega)
      have hrow := Lib.hid (M3.out.nrow HL.out)
      have hgl := (M3.out.lt rfl).2
      have hrow2 := Lib.hid (show NRow w3 w3.heap.size (some ⟨g, o, none⟩) (L.take (L.length - 1)) from fun h0 => by
        obtain ⟨b', o', e', hb, hce⟩ := hrow.out (by rw [HL.out]; omega)
        refine ⟨b', o', e', hb, fun i hi => ?_⟩
        rw [HK.out] at hi
        rw [getD_take (by rw [HL.out]; omega)]
        exact hce i (by rw [HL.out]; omega))
      go_wp2_with fail
      refine (BestNet_any _ (k - 1) cap x (L.take (L.length - 1)) _ HK.out (by omega) hrow2.out).mono ?_
      rintro e w4 ⟨rfl, b4⟩
      have M4 := Lib.hid (M3.out.below b4)
      have B4 := Lib.hid (next B3.out b4)
      have hrow4 := Lib.hid (M4.out.nrow HL.out)
      clear b4 hrow hrow2 M3 hk1 hk2 hk3
      rcases HR.out with ⟨hneg, hlast⟩ | ⟨j, hj, hjl, hle⟩
      · have HG := Lib.hid (show bestN (L.take (L.length - 1)) x = -1 by have := (bestN_range (L.take (L.length - 1)) x).1; omega)
        rw [HG.out]
        rw [HL.out] at hlast
        clear hneg
        obtain rfl : k = m + 1 := by omega
        have c1 : ((m : Int) == ((m + 1 : Nat) : Int) - 1) = true := by simp
        have c2 : IntKind.i64.wrap (((m + 1 : Nat) : Int) - 1) = (m : Int) := by rw [wrap_in (by omega)]; omega
        have c3 : decide ((-1 : Int) < (m : Int) + 1) = true := by simp; omega
        have c4 : IntKind.i64.wrap ((m : Int) + 1 - 1) = (m : Int) := by rw [wrap_in (by omega)]; omega
        have c5 : (m : Int) + 1 - 1 = (m : Int) := by omega
        have c6 : (-1 : Int) < (m : Int) + 1 := by omega
        clear c1 c2
        go_wp2
        go_quiet (fail)
        go_wp2
        go_ret
        exact ⟨rfl, below_drewN B4.out nq⟩
      · have HJ := Lib.hid hj
        rw [hj]
        clear hj
        rw [HL.out] at hjl
        obtain ⟨⟨y', s'⟩, hx'⟩ : ∃ p, p = L.getD m (0, 0) := ⟨_, rfl⟩
        obtain ⟨⟨y, s⟩, hx⟩ : ∃ p, p = L.getD j (0, 0) := ⟨_, rfl⟩
        obtain ⟨b', o', e', -, hce⟩ := hrow4.out (by rw [HL.out]; omega)
        injection e' with e'; injection e' with e1 e2; subst e1; subst e2
        have ⟨q0, q1⟩ := hce m (by rw [HL.out]; omega)
        have ⟨p0, p1⟩ := hce j (by rw [HL.out]; omega)
        rw [← hx'] at q0 q1 hle
        rw [← hx] at p0 p1 hle
        simp only at hle
        clear hce hx hx' hrow4
        have l1 : (j : Int) < (k : Int) := by omega
        have l2 : (0 : Int) ≤ (j : Int) := by omega
        have l3 : (m : Int) < (k : Int) := by omega
        have l4 : (0 : Int) ≤ (m : Int) := by omega
        have c3 : decide ((j : Int) < 0) = false := by simp
        have c4 : decide (s ≤ s') = true := by simpa using hle
        go_wp2
        go_quiet (fail)
        go_wp2
        go_ret
        exact ⟨rfl, below_drewN B4.out nq⟩
  · go_enter Try.func9, Try.ntmps9
    go_wp2
    go_ret
    exact ⟨rfl, Below.refl _ _⟩

set_option maxRecDepth 100000 in
theorem lifted (os : Os) (started : os.Started) (H : Type) (enc : TypeId × Value → H) :
    ReturnsInHanded {} Try.checked os 9 .any (Rows.fnBestNetMoreSpec.pre6 enc Try.prog Try.f9 Rows.fnBestNetMoreRow.domain false) (Rows.fnBestNetMoreSpec.post enc Try.prog Try.f9 false true false false) := by
  refine returnsInHanded_of_change (C := Try.checked) own started (by kernel_rfl) Try.func9
    (ChangeSpec.witness6 (enc := enc) (C := Try.checked) false ⟨#[], #[.slice none 0 0], []⟩ 8 (by kernel_rfl) (by kernel_rfl) (by kernel_rfl) (by kernel_rfl)) ?_
  intro W base args ds gs before hval0 hW hcnd _
  have hval : ∀ (j : Nat) t v, Try.f9.params[j]? = some t → args[j]? = some v → Value.okWide Try.prog W .any base t v := hval0
  have hW' := hW
  obtain ⟨p, q, hA0, hV, rfl, hfz, hnd⟩ := hW
  have hA : DataW.TrodAll enc Try.prog W 0 (fun _ => true) true Try.f9.params.toList args.toList ds p := hA0
  rw [Try.params9] at hA hval
  obtain ⟨v0, vs0, d0, ds0, p0, q0, hargs, rfl, rfl, h0, r0⟩ := trodAll_cons hA
  obtain ⟨rfl, rfl, rfl⟩ := trodAll_nil r0
  obtain rfl : args = #[v0] := by cases args; simp_all
  obtain ⟨rfl, rfl⟩ := trodVars_none hV
  have k0 := h0
  have lt0 : ∀ x ∈ p0, x.block < W.heap.size := by obtain ⟨m, hm⟩ := k0; exact DataW.trod_lt m _ _ _ hm
  obtain ⟨a0, len0, cap0, rfl⟩ := okWide_slice Try.underlying22 (hval 0 22 v0 rfl rfl)
  obtain ⟨w0, lc0, cm0⟩ : Bytes W a0 len0 ∧ len0 ≤ cap0 ∧ cap0 ≤ 9223372036854775807 := by
    obtain ⟨fuel, hf⟩ := h0
    rcases open_ints Try.underlying22 Try.underlying5 (by kernel_rfl) hf with ⟨hcs, _⟩ | ⟨x, l, c, zs, hcs, _, hl, hm, hz, _, hcell, hwz⟩
    · simp [Value.cells] at hcs
      obtain ⟨rfl, rfl, rfl⟩ := hcs
      exact ⟨fun h => absurd h (by omega), by omega, by omega⟩
    · simp [Value.cells] at hcs
      obtain ⟨rfl, rfl, rfl⟩ := hcs
      have hz' : zs.length = cap0 := by simpa using hz
      exact ⟨bytes_of (by omega) hcell hwz, hl, hm⟩
  clear hA0 hval0
  refine (walk a0 len0 cap0 W w0 lc0 cm0).mono fun e W' ⟨he, bel⟩ => ?_
  subst he
  exact ⟨_, rfl, _, _, _, [], _, [], hW', trodAll_mk1 (shut_bool Try.underlying4 _), (trodAll_cons_mk (Below.trod laidOut (by kernel_rfl) (of_decide_eq_true (by kernel_rfl)) k0 bel lt0) trodAll_mk0), rfl, bel.frame _, fun h => by cases h⟩

theorem over : Rows.fnBestNetMoreRow.holds Try.pinned (OpenSpec.ofChange Rows.fnBestNetMoreSpec) :=
  OpenClaim.holds_of_wide 9 Try.f9 rfl rfl rfl rfl rfl rfl rfl ⟨rfl, rfl, rfl, rfl, rfl⟩ rfl rfl rfl rfl rfl (by kernel_rfl) Try.func9 (by kernel_rfl)
    (of_decide_eq_true (by kernel_rfl)) (by unfold Func.isWrapper; first | (rw [if_pos (by decide +kernel)]; kernel_rfl) | (rw [if_neg (by decide +kernel)]; exact ⟨rfl, rfl⟩))
    (fun os started H enc _ => lifted os started H enc)

theorem proved : Rows.FnBestNetMoreSaid := over
#print axioms proved
end Go.Proofs.Ytmaecadflilbgaa.fnBestNetMore
