/-
  'FnValidPacket': for every input the law returns true, and each argument reads afterwards as it read before. No condition.
  The frame of the row's step follows the kit's skeleton; the walk is ours.
-/
import Derived.Test.YtogoeehkpebhaaaLawKit
import Derived.Test.YtogoeehkpebhaaaDrawPkt
namespace Go.Proofs.Ytogoeehkpebhaaa.fnValidPacket
open Go.ChangeShapes Go.WideShapes Go.ChangeAt Go.RowKit
set_option linter.unusedVariables false

theorem vP_none {kd fa fp ta tp : Int} {xs : List Int} (h : vP kd fa fp ta tp xs = true) : vP kd fa fp ta tp [] = true := by
  simp only [vP, Bool.and_eq_true] at h ⊢
  exact ⟨h.1, h.2.1, h.2.2.1, by simp [areW, allR]⟩
theorem vP_swap {kd fa fp ta tp : Int} {xs : List Int} (h : vP kd fa fp ta tp xs = true) : vP kd ta tp fa fp xs = true := by
  simp only [vP, Bool.and_eq_true] at h ⊢
  exact ⟨h.1, h.2.2.1, h.2.1, h.2.2.2⟩
set_option maxHeartbeats 1600000 in
theorem walk (a : Option Addr) (n c : Nat) (w : World) (w0 : Bytes w a n) (hnc : n ≤ c) (hc : c ≤ 9223372036854775807) :
    Calls Try.prog 3 #[.slice a n c] w fun e w' => e = .returned (.bool true) ∧ Below w.heap.size w w' := by
  by_cases hl : n ≤ 1048576
  · go_enter Try.func3, Try.ntmps3
    go_wp2_with fail
    refine (DrawValidPacket_any a n c _ w0 hnc hc).mono ?_
    rintro e w1 ⟨kd, fa, fp, ta, tp, g, o, k, cap, xs, rfl, hxk, h13, m1, b1⟩
    have XK := Lib.hid hxk
    have K1 := Lib.hid (PBox.new_at w1 w1.heap.size rfl 27 kd fa fp ta tp (some ⟨g, o, none⟩) k cap)
    have hb := (Below.refl w1.heap.size w1).alloc (Nat.le_refl _) (.cells #[.int .i64 kd, .int .i64 fa, .int .i64 fp, .int .i64 ta, .int .i64 tp, .slice (some ⟨g, o, none⟩) k cap] 27)
    have Q1 := Lib.hid (m1.sees.row.on hb)
    have B1 := Lib.hid (next b1 hb)
    clear w0 hnc hc b1 m1 hb hxk
    go_wp2_with fail
    refine (ValidPacket_any kd fa fp ta tp _ k cap xs _ XK.out (by omega) Q1.out).mono ?_
    rintro e w2 ⟨rfl, b2⟩
    have K2 := Lib.hid (K1.out.on b2)
    have B2 := Lib.hid (next B1.out b2)
    have Q2 := Lib.hid (Q1.out.on b2)
    clear b2 K1 Q1
    obtain ⟨⟨k0, k1, k2, k3, k4, k5⟩, -⟩ := K2.out
    go_wp2_with fail
    refine (specValidPacket_any kd fa fp ta tp _ k cap xs _ XK.out (by omega) Q2.out).mono ?_
    rintro e w3 ⟨rfl, b3⟩
    have K3 := Lib.hid (K2.out.on b3)
    have B3 := Lib.hid (next B2.out b3)
    have Q3 := Lib.hid (Q2.out.on b3)
    clear b3 K2 Q2 k0 k1 k2 k3 k4 k5
    obtain ⟨⟨k0, k1, k2, k3, k4, k5⟩, -⟩ := K3.out
    cases hv : vP kd fa fp ta tp xs
    · have HV := Lib.hid hv
      clear hv
      go_wp2_with fail
      refine (specValidPacket_any kd fa fp ta tp _ k cap xs _ XK.out (by omega) Q3.out).mono ?_
      rintro e w4 ⟨rfl, b4⟩
      have B4 := Lib.hid (next B3.out b4)
      rw [HV.out]
      clear b4 K3 Q3 k0 k1 k2 k3 k4 k5
      go_wp2
      go_ret
      exact ⟨rfl, B4.out⟩
    · have HV := Lib.hid hv
      clear hv
      go_wp2_with fail
      refine (ValidPacket_any kd fa fp ta tp none 0 0 [] _ rfl (by omega) Row.nil_).mono ?_
      rintro e w4 ⟨rfl, b4⟩
      have K4 := Lib.hid (K3.out.on b4)
      have B4 := Lib.hid (next B3.out b4)
      have Q4 := Lib.hid (Q3.out.on b4)
      rw [vP_none HV.out]
      clear b4 K3 Q3 k0 k1 k2 k3 k4 k5
      obtain ⟨⟨k0, k1, k2, k3, k4, k5⟩, -⟩ := K4.out
      go_wp2_with fail
      refine (ValidPacket_any kd ta tp fa fp _ k cap xs _ XK.out (by omega) Q4.out).mono ?_
      rintro e w5 ⟨rfl, b5⟩
      have B5 := Lib.hid (next B4.out b5)
      rw [vP_swap HV.out]
      clear b5 K4 Q4 k0 k1 k2 k3 k4 k5
      go_wp2
      go_ret
      exact ⟨rfl, B5.out⟩
  · go_enter Try.func3, Try.ntmps3
    go_wp2
    go_ret
    exact ⟨rfl, Below.refl _ _⟩

set_option maxRecDepth 100000 in
theorem lifted (os : Os) (started : os.Started) (H : Type) (enc : TypeId × Value → H) :
    ReturnsInHanded {} Try.checked os 3 .any (Rows.fnValidPacketSpec.pre6 enc Try.prog Try.f3 Rows.fnValidPacketRow.domain false) (Rows.fnValidPacketSpec.post enc Try.prog Try.f3 false true false false) := by
  refine returnsInHanded_of_change (C := Try.checked) own started (by kernel_rfl) Try.func3
    (ChangeSpec.witness6 (enc := enc) (C := Try.checked) false ⟨#[], #[.slice none 0 0], []⟩ 8 (by kernel_rfl) (by kernel_rfl) (by kernel_rfl) (by kernel_rfl)) ?_
  intro W base args ds gs before hval0 hW hcnd _
  have hval : ∀ (j : Nat) t v, Try.f3.params[j]? = some t → args[j]? = some v → Value.okWide Try.prog W .any base t v := hval0
  have hW' := hW
  obtain ⟨p, q, hA0, hV, rfl, hfz, hnd⟩ := hW
  have hA : DataW.TrodAll enc Try.prog W 0 (fun _ => true) true Try.f3.params.toList args.toList ds p := hA0
  rw [Try.params3] at hA hval
  obtain ⟨v0, vs0, d0, ds0, p0, q0, hargs, rfl, rfl, h0, r0⟩ := trodAll_cons hA
  obtain ⟨rfl, rfl, rfl⟩ := trodAll_nil r0
  obtain rfl : args = #[v0] := by cases args; simp_all
  obtain ⟨rfl, rfl⟩ := trodVars_none hV
  have k0 := h0
  have lt0 : ∀ x ∈ p0, x.block < W.heap.size := by obtain ⟨m, hm⟩ := k0; exact DataW.trod_lt m _ _ _ hm
  obtain ⟨a0, len0, cap0, rfl⟩ := okWide_slice Try.underlying22 (hval 0 22 v0 rfl rfl)
  obtain ⟨w0, lc0, cm0⟩ : Bytes W a0 len0 ∧ len0 ≤ cap0 ∧ cap0 ≤ 9223372036854775807 := by
    obtain ⟨fuel, hf⟩ := h0
    rcases open_ints Try.underlying22 Try.underlying5 (by kernel_rfl) hf with ⟨hcs, _⟩ | ⟨x, l, c, zs, hcs, _, hl, hm, hz, _, hcell, hwz⟩
    · simp [Value.cells] at hcs
      obtain ⟨rfl, rfl, rfl⟩ := hcs
      exact ⟨fun h => absurd h (by omega), by omega, by omega⟩
    · simp [Value.cells] at hcs
      obtain ⟨rfl, rfl, rfl⟩ := hcs
      have hz' : zs.length = cap0 := by simpa using hz
      exact ⟨bytes_of (by omega) hcell hwz, hl, hm⟩
  clear hA0 hval0
  refine (walk a0 len0 cap0 W w0 lc0 cm0).mono fun e W' ⟨he, bel⟩ => ?_
  subst he
  exact ⟨_, rfl, _, _, _, [], _, [], hW', trodAll_mk1 (shut_bool Try.underlying4 _), (trodAll_cons_mk (Below.trod laidOut (by kernel_rfl) (of_decide_eq_true (by kernel_rfl)) k0 bel lt0) trodAll_mk0), rfl, bel.frame _, fun h => by cases h⟩

theorem over : Rows.fnValidPacketRow.holds Try.pinned (OpenSpec.ofChange Rows.fnValidPacketSpec) :=
  OpenClaim.holds_of_wide 3 Try.f3 rfl rfl rfl rfl rfl rfl rfl ⟨rfl, rfl, rfl, rfl, rfl⟩ rfl rfl rfl rfl rfl (by kernel_rfl) Try.func3 (by kernel_rfl)
    (of_decide_eq_true (by kernel_rfl)) (by unfold Func.isWrapper; first | (rw [if_pos (by decide +kernel)]; kernel_rfl) | (rw [if_neg (by decide +kernel)]; exact ⟨rfl, rfl⟩))
    (fun os started H enc _ => lifted os started H enc)

theorem proved : Rows.FnValidPacketSaid := over
#print axioms proved
end Go.Proofs.Ytogoeehkpebhaaa.fnValidPacket
