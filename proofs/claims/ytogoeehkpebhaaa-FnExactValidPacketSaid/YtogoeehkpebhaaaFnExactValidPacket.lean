/-
  'FnExactValidPacket': for every input the law returns true, and each argument reads afterwards as it read before. No condition.
  The frame of the row's step follows the kit's skeleton; the walk is ours.
-/
import Derived.Test.YtogoeehkpebhaaaLawKit
import Derived.Test.YtogoeehkpebhaaaPkt3
import Derived.Deep.RegionHeld3
import Derived.Test.YtogoeehkpebhaaaLawOpen
namespace Go.Proofs.Ytogoeehkpebhaaa.fnExactValidPacket
open Go.ChangeShapes Go.WideShapes Go.ChangeAt Go.RowKit
set_option linter.unusedVariables false

attribute [local go_sem ↓] Go.wp_at_zero Go.wp_at_succ
set_option maxHeartbeats 3200000 in
theorem walk (kd fa fp ta tp : Int) (A : Option Addr) (n c : Nat) (xs : List Int) (w : World) (hr : Row .i64 w w.heap.size A xs) (hn : xs.length = n) (lc : n ≤ c) (cm : c ≤ 9223372036854775807) :
    Calls Try.prog 4 #[.agg #[.int .i64 kd, .int .i64 fa, .int .i64 fp, .int .i64 ta, .int .i64 tp, .slice A n c]] w fun e w' => e = .returned (.bool true) ∧ Below w.heap.size w w' := by
  have K0 := Lib.hid (PBox.new_at w w.heap.size rfl 33 kd fa fp ta tp A n c)
  have B0 := Lib.hid ((Below.refl w.heap.size w).alloc (Nat.le_refl _) (.cells #[.int .i64 kd, .int .i64 fa, .int .i64 fp, .int .i64 ta, .int .i64 tp, .slice A n c] 33))
  have Q0 := Lib.hid (hr.on ((Below.refl w.heap.size w).alloc (Nat.le_refl _) (.cells #[.int .i64 kd, .int .i64 fa, .int .i64 fp, .int .i64 ta, .int .i64 tp, .slice A n c] 33)))
  clear hr
  go_enter Try.func4, Try.ntmps4
  go_wp2_with fail
  refine (szPacket_any kd fa fp ta tp A n c _ (by omega)).mono ?_
  rintro e w1 ⟨rfl, b1⟩
  have K1 := Lib.hid (K0.out.on b1)
  have B1 := Lib.hid (next B0.out b1)
  have Q1 := Lib.hid (Q0.out.on b1)
  clear b1 K0 Q0
  by_cases hl : (n : Int) ≤ 1048576
  · rw [if_pos hl]
    have h2 : ¬ (1048576 - (n : Int) < 0) := by omega
    obtain ⟨⟨k0, k1, k2, k3, k4, k5⟩, -⟩ := K1.out
    go_wp2_with fail
    refine (toPacket_any kd fa fp ta tp A n c xs _ hn (by omega) Q1.out).mono ?_
    rintro e w2 ⟨g2, rfl, r2, b2⟩
    have K2 := Lib.hid (K1.out.on b2)
    have B2 := Lib.hid (next B1.out b2)
    have Q2 := Lib.hid (Q1.out.on b2)
    clear b2 K1 Q1 k0 k1 k2 k3 k4 k5
    go_wp2_with fail
    refine (specValidPacket_any kd fa fp ta tp _ n n xs _ hn (by omega) r2).mono ?_
    rintro e w3 ⟨rfl, b3⟩
    have K3 := Lib.hid (K2.out.on b3)
    have B3 := Lib.hid (next B2.out b3)
    have Q3 := Lib.hid (Q2.out.on b3)
    clear b3 K2 Q2 r2
    obtain ⟨⟨k0, k1, k2, k3, k4, k5⟩, -⟩ := K3.out
    go_wp2_with fail
    refine (toPacket_any kd fa fp ta tp A n c xs _ hn (by omega) Q3.out).mono ?_
    rintro e w4 ⟨g4, rfl, r4, b4⟩
    have hb4 := (Below.refl w4.heap.size w4).alloc (Nat.le_refl _) (.cells #[.int .i64 kd, .int .i64 fa, .int .i64 fp, .int .i64 ta, .int .i64 tp, .slice (some ⟨g4, 0, none⟩) n n] 27)
    have K4 := Lib.hid ((K3.out.on b4).on hb4)
    have B4 := Lib.hid (next (next B3.out b4) hb4)
    have Q4 := Lib.hid ((Q3.out.on b4).on hb4)
    have R4 := Lib.hid (r4.on hb4)
    have L4 := Lib.hid (PBox.new_at w4 w4.heap.size rfl 27 kd fa fp ta tp (some ⟨g4, 0, none⟩) n n)
    clear b4 hb4 K3 Q3 r4 k0 k1 k2 k3 k4 k5
    go_wp2_with fail
    refine (ValidPacket_any kd fa fp ta tp _ n n xs _ hn (by omega) R4.out).mono ?_
    rintro e w5 ⟨rfl, b5⟩
    have K5 := Lib.hid (K4.out.on b5)
    have L5 := Lib.hid (L4.out.on b5)
    have B5 := Lib.hid (next B4.out b5)
    have Q5 := Lib.hid (Q4.out.on b5)
    have R5 := Lib.hid (R4.out.on b5)
    clear b5 K4 L4 Q4 R4
    obtain ⟨⟨k0, k1, k2, k3, k4, k5⟩, -⟩ := K5.out
    obtain ⟨⟨l0, l1, l2, l3, l4, l5⟩, -⟩ := L5.out
    have bd : Below w5.heap.size w5 w5.drew := (Below.refl _ _).drew
    have K6 := Lib.hid (K5.out.on bd)
    have L6 := Lib.hid (L5.out.on bd)
    have B6 := Lib.hid (next B5.out bd)
    have Q6 := Lib.hid (Q5.out.on bd)
    have R6 := Lib.hid (R5.out.on bd)
    clear bd
    go_wp2
    go_region_held3 (fun w' => w'.cell? ⟨w4.heap.size, 0, none⟩ = some (.int .i64 kd) ∧ w'.cell? ⟨w4.heap.size, 1, none⟩ = some (.int .i64 fa) ∧ w'.cell? ⟨w4.heap.size, 2, none⟩ = some (.int .i64 fp) ∧ w'.cell? ⟨w4.heap.size, 3, none⟩ = some (.int .i64 ta) ∧ w'.cell? ⟨w4.heap.size, 4, none⟩ = some (.int .i64 tp) ∧ w'.cell? ⟨w4.heap.size, 5, none⟩ = some (.slice (some ⟨g4, 0, none⟩) n n) ∧
        w'.cell? ⟨w.heap.size, 0, none⟩ = some (.int .i64 kd) ∧ w'.cell? ⟨w.heap.size, 1, none⟩ = some (.int .i64 fa) ∧ w'.cell? ⟨w.heap.size, 2, none⟩ = some (.int .i64 fp) ∧ w'.cell? ⟨w.heap.size, 3, none⟩ = some (.int .i64 ta) ∧ w'.cell? ⟨w.heap.size, 4, none⟩ = some (.int .i64 tp) ∧ w'.cell? ⟨w.heap.size, 5, none⟩ = some (.slice A n c)) (go_keep)
      (first
      | (go_at_call 11; refine (toPacket_any kd fa fp ta tp A n c xs _ hn (by omega) Q6.out).mono ?_; rintro e w7 ⟨g7, rfl, r7, b7⟩; have B7 := Lib.hid (next B6.out b7); have R7 := Lib.hid (R6.out.on b7); obtain ⟨⟨k0, k1, k2, k3, k4, k5⟩, -⟩ := K6.out.on b7; obtain ⟨⟨l0, l1, l2, l3, l4, l5⟩, -⟩ := L6.out.on b7)
      | (go_at_call 12; refine (eqPacket_same kd fa fp ta tp _ _ n n n _ _ xs _ hn (by omega) (Nat.le_refl _) (Nat.le_refl _) R7.out r7).mono ?_; rintro e w8 ⟨rfl, b8⟩; have B8 := Lib.hid (next B7.out b8); obtain ⟨⟨k0, k1, k2, k3, k4, k5⟩, -⟩ := (K6.out.on b7).on b8; obtain ⟨⟨l0, l1, l2, l3, l4, l5⟩, -⟩ := (L6.out.on b7).on b8))
    all_goals go_wp2
    all_goals go_ret
    all_goals exact ⟨rfl, B8.out⟩
  · rw [if_neg hl]
    clear K1 Q1
    go_wp2
    go_ret
    exact ⟨rfl, B1.out⟩

set_option maxRecDepth 100000 in
theorem lifted (os : Os) (started : os.Started) (H : Type) (enc : TypeId × Value → H) :
    ReturnsInHanded {} Try.checked os 4 .any (Rows.fnExactValidPacketSpec.pre6 enc Try.prog Try.f4 Rows.fnExactValidPacketRow.domain false) (Rows.fnExactValidPacketSpec.post enc Try.prog Try.f4 false true false false) := by
  refine returnsInHanded_of_change (C := Try.checked) own started (by kernel_rfl) Try.func4
    (ChangeSpec.witness6 (enc := enc) (C := Try.checked) false ⟨#[], #[.agg #[.int .i64 0, .int .i64 0, .int .i64 0, .int .i64 0, .int .i64 0, .slice none 0 0]], []⟩ 8 (by kernel_rfl) (by kernel_rfl) (by kernel_rfl) (by kernel_rfl)) ?_
  intro W base args ds gs before hval0 hW hcnd _
  have hval : ∀ (j : Nat) t v, Try.f4.params[j]? = some t → args[j]? = some v → Value.okWide Try.prog W .any base t v := hval0
  have hW' := hW
  obtain ⟨p, q, hA0, hV, rfl, hfz, hnd⟩ := hW
  have hA : DataW.TrodAll enc Try.prog W 0 (fun _ => true) true Try.f4.params.toList args.toList ds p := hA0
  rw [Try.params4] at hA hval
  obtain ⟨v0, vs0, d0, ds0, p0, q0, hargs, rfl, rfl, h0, r0⟩ := trodAll_cons hA
  obtain ⟨rfl, rfl, rfl⟩ := trodAll_nil r0
  obtain rfl : args = #[v0] := by cases args; simp_all
  obtain ⟨rfl, rfl⟩ := trodVars_none hV
  have k0 := h0
  have lt0 : ∀ x ∈ p0, x.block < W.heap.size := by obtain ⟨m, hm⟩ := k0; exact DataW.trod_lt m _ _ _ hm
  obtain ⟨kd0, fa0, fp0, ta0, tp0, a0, len0, cap0, xs0, rfl, w0, xl0, lc0, cm0⟩ := open_packet (hval 0 33 v0 rfl rfl) h0
  clear hA0 hval0
  refine (walk kd0 fa0 fp0 ta0 tp0 a0 len0 cap0 xs0 W w0 xl0 lc0 cm0).mono fun e W' ⟨he, bel⟩ => ?_
  subst he
  exact ⟨_, rfl, _, _, _, [], _, [], hW', trodAll_mk1 (shut_bool Try.underlying4 _), (trodAll_cons_mk (Below.trod laidOut (by kernel_rfl) (of_decide_eq_true (by kernel_rfl)) k0 bel lt0) trodAll_mk0), rfl, bel.frame _, fun h => by cases h⟩

theorem over : Rows.fnExactValidPacketRow.holds Try.pinned (OpenSpec.ofChange Rows.fnExactValidPacketSpec) :=
  OpenClaim.holds_of_wide 4 Try.f4 rfl rfl rfl rfl rfl rfl rfl ⟨rfl, rfl, rfl, rfl, rfl⟩ rfl rfl rfl rfl rfl (by kernel_rfl) Try.func4 (by kernel_rfl)
    (of_decide_eq_true (by kernel_rfl)) (by unfold Func.isWrapper; first | (rw [if_pos (by decide +kernel)]; kernel_rfl) | (rw [if_neg (by decide +kernel)]; exact ⟨rfl, rfl⟩))
    (fun os started H enc _ => lifted os started H enc)

theorem proved : Rows.FnExactValidPacketSaid := over
#print axioms proved
end Go.Proofs.Ytogoeehkpebhaaa.fnExactValidPacket
