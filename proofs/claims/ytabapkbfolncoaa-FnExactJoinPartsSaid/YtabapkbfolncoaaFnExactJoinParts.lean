/-
  'FnExactJoinParts': for every input the law returns true, and each argument reads afterwards as it read before. No condition.
  The frame of the row's step follows the kit's skeleton; the walk is ours.
-/
import Derived.Test.YtabapkbfolncoaaLawKit
import Derived.Test.YtabapkbfolncoaaJoinL
import Derived.Test.YtabapkbfolncoaaPart8
import Derived.Test.YtabapkbfolncoaaLawOpen
namespace Go.Proofs.Ytabapkbfolncoaa.fnExactJoinParts
open Go.ChangeShapes Go.WideShapes Go.ChangeAt Go.RowKit
set_option linter.unusedVariables false

theorem imp_bx (A : Option Addr) (n c : Nat) (L : List Pt) (w : World) (bv : Bool) (xs : List Int) (hb : bv = (joinOf L).isSome) (hx : xs = (joinOf L).getD []) (hn : L.length = n) (hnc : n ≤ c) (hm : c ≤ 9223372036854775807) (hr : PRow w w.heap.size A L) :
    Calls Try.prog 18 #[.slice A n c] w fun e w' => ∃ (A' : Option Addr) (n' cap : Nat), e = .returned (.tuple #[.slice A' n' cap, .bool bv]) ∧ xs.length = n' ∧ Mine w' w.heap.size 1 A' n' cap (xs.map (Value.int .i64)) ∧ Below w.heap.size w w' := by
  subst hb; subst hx; exact JoinParts_any A n c L w hn hnc hm hr
theorem spec_bx (A : Option Addr) (n c : Nat) (L : List Pt) (w : World) (bv : Bool) (xs : List Int) (hb : bv = (joinOf L).isSome) (hx : xs = (joinOf L).getD []) (hn : L.length = n) (hm : n ≤ 9223372036854775807) (hr : PRow w w.heap.size A L) :
    Calls Try.prog 16 #[.slice A n c] w fun e w' => ∃ (A' : Option Addr) (n' cap : Nat), e = .returned (.tuple #[.slice A' n' cap, .bool bv]) ∧ xs.length = n' ∧ Mine w' w.heap.size 1 A' n' cap (xs.map (Value.int .i64)) ∧ Below w.heap.size w w' := by
  subst hb; subst hx; exact specJoinParts_any A n c L w hn hm hr

set_option maxHeartbeats 3200000 in
theorem walk (A : Option Addr) (n c : Nat) (L : List Pt) (w : World) (hr : PRow w w.heap.size A L) (hn : L.length = n) (lc : n ≤ c) (cm : c ≤ 9223372036854775807) :
    Calls Try.prog 3 #[.slice A n c] w fun e w' => e = .returned (.bool true) ∧ Below w.heap.size w w' := by
  have R0 := Lib.hid hr
  go_enter Try.func3, Try.ntmps3
  go_wp2_with fail
  refine (szPartS_any A n c L _ hn (by omega) hr).mono ?_
  rintro e w0 ⟨l, rfl, hsm, b0⟩
  have q0 := Lib.hid (hr.on b0)
  have B0 := Lib.hid b0
  have HSM := Lib.hid hsm
  clear hr b0 hsm
  by_cases hl : l < 0
  · go_wp2
    go_ret
    exact ⟨rfl, B0.out⟩
  have ⟨hs1, hs2⟩ := HSM.out (by omega)
  have H2 := Lib.hid hs2
  have hnn : n ≤ 1048576 := by omega
  obtain ⟨bv, hbv⟩ : ∃ bv, bv = (joinOf L).isSome := ⟨_, rfl⟩
  obtain ⟨xs, hxs⟩ : ∃ xs, xs = (joinOf L).getD [] := ⟨_, rfl⟩
  have hxl : xs.length ≤ 1048576 := by rw [hxs]; exact join_len
  have HBv := Lib.hid hbv
  have HXs := Lib.hid hxs
  have hbb : (bv == bv) = true := by simp
  have hbn : (bv != bv) = false := by simp
  clear hs2 hs1 hbv hxs
  go_wp2_with fail
  refine (toPartS_any A n c L _ hn hnn H2.out q0.out).mono ?_
  rintro e w1 ⟨V1, rfl, hv1, m1, b1⟩
  have q1 := Lib.hid (q0.out.on b1)
  have B1 := Lib.hid (next B0.out b1)
  have r1 := m1.row
  rw [hv1] at r1
  have z1 := b1.size
  clear q0 b1 hv1 m1
  go_wp2_with fail
  refine (spec_bx _ n n L _ bv xs HBv.out HXs.out hn (by omega) r1).mono ?_
  rintro e w2 ⟨A2, n2, c2, rfl, h2, m2, b2⟩
  have q2 := Lib.hid (q1.out.on b2)
  have B2 := Lib.hid (next B1.out b2)
  have S2 := Lib.hid m2
  have z2 := b2.size
  have x2 : Hid (∀ g, A2.map (·.block) = some g → g < w2.heap.size) := Lib.hid fun g hg => (m2.lt hg).2
  clear q1 b2 r1 m2
  go_wp2_with fail
  refine (toPartS_any A n c L _ hn hnn H2.out q2.out).mono ?_
  rintro e w3 ⟨V3, rfl, hv3, m3, b3⟩
  have B3 := Lib.hid (next B2.out b3)
  have S3 := Lib.hid (S2.out.below b3)
  have P3 := Lib.hid m3
  have HV3 := Lib.hid hv3
  have z3 := b3.size
  have r3 := m3.row
  rw [hv3] at r3
  have HT : Hid (∀ p ∈ V3, p.blk < w3.heap.size) := Lib.hid fun p hp => (m3.2.2.1 p hp).1.lt.2
  have HTA : Hid (∀ g, (some (⟨w2.heap.size, 0, none⟩ : Addr)).map (·.block) = some g → g < w3.heap.size) := Lib.hid fun g hg => (m3.2.1.lt hg).2
  clear q2 b3 hv3 m3 S2
  go_wp2_with fail
  refine (imp_bx _ n n L _ bv xs HBv.out HXs.out hn (Nat.le_refl _) (by omega) r3).mono ?_
  rintro e w4 ⟨A4, n4, c4, rfl, h4, m4, b4⟩
  obtain rfl : n4 = n2 := by omega
  have r4 := r3.on b4
  have B4 := Lib.hid (next B3.out b4)
  have S4 := Lib.hid (S3.out.below b4)
  have P4 := Lib.hid (P3.out.below b4)
  have G4 := Lib.hid m4
  have z4 := b4.size
  clear r3 b4 m4 S3 P3 h4
  go_wp2_with fail
  refine (eqIntS_same A4 A2 n4 c4 c2 _ _ xs _ h2 (by omega) G4.out.sees.row S4.out.sees.row).mono ?_
  rintro e w5 ⟨rfl, b5⟩
  have r5 := r4.on b5
  have B5 := Lib.hid (next B4.out b5)
  have S5 := Lib.hid (S4.out.below b5)
  have P5 := Lib.hid (P4.out.below b5)
  have G5 := Lib.hid (G4.out.below b5)
  have z5 := b5.size
  have R5 := Lib.hid ((R0.out.below B5.out).more B5.out.size)
  clear r4 b5 S4 P4 G4
  go_wp2_with fail
  refine (toPartS_any A n c L _ hn hnn H2.out R5.out).mono ?_
  rintro e w6 ⟨V6, rfl, hv6, m6, b6⟩
  have r6 := r5.on b6
  have B6 := Lib.hid (next B5.out b6)
  have S6 := Lib.hid (S5.out.below b6)
  have P6 := Lib.hid (P5.out.below b6)
  have G6 := Lib.hid (G5.out.below b6)
  have z6 := b6.size
  have t6 := m6.row
  rw [hv6] at t6
  clear r5 b6 S5 P5 G5 R5 hv6 m6
  go_wp2_with fail
  refine (eqPartS_same _ _ n n n L _ hn hnn H2.out r6 t6).mono ?_
  rintro e w7 ⟨rfl, b7⟩
  have B7 := Lib.hid (next B6.out b7)
  have S7 := Lib.hid (S6.out.below b7)
  have P7 := Lib.hid (P6.out.below b7)
  have G7 := Lib.hid (G6.out.below b7)
  have z7 := b7.size
  have HM7 : Hid (∀ p ∈ V3, p.xs.length ≤ 1048576) := Lib.hid fun p hp => by
    have h1 : p.pt ∈ L := by rw [← HV3.out]; exact List.mem_map.2 ⟨p, hp, rfl⟩
    obtain ⟨i, hi, e⟩ := List.getElem_of_mem h1
    have h3 := H2.out i hi
    rw [List.getD_eq_getElem?_getD, List.getElem?_eq_getElem hi, Option.getD_some, e] at h3
    exact h3
  clear r6 t6 b7 S6 P6 G6
  go_wp2_with fail
  refine (markPartS_far _ n n _ w3.heap.size V3 _ P7.out hnn HM7.out HT.out HTA.out).mono ?_
  rintro e w8 ⟨k, rfl, hk, b8, z8, f8⟩
  have zz2 := B2.out.size
  have B8 := Lib.hid (B7.out.trans (b8.mono (by omega)))
  have S8 := Lib.hid (S7.out.low z8 b8 x2.out)
  have G8 := Lib.hid (G7.out.keep z8 (fun g hg => f8 g (G7.out.lt hg).1 (G7.out.lt hg).2))
  have hk0 : ¬ (k < 0) := by omega
  clear b8 f8 S7 P7 G7
  go_wp2_with fail
  refine (eqIntS_same A4 A2 n4 c4 c2 _ _ xs _ h2 (by omega) G8.out.sees.row S8.out.sees.row).mono ?_
  rintro e w9 ⟨rfl, b9⟩
  have B9 := Lib.hid (next B8.out b9)
  have S9 := Lib.hid (S8.out.below b9)
  have G9 := Lib.hid (G8.out.below b9)
  have z9 := b9.size
  clear b9 S8 G8
  go_wp2_with fail
  refine (markIntS_mine A4 n4 c4 _ _ 1 _ G9.out (by omega) (by omega) (by omega)).mono ?_
  rintro e w10 ⟨rfl, b10, z10, m10⟩
  have B10 := Lib.hid (B9.out.trans (b10.mono (by omega)))
  have S10 := Lib.hid (S9.out.low z10 b10 (fun g hg => Nat.lt_of_lt_of_le (x2.out g hg) z3))
  have G10 := Lib.hid m10
  clear b10 m10 S9 G9
  go_wp2_with fail
  refine (heldIntS_mine A4 n4 c4 _ 1 _ G10.out (by omega) (by omega) (by omega)).mono ?_
  rintro e w11 ⟨rfl, rfl⟩
  have hk1 : ¬ ((1 : Int) + (n4 : Int) < 0) := by omega
  have R10 := Lib.hid ((R0.out.below B10.out).more B10.out.size)
  go_wp2_with fail
  refine (toPartS_any A n c L _ hn hnn H2.out R10.out).mono ?_
  rintro e w12 ⟨V12, rfl, hv12, m12, b12⟩
  have B12 := Lib.hid (next B10.out b12)
  have S12 := Lib.hid (S10.out.below b12)
  have G12 := Lib.hid (G10.out.below b12)
  have r12 := m12.row
  rw [hv12] at r12
  clear b12 S10 G10 R10 hv12 m12
  go_wp2_with fail
  refine (imp_bx _ n n L _ bv xs HBv.out HXs.out hn (Nat.le_refl _) (by omega) r12).mono ?_
  rintro e w13 ⟨A13, n13, c13, rfl, h13, m13, b13⟩
  obtain rfl : n13 = n4 := by omega
  have B13 := Lib.hid (next B12.out b13)
  have S13 := Lib.hid (S12.out.below b13)
  have G13 := Lib.hid (G12.out.below b13)
  have W13 := Lib.hid m13
  clear r12 b13 m13 S12 G12 h13
  go_wp2_with fail
  refine (eqIntS_same A13 A2 n13 c13 c2 _ _ xs _ h2 (by omega) W13.out.sees.row S13.out.sees.row).mono ?_
  rintro e w14 ⟨rfl, b14⟩
  have B14 := Lib.hid (next B13.out b14)
  have G14 := Lib.hid (G13.out.below b14)
  clear b14 S13 G13 W13
  go_wp2_with fail
  refine (heldIntS_mine A4 n13 c4 _ 1 _ G14.out (by omega) (by omega) (by omega)).mono ?_
  rintro e w15 ⟨rfl, rfl⟩
  go_wp2
  go_ret
  exact ⟨rfl, B14.out⟩

set_option maxRecDepth 100000 in
theorem lifted (os : Os) (started : os.Started) (H : Type) (enc : TypeId × Value → H) :
    ReturnsInHanded {} Try.checked os 3 .any (Rows.fnExactJoinPartsSpec.pre6 enc Try.prog Try.f3 Rows.fnExactJoinPartsRow.domain false) (Rows.fnExactJoinPartsSpec.post enc Try.prog Try.f3 false true false false) := by
  refine returnsInHanded_of_change (C := Try.checked) own started (by kernel_rfl) Try.func3
    (ChangeSpec.witness6 (enc := enc) (C := Try.checked) false ⟨#[], #[.slice none 0 0], []⟩ 8 (by kernel_rfl) (by kernel_rfl) (by kernel_rfl) (by kernel_rfl)) ?_
  intro W base args ds gs before hval0 hW hcnd _
  have hval : ∀ (j : Nat) t v, Try.f3.params[j]? = some t → args[j]? = some v → Value.okWide Try.prog W .any base t v := hval0
  have hW' := hW
  obtain ⟨p, q, hA0, hV, rfl, hfz, hnd⟩ := hW
  have hA : DataW.TrodAll enc Try.prog W 0 (fun _ => true) true Try.f3.params.toList args.toList ds p := hA0
  rw [Try.params3] at hA hval
  obtain ⟨v0, vs0, d0, ds0, p0, q0, hargs, rfl, rfl, h0, r0⟩ := trodAll_cons hA
  obtain ⟨rfl, rfl, rfl⟩ := trodAll_nil r0
  obtain rfl : args = #[v0] := by cases args; simp_all
  obtain ⟨rfl, rfl⟩ := trodVars_none hV
  have k0 := h0
  have lt0 : ∀ x ∈ p0, x.block < W.heap.size := by obtain ⟨m, hm⟩ := k0; exact DataW.trod_lt m _ _ _ hm
  obtain ⟨a0, len0, cap0, L0, rfl, w0, xl0, lc0, cm0⟩ := open_parts (hval 0 22 v0 rfl rfl) h0
  clear hA0 hval0
  refine (walk a0 len0 cap0 L0 W w0 xl0 lc0 cm0).mono fun e W' ⟨he, bel⟩ => ?_
  subst he
  exact ⟨_, rfl, _, _, _, [], _, [], hW', trodAll_mk1 (shut_bool Try.underlying4 _), (trodAll_cons_mk (Below.trod laidOut (by kernel_rfl) (of_decide_eq_true (by kernel_rfl)) k0 bel lt0) trodAll_mk0), rfl, bel.frame _, fun h => by cases h⟩

theorem over : Rows.fnExactJoinPartsRow.holds Try.pinned (OpenSpec.ofChange Rows.fnExactJoinPartsSpec) :=
  OpenClaim.holds_of_wide 3 Try.f3 rfl rfl rfl rfl rfl rfl rfl ⟨rfl, rfl, rfl, rfl, rfl⟩ rfl rfl rfl rfl rfl (by kernel_rfl) Try.func3 (by kernel_rfl)
    (of_decide_eq_true (by kernel_rfl)) (by unfold Func.isWrapper; first | (rw [if_pos (by decide +kernel)]; kernel_rfl) | (rw [if_neg (by decide +kernel)]; exact ⟨rfl, rfl⟩))
    (fun os started H enc _ => lifted os started H enc)

theorem proved : Rows.FnExactJoinPartsSaid := over
#print axioms proved
end Go.Proofs.Ytabapkbfolncoaa.fnExactJoinParts
