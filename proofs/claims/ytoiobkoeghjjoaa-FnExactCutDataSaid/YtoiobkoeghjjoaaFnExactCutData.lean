/-
  'FnExactCutData': for every input the law returns true, and each argument reads afterwards as it read before. No condition.
  The frame of the row's step follows the kit's skeleton; the walk is ours.
-/
import Derived.Test.YtoiobkoeghjjoaaLawKit
import Derived.Test.YtoiobkoeghjjoaaPart7
namespace Go.Proofs.Ytoiobkoeghjjoaa.fnExactCutData
open Go.ChangeShapes Go.WideShapes Go.ChangeAt Go.RowKit
set_option linter.unusedVariables false

theorem cutOf_len (xs : List Int) (m : Int) : (cutOf xs m).length ≤ 6 := by
  unfold cutOf
  split
  · rename_i h
    rw [cutK_len]
    simp only [Bool.and_eq_true, decide_eq_true_eq] at h
    exact h.2
  · simp
theorem cutOf_data (xs : List Int) (m : Int) : ∀ p ∈ cutOf xs m, p.2.2.length ≤ 12 := by
  intro p hp
  unfold cutOf at hp
  split at hp
  · rename_i h
    simp only [Bool.and_eq_true, decide_eq_true_eq, okCut] at h
    obtain ⟨k, _, rfl⟩ := List.mem_map.1 hp
    have := inR_iff.1 h.1.1
    simp only [cutP, List.length_take, List.length_drop]
    omega
  · simp at hp
theorem cutOf_get (xs : List Int) (m : Int) : ∀ i, i < (cutOf xs m).length → ((cutOf xs m).getD i dP).2.2.length ≤ 1048576 := fun i hi => by
  have := cutOf_data xs m _ (getP_mem hi)
  omega
theorem lens_of {V : List PV} {xs : List Int} {m : Int} (h : V.map PV.pt = cutOf xs m) : ∀ p ∈ V, p.xs.length ≤ 1000 := fun p hp => by
  have := cutOf_data xs m p.pt (by rw [← h]; exact List.mem_map.2 ⟨p, hp, rfl⟩)
  have e : p.pt.2.2 = p.xs := rfl
  rw [e] at this
  omega

set_option maxHeartbeats 3200000 in
theorem walk (a : Option Addr) (n c : Nat) (xs : List Int) (m : Int) (w : World) (hr : Row .i64 w w.heap.size a xs) (hn : xs.length = n) (wf : ∀ z ∈ xs, (Lit.int .i64 z).wf = true) (lc : n ≤ c) (cm : c ≤ 9223372036854775807) (wm : (Lit.int .i64 m).wf = true) :
    Calls Try.prog 7 #[.slice a n c, .int .i64 m] w fun e w' => e = .returned (.bool true) ∧ Below w.heap.size w w' := by
  by_cases hbig : 1048576 < n
  · have h1 : (1048576 : Int) < (n : Int) := by omega
    go_enter Try.func7, Try.ntmps7
    go_wp2
    go_ret
    exact ⟨rfl, Below.refl _ _⟩
  have hb : n ≤ 1048576 := by omega
  have h1 : ¬ ((1048576 : Int) < (n : Int)) := by omega
  have hl6 := cutOf_len xs m
  have HG := Lib.hid (cutOf_get xs m)
  obtain ⟨L, hL⟩ : ∃ L, L = cutOf xs m := ⟨_, rfl⟩
  rw [← hL] at hl6 HG
  have HL := Lib.hid hL
  have R0 := Lib.hid hr
  clear hL hr wf wm
  go_enter Try.func7, Try.ntmps7
  go_wp2_with fail
  refine (toIntS_any a n c xs _ hn hb R0.out).mono ?_
  rintro e w1 ⟨rfl, m1, b1⟩
  have B1 := Lib.hid b1
  have R1 := Lib.hid (R0.out.on b1)
  have M1 := Lib.hid m1.sees.row
  clear m1 b1
  go_wp2_with fail
  refine (specCutData_any _ n n xs m _ hn (Nat.le_refl _) (by omega) M1.out).mono ?_
  rintro e w2 ⟨A2, n2, c2, V2, rfl, hv2, m2, b2⟩
  have hn2 : n2 = L.length := by rw [← m2.1, HL.out, ← hv2, List.length_map]
  subst hn2
  have B2 := Lib.hid (next B1.out b2)
  have R2 := Lib.hid (R1.out.on b2)
  have z2 := m2.row
  rw [hv2, ← HL.out] at z2
  have Z2 := Lib.hid z2
  clear b2 m2 hv2 z2
  go_wp2_with fail
  refine (toIntS_any a n c xs _ hn hb R2.out).mono ?_
  rintro e w3 ⟨rfl, m3, b3⟩
  have s3 := b3.size
  have x3 := m3.lt rfl
  have B3 := Lib.hid (next B2.out b3)
  have R3 := Lib.hid (R2.out.on b3)
  have M3 := Lib.hid m3
  have Z3 := Lib.hid (Z2.out.below b3)
  clear m3 b3
  go_wp2_with fail
  refine (CutData_any _ n n xs m _ hn (Nat.le_refl _) (by omega) M3.out.sees.row).mono ?_
  rintro e w4 ⟨A4, n4, c4, V4, rfl, hv4, m4, b4⟩
  have hn4 : n4 = L.length := by rw [← m4.1, HL.out, ← hv4, List.length_map]
  subst hn4
  have s4 := b4.size
  have B4 := Lib.hid (next B3.out b4)
  have R4 := Lib.hid (R3.out.on b4)
  have M4 := Lib.hid (M3.out.below b4)
  have Z4 := Lib.hid (Z3.out.below (b4.mono s3))
  have P4 := Lib.hid m4
  have HV := Lib.hid hv4
  clear m4 b4 hv4
  have q4 := P4.out.row
  rw [HV.out, ← HL.out] at q4
  go_wp2_with fail
  refine (eqPartS_same _ _ _ _ _ L _ rfl (by omega) HG.out q4 (Z4.out.more (by omega))).mono ?_
  rintro e w5 ⟨rfl, b5⟩
  have s5 := b5.size
  have B5 := Lib.hid (next B4.out b5)
  have R5 := Lib.hid (R4.out.on b5)
  have M5 := Lib.hid (M4.out.below b5)
  have Z5 := Lib.hid (Z4.out.below (b5.mono (by omega)))
  have P5 := Lib.hid (P4.out.below b5)
  clear b5 q4
  go_wp2_with fail
  refine (toIntS_any a n c xs _ hn hb R5.out).mono ?_
  rintro e w6 ⟨rfl, m6, b6⟩
  have s6 := b6.size
  have B6 := Lib.hid (next B5.out b6)
  have R6 := Lib.hid (R5.out.on b6)
  have M6 := Lib.hid (M5.out.below b6)
  have Z6 := Lib.hid (Z5.out.below (b6.mono (by omega)))
  have P6 := Lib.hid (P5.out.below b6)
  have N6 := Lib.hid m6.sees.row
  clear b6 m6
  go_wp2_with fail
  refine (eqIntS_same _ _ n _ _ _ _ xs _ hn hb M6.out.sees.row N6.out).mono ?_
  rintro e w7 ⟨rfl, b7⟩
  have s7 := b7.size
  have B7 := Lib.hid (next B6.out b7)
  have R7 := Lib.hid (R6.out.on b7)
  have M7 := Lib.hid (M6.out.below b7)
  have Z7 := Lib.hid (Z6.out.below (b7.mono (by omega)))
  have P7 := Lib.hid (P6.out.below b7)
  clear b7
  go_wp2_with fail
  refine (markIntS_any w2.heap.size 0 n n _ _ 1 _ M7.out hb (by omega) (by omega)).mono ?_
  rintro e w8 ⟨rfl, g8, m8⟩
  have s8 := g8.size
  have xs2 := B2.out.size
  have B8 := Lib.hid (only_below B7.out g8 (by omega) (by omega))
  have R8 := Lib.hid ((R0.out.below B8.out).more (by omega : w.heap.size ≤ w8.heap.size))
  have Z8 := Lib.hid (Z7.out.keep fun b o hb => World.cell?_of_block (a := ⟨b, o, none⟩) (g8.block _ (by show b < _; omega) (fun e => by injection e with e; have e : b = w2.heap.size := e; omega)))
  have P8 := Lib.hid (P7.out.far g8 (by omega))
  have q8 := P8.out.row
  rw [HV.out, ← HL.out] at q8
  have h8 : ¬ (1 + (n : Int) < 0) := by omega
  clear g8 m8
  go_wp2_with fail
  refine (eqPartS_same _ _ _ _ _ L _ rfl (by omega) HG.out q8 (Z8.out.more (by omega))).mono ?_
  rintro e w9 ⟨rfl, b9⟩
  have s9 := b9.size
  have B9 := Lib.hid (next B8.out b9)
  have R9 := Lib.hid (R8.out.on b9)
  have Z9 := Lib.hid (Z8.out.below (b9.mono (by omega)))
  have P9 := Lib.hid (P8.out.below b9)
  clear b9 q8
  go_wp2_with fail
  refine (markPartS_any _ _ _ _ V4 _ P9.out (by omega) (lens_of HV.out)).mono ?_
  rintro e w10 ⟨U, rfl, hU, hUl, mU, b10⟩
  have s10 := b10.size
  have B10 := Lib.hid ((B9.out.trans (b10.mono (by omega))))
  have Z10 := Lib.hid (Z9.out.below (b10.mono (by omega)))
  have P10 := Lib.hid mU
  have HU := Lib.hid hU
  have HUl := Lib.hid hUl
  clear b10 mU hU hUl
  have hk0 := kAt_low U L.length
  go_wp2_with fail
  refine (heldPartS_any _ _ _ _ U _ P10.out HU.out (by omega) HUl.out).mono ?_
  rintro e w11 ⟨rfl, rfl⟩
  have R10 := Lib.hid ((R0.out.below B10.out).more (by omega : w.heap.size ≤ w10.heap.size))
  go_wp2_with fail
  refine (toIntS_any a n c xs _ hn hb R10.out).mono ?_
  rintro e w11 ⟨rfl, m11, b11⟩
  have s11 := b11.size
  have B11 := Lib.hid (next B10.out b11)
  have Z11 := Lib.hid (Z10.out.below (b11.mono (by omega)))
  have P11 := Lib.hid (P10.out.below b11)
  have M11 := Lib.hid m11.sees.row
  clear m11 b11
  go_wp2_with fail
  refine (CutData_any _ n n xs m _ hn (Nat.le_refl _) (by omega) M11.out).mono ?_
  rintro e w12 ⟨A12, n12, c12, V12, rfl, hv12, m12, b12⟩
  have hn12 : n12 = L.length := by rw [← m12.1, HL.out, ← hv12, List.length_map]
  subst hn12
  have s12 := b12.size
  have B12 := Lib.hid (next B11.out b12)
  have Z12 := Lib.hid (Z11.out.below (b12.mono (by omega)))
  have P12 := Lib.hid (P11.out.below b12)
  have q12 := m12.row
  rw [hv12, ← HL.out] at q12
  clear m12 b12 hv12
  go_wp2_with fail
  refine (eqPartS_same _ _ _ _ _ L _ rfl (by omega) HG.out q12 (Z12.out.more (by omega))).mono ?_
  rintro e w13 ⟨rfl, b13⟩
  have B13 := Lib.hid (next B12.out b13)
  have P13 := Lib.hid (P12.out.below b13)
  clear b13 q12
  go_wp2_with fail
  refine (heldPartS_any _ _ _ _ U _ P13.out HU.out (by omega) HUl.out).mono ?_
  rintro e w14 ⟨rfl, rfl⟩
  go_wp2
  go_ret
  exact ⟨rfl, B13.out⟩

set_option maxRecDepth 100000 in
theorem lifted (os : Os) (started : os.Started) (H : Type) (enc : TypeId × Value → H) :
    ReturnsInHanded {} Try.checked os 7 .any (Rows.fnExactCutDataSpec.pre6 enc Try.prog Try.f7 Rows.fnExactCutDataRow.domain false) (Rows.fnExactCutDataSpec.post enc Try.prog Try.f7 false true false false) := by
  refine returnsInHanded_of_change (C := Try.checked) own started (by kernel_rfl) Try.func7
    (ChangeSpec.witness6 (enc := enc) (C := Try.checked) false ⟨#[], #[.slice none 0 0, .int .i64 0], []⟩ 8 (by kernel_rfl) (by kernel_rfl) (by kernel_rfl) (by kernel_rfl)) ?_
  intro W base args ds gs before hval0 hW hcnd _
  have hval : ∀ (j : Nat) t v, Try.f7.params[j]? = some t → args[j]? = some v → Value.okWide Try.prog W .any base t v := hval0
  have hW' := hW
  obtain ⟨p, q, hA0, hV, rfl, hfz, hnd⟩ := hW
  have hA : DataW.TrodAll enc Try.prog W 0 (fun _ => true) true Try.f7.params.toList args.toList ds p := hA0
  rw [Try.params7] at hA hval
  obtain ⟨v0, vs0, d0, ds0, p0, q0, hargs, rfl, rfl, h0, r0⟩ := trodAll_cons hA
  obtain ⟨v1, vs1, d1, ds1, p1, q1, rfl, rfl, rfl, h1, r1⟩ := trodAll_cons r0
  obtain ⟨rfl, rfl, rfl⟩ := trodAll_nil r1
  obtain rfl : args = #[v0, v1] := by cases args; simp_all
  obtain ⟨rfl, rfl⟩ := trodVars_none hV
  have k0 := h0
  have lt0 : ∀ x ∈ p0, x.block < W.heap.size := by obtain ⟨m, hm⟩ := k0; exact DataW.trod_lt m _ _ _ hm
  obtain ⟨a0, len0, cap0, rfl⟩ := okWide_slice Try.underlying32 (hval 0 32 v0 rfl rfl)
  obtain ⟨xs0, w0, xl0, wf0, lc0, cm0⟩ : ∃ xs : List Int, Row .i64 W W.heap.size a0 xs ∧ xs.length = len0 ∧ (∀ n ∈ xs, (Lit.int .i64 n).wf = true) ∧ len0 ≤ cap0 ∧ cap0 ≤ 9223372036854775807 := by
    obtain ⟨fuel, hf⟩ := h0
    rcases open_ints Try.underlying32 Try.underlying3 (by kernel_rfl) hf with ⟨hcs, _⟩ | ⟨x, l, c, zs, hcs, _, hl, hm, hz, _, hcell, hwz⟩
    · simp [Value.cells] at hcs
      obtain ⟨rfl, rfl, rfl⟩ := hcs
      exact ⟨[], Row.nil_, rfl, by simp, by omega, by omega⟩
    · simp [Value.cells] at hcs
      obtain ⟨rfl, rfl, rfl⟩ := hcs
      have hz' : zs.length = cap0 := by simpa using hz
      exact ⟨zs.take len0, row_of (by omega) hcell, by simp; omega, fun n hn => hwz n (List.mem_of_mem_take hn), hl, hm⟩
  have k1 := h1
  have lt1 : ∀ x ∈ p1, x.block < W.heap.size := by obtain ⟨m, hm⟩ := k1; exact DataW.trod_lt m _ _ _ hm
  obtain ⟨a1, rfl, rfl, rfl, wf1⟩ := open_int Try.underlying3 (hval 1 3 v1 rfl rfl) h1
  clear hA0 hval0
  refine (walk a0 len0 cap0 xs0 a1 W w0 xl0 wf0 lc0 cm0 wf1).mono fun e W' ⟨he, bel⟩ => ?_
  subst he
  exact ⟨_, rfl, _, _, _, [], _, [], hW', trodAll_mk1 (shut_bool Try.underlying4 _), (trodAll_cons_mk (Below.trod laidOut (by kernel_rfl) (of_decide_eq_true (by kernel_rfl)) k0 bel lt0) (trodAll_cons_mk (Below.trod laidOut (by kernel_rfl) (of_decide_eq_true (by kernel_rfl)) k1 bel lt1) trodAll_mk0)), rfl, bel.frame _, fun h => by cases h⟩

theorem over : Rows.fnExactCutDataRow.holds Try.pinned (OpenSpec.ofChange Rows.fnExactCutDataSpec) :=
  OpenClaim.holds_of_wide 7 Try.f7 rfl rfl rfl rfl rfl rfl rfl ⟨rfl, rfl, rfl, rfl, rfl⟩ rfl rfl rfl rfl rfl (by kernel_rfl) Try.func7 (by kernel_rfl)
    (of_decide_eq_true (by kernel_rfl)) (by unfold Func.isWrapper; first | (rw [if_pos (by decide +kernel)]; kernel_rfl) | (rw [if_neg (by decide +kernel)]; exact ⟨rfl, rfl⟩))
    (fun os started H enc _ => lifted os started H enc)

theorem proved : Rows.FnExactCutDataSaid := over
#print axioms proved
end Go.Proofs.Ytoiobkoeghjjoaa.fnExactCutData
