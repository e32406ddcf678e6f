/-
  'FnJoinParts': for every input the law returns true, and each argument reads afterwards as it read before. No condition.
  The frame of the row's step follows the kit's skeleton; the walk is ours.
-/
import Derived.Test.YtabapkbfolncoaaLawKit
import Derived.Test.YtabapkbfolncoaaJoinL
namespace Go.Proofs.Ytabapkbfolncoaa.fnJoinParts
open Go.ChangeShapes Go.WideShapes Go.ChangeAt Go.RowKit
set_option linter.unusedVariables false

theorem bdn {B : Nat} {a w : World} (h : Below B a w) (k : Nat) : Below B a (w.drewN k) := ⟨h.os, h.tape, h.output, h.size, h.block⟩
set_option maxRecDepth 100000 in
set_option maxHeartbeats 3200000 in
theorem walk (a : Option Addr) (n c : Nat) (w : World) (w0 : Bytes w a n) (hnc : n ≤ c) (hc : c ≤ 9223372036854775807) :
    Calls Try.prog 14 #[.slice a n c] w fun e w' => e = .returned (.bool true) ∧ Below w.heap.size w w' := by
  by_cases hl : n ≤ 1048576
  · go_enter Try.func14, Try.ntmps14
    go_wp2_with fail
    refine (DrawJoinParts_any a n c _ w0 hnc hc).mono ?_
    rintro e w1 ⟨A, m, cap, V, rfl, hm7, hQ, m1, b1⟩
    have R1 := Lib.hid m1.row
    have hmc := m1.2.1.2.1
    have hcm := m1.2.1.2.2.1
    unfold maxLen at hcm
    obtain ⟨L, hL⟩ : ∃ L, L = V.map PV.pt := ⟨_, rfl⟩
    have hLm : L.length = m := by rw [hL, List.length_map]; exact m1.1
    rw [← hL] at R1
    have B1 := Lib.hid b1
    clear w0 hnc hc b1 m1 hQ hL
    obtain ⟨r, hr⟩ : ∃ r, r = joinOf L := ⟨_, rfl⟩
    have hrl := join_len (L := L)
    rw [← hr] at hrl
    have HR := Lib.hid hr
    go_wp2_with fail
    refine (JoinParts_any A m cap L _ hLm hmc (by omega) R1.out).mono ?_
    rw [← hr]
    clear hr
    rintro e w2 ⟨A2, n2, c2, rfl, h2, m2, b2⟩
    have R2 := Lib.hid (R1.out.on b2)
    have B2 := Lib.hid (next B1.out b2)
    have M2 := Lib.hid m2
    clear b2 m2
    go_wp2_with fail
    refine (specJoinParts_any A m cap L _ hLm (by omega) R2.out).mono ?_
    rw [← HR.out]
    rintro e w3 ⟨A3, n3, c3, rfl, h3, m3, b3⟩
    obtain rfl : n3 = n2 := by omega
    have R3 := Lib.hid (R2.out.on b3)
    have B3 := Lib.hid (next B2.out b3)
    have M3 := Lib.hid (M2.out.below b3)
    have W3 := Lib.hid m3
    clear b3 m3 h3
    go_wp2_with fail
    refine (equalInts_b A2 A3 n3 c2 c3 _ _ (r.getD []) _ h2 (by omega) M3.out.sees.row W3.out.sees.row).mono ?_
    rintro e w4 ⟨rfl, b4⟩
    have R4 := Lib.hid (R3.out.on b4)
    have B4 := Lib.hid (next B3.out b4)
    have M4 := Lib.hid (M3.out.below b4)
    have W4 := Lib.hid (W3.out.below b4)
    clear b4
    cases r with
    | none =>
      simp only [Option.isSome_none]
      go_wp2_with fail
      refine (equalInts_b A2 A3 n3 c2 c3 _ _ [] _ h2 (by omega) M4.out.sees.row W4.out.sees.row).mono ?_
      rintro e w5 ⟨rfl, b5⟩
      have B5 := Lib.hid (next B4.out b5)
      clear b5
      go_wp2
      go_ret
      exact ⟨ret_bool (by simp), B5.out⟩
    | some xs =>
      simp only [Option.isSome_some]
      obtain ⟨hv, h0, hov, hP, hch, hxs⟩ := joinOf_some HR.out.symm
      have hjc := (join_cut HR.out.symm).1
      have hN : xs.length = n3 := h2
      have HCP : Hid (∀ i, i < m → 1 ≤ (L.getD i dP).2.2.length ∧ 0 ≤ (L.getD i dP).1 ∧ (L.getD i dP).1 + ((L.getD i dP).2.2.length : Int) ≤ (n3 : Int) ∧ (xs.drop (L.getD i dP).1.toNat).take (L.getD i dP).2.2.length = (L.getD i dP).2.2 ∧ (L.getD i dP).2.1 = decide ((L.getD i dP).1 + ((L.getD i dP).2.2.length : Int) < (n3 : Int))) := Lib.hid fun i hi => by
        have h := chain_part hch (fun p hp => (good_len hv (hP.mem_iff.1 hp)).1) (L.getD i dP) (hP.mem_iff.2 (getP_mem (by omega)))
        rw [← hxs, hN, Int.zero_add, Int.sub_zero] at h
        exact ⟨(good_len hv (getP_mem (by omega))).1, h⟩
      have HDL : Hid (∀ i, i < m → (dataP (L.take (i + 1))).length = (dataP (L.take i)).length + (L.getD i dP).2.2.length) := Lib.hid fun i hi => data_succ (by omega)
      have HD9 : Hid ((dataP (L.take m)).length = n3) := Lib.hid (by
        rw [List.take_of_length_le (by omega), ← dataP_perm hP, ← hxs]; exact hN)
      have HDle : Hid (∀ i, (dataP (L.take i)).length ≤ 12) := Lib.hid fun i => by
        have h1 := dataP_len (L.take i) (L.drop i)
        rw [List.take_append_drop, ← dataP_perm hP, ← hxs] at h1
        omega
      clear hv h0 hov hP hch hxs
      obtain ⟨g, o, rfl⟩ := some_of' M4.out (by omega)
      have y1 := M4.out.2.1
      have y2 := M4.out.2.2.1
      unfold maxLen at y2
      have X4 : Hid (Row .i64 w4 w4.heap.size (some ⟨g, o, none⟩) xs) := Lib.hid M4.out.sees.row
      go_wp2
      go_loopw [8, 9] (fun vn vi wr => ∃ (i d : Nat), i ≤ m ∧ vn = .int .i64 d ∧ d = (dataP (L.take i)).length ∧ vi = .int .i64 i ∧ Below w4.heap.size w4 wr) (fun _ vi _ => m - (intOf vi).toNat)
      case atStart => exact ⟨0, 0, Nat.zero_le _, rfl, rfl, rfl, Below.refl _ _⟩
      case round =>
        obtain ⟨i, d, him, rfl, hd, rfl, hB⟩ := hrel
        obtain ⟨wo, rfl⟩ : ∃ wo : World, wo = wr := ⟨_, rfl⟩
        have BB := Lib.hid hB
        have HD := Lib.hid hd
        have hd12 : d ≤ 12 := by rw [hd]; exact HDle.out i
        clear hB hd
        by_cases hlt : i < m
        · obtain ⟨b, ob, rfl, hbl, hcell⟩ := R4.out (by omega)
          obtain ⟨a', c', q0, q1, q2, hrow, hlc, hcm'⟩ := hcell i (by omega)
          obtain ⟨k9, k0, k1, k2, k3⟩ := HCP.out i hlt
          have HS := Lib.hid (HDL.out i hlt)
          obtain ⟨⟨t, mr, ys⟩, hx⟩ : ∃ q, q = L.getD i dP := ⟨_, rfl⟩
          rw [← hx] at q0 q1 q2 hrow hlc k0 k1 k2 k3 k9 HS
          simp only at q0 q1 q2 hrow hlc k0 k1 k2 k3 k9
          obtain ⟨tN, rfl⟩ := Int.eq_ofNat_of_zero_le k0
          rw [Int.toNat_natCast] at k2
          obtain ⟨len, hlen⟩ : ∃ len, len = ys.length := ⟨_, rfl⟩
          have HL := Lib.hid hlen
          rw [← hlen] at q2 hlc k1 k2 k3 k9
          have k1' : tN + len ≤ n3 := by omega
          have e0 := (BB.out.cell (p := ⟨b, ob + i * 3, none⟩) hbl).trans q0
          have e1 := (BB.out.cell (p := ⟨b, ob + i * 3 + 1, none⟩) hbl).trans q1
          have e2 := (BB.out.cell (p := ⟨b, ob + i * 3 + 2, none⟩) hbl).trans q2
          have l1 : (i : Int) < (m : Int) := by omega
          have l2 : (0 : Int) ≤ (i : Int) := by omega
          have HY := Lib.hid ((hrow.below BB.out).more BB.out.size)
          have HO : Hid (Row .i64 wo wo.heap.size (some ⟨g, o + tN, none⟩) ys) := Lib.hid (by
            have := (X4.out.cut tN len).on BB.out
            rw [k2] at this; exact this)
          clear hx hlen q0 q1 q2 hrow hcell k2
          have E : Hid (∀ k j, Calls Try.prog 25 #[.slice (some ⟨g, o + tN, none⟩) len (c2 - tN), .slice a' len c'] (wo.drewN (k + j)) fun e w'' => e = .returned (.bool true) ∧ ∃ m, w'' = wo.drewN (k + m)) := Lib.hid fun k j =>
            (equalInts_same _ a' len _ c' _ _ ys (wo.drewN (k + j)) HL.out.symm (by omega) (HO.out.drewN (k + j)) (HY.out.drewN (k + j))).mono fun _ _ ⟨he, q', hq⟩ => ⟨he, j + q', by rw [hq, World.drewN_drewN, Nat.add_assoc]⟩
          have l10 : ¬ (c2 = tN) := by omega
          have l3 : (0 : Int) ≤ (tN : Int) := by omega
          have l4 : (tN : Int) ≤ (tN : Int) + (len : Int) := by omega
          have l5 : (tN : Int) + (len : Int) ≤ (c2 : Int) := by omega
          have l6 : ¬ ((n3 : Int) < (tN : Int) + (len : Int)) := by omega
          have l7 : decide ((n3 : Int) < (tN : Int) + (len : Int)) = false := decide_eq_false l6
          by_cases h9 : (tN : Int) + (len : Int) < (n3 : Int)
          · have l8 : decide ((tN : Int) + (len : Int) < (n3 : Int)) = true := decide_eq_true h9
            obtain rfl : mr = true := k3.trans l8
            clear k3
            go_wp2
            go_quiet (fail)
            go_wp2
            go_quiet ((go_at_call 25; (exact E.out _ _)))
            clear l3 l4 l5 l6 l7 l8 l10 h9 e0 e1 e2 E
            go_wp2
            go_roundw
            case rel => exact ⟨i + 1, d + len, by omega, by go_num, by rw [HS.out, ← HD.out, ← HL.out], by go_num, bdn BB.out _⟩
            case measure => simp [intOf]; omega
          · have l8 : decide ((tN : Int) + (len : Int) < (n3 : Int)) = false := decide_eq_false h9
            obtain rfl : mr = false := k3.trans l8
            clear k3
            go_wp2
            go_quiet (fail)
            go_wp2
            go_quiet ((go_at_call 25; (exact E.out _ _)))
            clear l3 l4 l5 l6 l7 l8 l10 h9 e0 e1 e2 E
            go_wp2
            go_roundw
            case rel => exact ⟨i + 1, d + len, by omega, by go_num, by rw [HS.out, ← HD.out, ← HL.out], by go_num, bdn BB.out _⟩
            case measure => simp [intOf]; omega
        · obtain rfl : i = m := by omega
          obtain rfl : d = n3 := HD.out.trans HD9.out
          go_wp2
          go_ret
          exact ⟨ret_bool (by simp), next B4.out BB.out⟩
  · go_enter Try.func14, Try.ntmps14
    go_wp2
    go_ret
    exact ⟨rfl, Below.refl _ _⟩

set_option maxRecDepth 100000 in
theorem lifted (os : Os) (started : os.Started) (H : Type) (enc : TypeId × Value → H) :
    ReturnsInHanded {} Try.checked os 14 .any (Rows.fnJoinPartsSpec.pre6 enc Try.prog Try.f14 Rows.fnJoinPartsRow.domain false) (Rows.fnJoinPartsSpec.post enc Try.prog Try.f14 false true false false) := by
  refine returnsInHanded_of_change (C := Try.checked) own started (by kernel_rfl) Try.func14
    (ChangeSpec.witness6 (enc := enc) (C := Try.checked) false ⟨#[], #[.slice none 0 0], []⟩ 8 (by kernel_rfl) (by kernel_rfl) (by kernel_rfl) (by kernel_rfl)) ?_
  intro W base args ds gs before hval0 hW hcnd _
  have hval : ∀ (j : Nat) t v, Try.f14.params[j]? = some t → args[j]? = some v → Value.okWide Try.prog W .any base t v := hval0
  have hW' := hW
  obtain ⟨p, q, hA0, hV, rfl, hfz, hnd⟩ := hW
  have hA : DataW.TrodAll enc Try.prog W 0 (fun _ => true) true Try.f14.params.toList args.toList ds p := hA0
  rw [Try.params14] at hA hval
  obtain ⟨v0, vs0, d0, ds0, p0, q0, hargs, rfl, rfl, h0, r0⟩ := trodAll_cons hA
  obtain ⟨rfl, rfl, rfl⟩ := trodAll_nil r0
  obtain rfl : args = #[v0] := by cases args; simp_all
  obtain ⟨rfl, rfl⟩ := trodVars_none hV
  have k0 := h0
  have lt0 : ∀ x ∈ p0, x.block < W.heap.size := by obtain ⟨m, hm⟩ := k0; exact DataW.trod_lt m _ _ _ hm
  obtain ⟨a0, len0, cap0, rfl⟩ := okWide_slice Try.underlying34 (hval 0 34 v0 rfl rfl)
  obtain ⟨w0, lc0, cm0⟩ : Bytes W a0 len0 ∧ len0 ≤ cap0 ∧ cap0 ≤ 9223372036854775807 := by
    obtain ⟨fuel, hf⟩ := h0
    rcases open_ints Try.underlying34 Try.underlying5 (by kernel_rfl) hf with ⟨hcs, _⟩ | ⟨x, l, c, zs, hcs, _, hl, hm, hz, _, hcell, hwz⟩
    · simp [Value.cells] at hcs
      obtain ⟨rfl, rfl, rfl⟩ := hcs
      exact ⟨fun h => absurd h (by omega), by omega, by omega⟩
    · simp [Value.cells] at hcs
      obtain ⟨rfl, rfl, rfl⟩ := hcs
      have hz' : zs.length = cap0 := by simpa using hz
      exact ⟨bytes_of (by omega) hcell hwz, hl, hm⟩
  clear hA0 hval0
  refine (walk a0 len0 cap0 W w0 lc0 cm0).mono fun e W' ⟨he, bel⟩ => ?_
  subst he
  exact ⟨_, rfl, _, _, _, [], _, [], hW', trodAll_mk1 (shut_bool Try.underlying4 _), (trodAll_cons_mk (Below.trod laidOut (by kernel_rfl) (of_decide_eq_true (by kernel_rfl)) k0 bel lt0) trodAll_mk0), rfl, bel.frame _, fun h => by cases h⟩

theorem over : Rows.fnJoinPartsRow.holds Try.pinned (OpenSpec.ofChange Rows.fnJoinPartsSpec) :=
  OpenClaim.holds_of_wide 14 Try.f14 rfl rfl rfl rfl rfl rfl rfl ⟨rfl, rfl, rfl, rfl, rfl⟩ rfl rfl rfl rfl rfl (by kernel_rfl) Try.func14 (by kernel_rfl)
    (of_decide_eq_true (by kernel_rfl)) (by unfold Func.isWrapper; first | (rw [if_pos (by decide +kernel)]; kernel_rfl) | (rw [if_neg (by decide +kernel)]; exact ⟨rfl, rfl⟩))
    (fun os started H enc _ => lifted os started H enc)

theorem proved : Rows.FnJoinPartsSaid := over
#print axioms proved
end Go.Proofs.Ytabapkbfolncoaa.fnJoinParts
