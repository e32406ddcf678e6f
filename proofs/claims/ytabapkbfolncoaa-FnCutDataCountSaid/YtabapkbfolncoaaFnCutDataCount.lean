/-
  'FnCutDataCount': for every input the law returns true, and each argument reads afterwards as it read before. No condition.
  The frame of the row's step follows the kit's skeleton; the walk is ours.
-/
import Derived.Test.YtabapkbfolncoaaLawKit
import Derived.Test.YtabapkbfolncoaaJoinL
namespace Go.Proofs.Ytabapkbfolncoaa.fnCutDataCount
open Go.ChangeShapes Go.WideShapes Go.ChangeAt Go.RowKit
set_option linter.unusedVariables false

set_option maxRecDepth 100000 in
set_option maxHeartbeats 3200000 in
theorem walk (a : Option Addr) (n c : Nat) (w : World) (w0 : Bytes w a n) (hnc : n ≤ c) (hc : c ≤ 9223372036854775807) :
    Calls Try.prog 8 #[.slice a n c] w fun e w' => e = .returned (.bool true) ∧ Below w.heap.size w w' := by
  by_cases hl : n ≤ 1048576
  · go_enter Try.func8, Try.ntmps8
    go_wp2_with fail
    refine (DrawCutData_any a n c _ w0 hnc hc).mono ?_
    rintro e w1 ⟨g, o, k, cap, xs, mo, rfl, hxl, hk14, hQ, hmo, m1, b1⟩
    obtain ⟨mN, rfl⟩ := Int.eq_ofNat_of_zero_le hmo.1
    have hkc := m1.2.1
    have hcm := m1.2.2.1
    unfold maxLen at hcm
    have B1 := Lib.hid b1
    have X1 := Lib.hid m1.sees.row
    clear w0 b1 m1 hQ
    go_wp2_with fail
    refine (CutData_any _ k cap xs mN _ hxl hkc (by omega) X1.out).mono ?_
    rintro e w2 ⟨A2, n2, c2, V2, rfl, hv2, p2, b2⟩
    have B2 := Lib.hid (next B1.out b2)
    have X2 := Lib.hid (X1.out.on b2)
    have hl2 : (cutOf xs mN).length = n2 := by rw [← hv2, List.length_map]; exact p2.1
    have y1 := p2.2.1.2.1
    have y2 := p2.2.1.2.2.1
    unfold maxLen at y2
    have r2 := p2.row
    rw [hv2] at r2
    have R2 := Lib.hid r2
    clear b2 r2 p2
    clear hv2
    go_wp2_with fail
    refine (specCutData_any _ k cap xs mN _ hxl hkc (by omega) X2.out).mono ?_
    rintro e w3 ⟨A3, n3, c3, V3, rfl, hv3, p3, b3⟩
    obtain rfl : n3 = n2 := by rw [← hl2, ← hv3, List.length_map]; exact p3.1.symm
    have B3 := Lib.hid (next B2.out b3)
    have X3 := Lib.hid (X2.out.on b3)
    have R3 := Lib.hid (R2.out.on b3)
    have r3 := p3.row
    rw [hv3] at r3
    have T3 := Lib.hid r3
    clear b3 r3 p3 hv3
    have hn6 : n3 ≤ 6 := by rw [← hl2]; exact cut_len xs mN
    go_wp2_with fail
    refine (equalParts_b A2 A3 n3 c2 c3 _ _ (cutOf xs mN) _ hl2 (by omega) (cut_len6 xs mN) R3.out T3.out).mono ?_
    rintro e w4 ⟨rfl, b4⟩
    have B4 := Lib.hid (next B3.out b4)
    have X4 := Lib.hid (X3.out.on b4)
    have R4 := Lib.hid (R3.out.on b4)
    clear b4
    rcases Nat.eq_zero_or_pos n3 with h0 | h0
    · subst h0
      go_wp2_with fail
      refine (specCutData_any _ k cap xs mN _ hxl hkc (by omega) X4.out).mono ?_
      rintro e w5 ⟨A5, n5, c5, V5, rfl, hv5, p5, b5⟩
      obtain rfl : n5 = 0 := by rw [← hl2, ← hv5, List.length_map]; exact p5.1.symm
      have B5 := Lib.hid (next B4.out b5)
      have R5 := Lib.hid (R4.out.on b5)
      have r5 := p5.row
      rw [hv5] at r5
      have T5 := Lib.hid r5
      clear b5 r5 p5 hv5
      go_wp2_with fail
      refine (equalParts_b A2 A5 0 c2 c5 _ _ (cutOf xs mN) _ hl2 (by omega) (cut_len6 xs mN) R5.out T5.out).mono ?_
      rintro e w6 ⟨rfl, b6⟩
      have B6 := Lib.hid (next B5.out b6)
      clear b6
      go_wp2
      go_ret
      exact ⟨rfl, B6.out⟩
    have l0 : ((n3 : Int) == 0) = false := by simp; omega
    have l1 : ¬ ((n3 : Int) = 0) := by omega
    obtain ⟨hv, hch, hda, hm1, hx1, hcN, -, hge⟩ := cut_all (xs := xs) (m := mN) (by omega)
    have HV := Lib.hid hv
    have HCh := Lib.hid hch
    have HDa := Lib.hid hda
    have HGe := Lib.hid hge
    have hm1' : 1 ≤ mN ∧ mN ≤ 12 := by omega
    have HN : Hid (((k : Int) + (mN : Int) - 1) / (mN : Int) = (n3 : Int)) := Lib.hid (by
      have h1 := cutN_int (xs := xs) mN hm1'.1
      rw [hxl, ← Int.toNat_natCast mN, ← hcN, hl2, Int.toNat_natCast] at h1
      exact h1.symm)
    have HJ := Lib.hid (cut_join (xs := xs) (m := mN) (by omega))
    obtain ⟨L, hL⟩ : ∃ L, L = cutOf xs mN := ⟨_, rfl⟩
    have HL := Lib.hid hL
    rw [← hL] at R4 HV HCh HDa HGe HJ hl2
    clear hv hch hda hm1 hge hcN hL R2 R3 T3 X1 X2 X3 B1 B2 B3
    go_wp2
    go_loopw [6, 7] (fun vn vi wr => ∃ (i d : Nat), i ≤ n3 ∧ vn = .int .i64 d ∧ d = (dataP (L.take i)).length ∧ vi = .int .i64 i ∧ Below w4.heap.size w4 wr) (fun _ vi _ => n3 - (intOf vi).toNat)
    case atStart => exact ⟨0, 0, Nat.zero_le _, rfl, rfl, rfl, Below.refl _ _⟩
    case round =>
      obtain ⟨i, d, hin, rfl, hd, rfl, hB⟩ := hrel
      have BB := Lib.hid hB
      have HD := Lib.hid hd
      have hd9 : d ≤ 12 := by
        have h1 := dataP_len (L.take i) (L.drop i)
        rw [List.take_append_drop, HDa.out] at h1
        omega
      clear hB hd
      by_cases hlt : i < n3
      · obtain ⟨b, ob, rfl, hbl, hcell⟩ := R4.out (by omega)
        obtain ⟨a', c', q0, q1, q2, -, hlc, hcm'⟩ := hcell i (by omega)
        have hp := chain_pos HCh.out i (by omega)
        have hmr := chain_more HCh.out i (by omega)
        rw [Int.zero_add, ← HD.out] at hp
        have HS := Lib.hid (data_succ (L := L) (i := i) (by omega))
        have hlen12 : (L.getD i dP).2.2.length ≤ 12 := by
          have := good_len HV.out (getP_mem (L := L) (i := i) (by omega))
          omega
        obtain ⟨⟨t, mr, ys⟩, hx⟩ : ∃ q, q = L.getD i dP := ⟨_, rfl⟩
        rw [← hx] at q0 q1 q2 hp hmr HS hlen12
        simp only at q0 q1 q2 hp hmr hlen12
        subst hp
        obtain ⟨len, hlen⟩ : ∃ len, len = ys.length := ⟨_, rfl⟩
        have HLn := Lib.hid hlen
        rw [← hlen] at q2 hlen12
        have e0 := (BB.out.cell (p := ⟨b, ob + i * 3, none⟩) hbl).trans q0
        have e1 := (BB.out.cell (p := ⟨b, ob + i * 3 + 1, none⟩) hbl).trans q1
        have e2 := (BB.out.cell (p := ⟨b, ob + i * 3 + 2, none⟩) hbl).trans q2
        have l2 : (i : Int) < (n3 : Int) := by omega
        have l3 : (0 : Int) ≤ (i : Int) := by omega
        clear hx hlen q0 q1 q2 hcell hlc hcm'
        by_cases h9 : i + 1 < n3
        · obtain rfl : mr = true := hmr.trans (decide_eq_true (by omega))
          have l4 : decide ((i : Int) + 1 < (n3 : Int)) = true := decide_eq_true (by omega)
          have l5 : (i : Int) + 1 < (n3 : Int) := by omega
          clear hmr
          go_wp2
          go_roundw
          case rel => exact ⟨i + 1, d + len, by omega, by go_num, by rw [HS.out, ← HD.out, ← HLn.out], by go_num, BB.out⟩
          case measure => simp [intOf]; omega
        · obtain rfl : mr = false := hmr.trans (decide_eq_false (by omega))
          have l4 : decide ((i : Int) + 1 < (n3 : Int)) = false := decide_eq_false (by omega)
          have l5 : ¬ ((i : Int) + 1 < (n3 : Int)) := by omega
          clear hmr
          go_wp2
          go_roundw
          case rel => exact ⟨i + 1, d + len, by omega, by go_num, by rw [HS.out, ← HD.out, ← HLn.out], by go_num, BB.out⟩
          case measure => simp [intOf]; omega
      · obtain rfl : i = n3 := by omega
        obtain rfl : d = k := by rw [HD.out, List.take_of_length_le (by omega), HDa.out, hxl]
        have hq := HN.out
        have l2 : ¬ ((mN : Int) = 0) := by omega
        go_wp2
        go_ret
        exact ⟨ret_bool (by simp), next B4.out BB.out⟩
  · go_enter Try.func8, Try.ntmps8
    go_wp2
    go_ret
    exact ⟨rfl, Below.refl _ _⟩

set_option maxRecDepth 100000 in
theorem lifted (os : Os) (started : os.Started) (H : Type) (enc : TypeId × Value → H) :
    ReturnsInHanded {} Try.checked os 8 .any (Rows.fnCutDataCountSpec.pre6 enc Try.prog Try.f8 Rows.fnCutDataCountRow.domain false) (Rows.fnCutDataCountSpec.post enc Try.prog Try.f8 false true false false) := by
  refine returnsInHanded_of_change (C := Try.checked) own started (by kernel_rfl) Try.func8
    (ChangeSpec.witness6 (enc := enc) (C := Try.checked) false ⟨#[], #[.slice none 0 0], []⟩ 8 (by kernel_rfl) (by kernel_rfl) (by kernel_rfl) (by kernel_rfl)) ?_
  intro W base args ds gs before hval0 hW hcnd _
  have hval : ∀ (j : Nat) t v, Try.f8.params[j]? = some t → args[j]? = some v → Value.okWide Try.prog W .any base t v := hval0
  have hW' := hW
  obtain ⟨p, q, hA0, hV, rfl, hfz, hnd⟩ := hW
  have hA : DataW.TrodAll enc Try.prog W 0 (fun _ => true) true Try.f8.params.toList args.toList ds p := hA0
  rw [Try.params8] at hA hval
  obtain ⟨v0, vs0, d0, ds0, p0, q0, hargs, rfl, rfl, h0, r0⟩ := trodAll_cons hA
  obtain ⟨rfl, rfl, rfl⟩ := trodAll_nil r0
  obtain rfl : args = #[v0] := by cases args; simp_all
  obtain ⟨rfl, rfl⟩ := trodVars_none hV
  have k0 := h0
  have lt0 : ∀ x ∈ p0, x.block < W.heap.size := by obtain ⟨m, hm⟩ := k0; exact DataW.trod_lt m _ _ _ hm
  obtain ⟨a0, len0, cap0, rfl⟩ := okWide_slice Try.underlying34 (hval 0 34 v0 rfl rfl)
  obtain ⟨w0, lc0, cm0⟩ : Bytes W a0 len0 ∧ len0 ≤ cap0 ∧ cap0 ≤ 9223372036854775807 := by
    obtain ⟨fuel, hf⟩ := h0
    rcases open_ints Try.underlying34 Try.underlying5 (by kernel_rfl) hf with ⟨hcs, _⟩ | ⟨x, l, c, zs, hcs, _, hl, hm, hz, _, hcell, hwz⟩
    · simp [Value.cells] at hcs
      obtain ⟨rfl, rfl, rfl⟩ := hcs
      exact ⟨fun h => absurd h (by omega), by omega, by omega⟩
    · simp [Value.cells] at hcs
      obtain ⟨rfl, rfl, rfl⟩ := hcs
      have hz' : zs.length = cap0 := by simpa using hz
      exact ⟨bytes_of (by omega) hcell hwz, hl, hm⟩
  clear hA0 hval0
  refine (walk a0 len0 cap0 W w0 lc0 cm0).mono fun e W' ⟨he, bel⟩ => ?_
  subst he
  exact ⟨_, rfl, _, _, _, [], _, [], hW', trodAll_mk1 (shut_bool Try.underlying4 _), (trodAll_cons_mk (Below.trod laidOut (by kernel_rfl) (of_decide_eq_true (by kernel_rfl)) k0 bel lt0) trodAll_mk0), rfl, bel.frame _, fun h => by cases h⟩

theorem over : Rows.fnCutDataCountRow.holds Try.pinned (OpenSpec.ofChange Rows.fnCutDataCountSpec) :=
  OpenClaim.holds_of_wide 8 Try.f8 rfl rfl rfl rfl rfl rfl rfl ⟨rfl, rfl, rfl, rfl, rfl⟩ rfl rfl rfl rfl rfl (by kernel_rfl) Try.func8 (by kernel_rfl)
    (of_decide_eq_true (by kernel_rfl)) (by unfold Func.isWrapper; first | (rw [if_pos (by decide +kernel)]; kernel_rfl) | (rw [if_neg (by decide +kernel)]; exact ⟨rfl, rfl⟩))
    (fun os started H enc _ => lifted os started H enc)

theorem proved : Rows.FnCutDataCountSaid := over
#print axioms proved
end Go.Proofs.Ytabapkbfolncoaa.fnCutDataCount
