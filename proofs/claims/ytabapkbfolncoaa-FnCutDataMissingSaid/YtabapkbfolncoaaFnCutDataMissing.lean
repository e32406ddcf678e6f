/-
  'FnCutDataMissing': for every input the law returns true, and each argument reads afterwards as it read before. No condition.
  The frame of the row's step follows the kit's skeleton; the walk is ours.
-/
import Derived.Test.YtabapkbfolncoaaLawKit
import Derived.Test.YtabapkbfolncoaaJoinL
import Derived.Test.YtabapkbfolncoaaStep
namespace Go.Proofs.Ytabapkbfolncoaa.fnCutDataMissing
open Go.ChangeShapes Go.WideShapes Go.ChangeAt Go.RowKit
set_option linter.unusedVariables false

set_option maxRecDepth 100000 in
set_option maxHeartbeats 3200000 in
theorem walk (a : Option Addr) (n c : Nat) (w : World) (w0 : Bytes w a n) (hnc : n ≤ c) (hc : c ≤ 9223372036854775807) :
    Calls Try.prog 13 #[.slice a n c] w fun e w' => e = .returned (.bool true) ∧ Below w.heap.size w w' := by
  by_cases hl : n ≤ 1048576
  · go_enter Try.func13, Try.ntmps13
    go_wp2_with fail
    refine (DrawCutData_any a n c _ w0 hnc hc).mono ?_
    rintro e w1 ⟨g, o, k, cap, xs, mo, rfl, hxl, hk14, hQ, hmo, m1, b1⟩
    obtain ⟨mN, rfl⟩ := Int.eq_ofNat_of_zero_le hmo.1
    have hkc := m1.2.1
    have hcm := m1.2.2.1
    unfold maxLen at hcm
    have B1 := Lib.hid b1
    have X1 := Lib.hid m1.sees.row
    clear w0 b1 m1 hQ
    go_wp2_with fail
    refine (CutData_any _ k cap xs mN _ hxl hkc (by omega) X1.out).mono ?_
    rintro e w2 ⟨A2, n2, c2, V2, rfl, hv2, p2, b2⟩
    have B2 := Lib.hid (next B1.out b2)
    have X2 := Lib.hid (X1.out.on b2)
    have hl2 : (cutOf xs mN).length = n2 := by rw [← hv2, List.length_map]; exact p2.1
    have y1 := p2.2.1.2.1
    have y2 := p2.2.1.2.2.1
    unfold maxLen at y2
    have r2 := p2.row
    rw [hv2] at r2
    have R2 := Lib.hid r2
    clear b2 r2 p2
    clear hv2
    go_wp2_with fail
    refine (specCutData_any _ k cap xs mN _ hxl hkc (by omega) X2.out).mono ?_
    rintro e w3 ⟨A3, n3, c3, V3, rfl, hv3, p3, b3⟩
    obtain rfl : n3 = n2 := by rw [← hl2, ← hv3, List.length_map]; exact p3.1.symm
    have B3 := Lib.hid (next B2.out b3)
    have X3 := Lib.hid (X2.out.on b3)
    have R3 := Lib.hid (R2.out.on b3)
    have r3 := p3.row
    rw [hv3] at r3
    have T3 := Lib.hid r3
    clear b3 r3 p3 hv3
    have hn6 : n3 ≤ 6 := by rw [← hl2]; exact cut_len xs mN
    go_wp2_with fail
    refine (equalParts_b A2 A3 n3 c2 c3 _ _ (cutOf xs mN) _ hl2 (by omega) (cut_len6 xs mN) R3.out T3.out).mono ?_
    rintro e w4 ⟨rfl, b4⟩
    have B4 := Lib.hid (next B3.out b4)
    have X4 := Lib.hid (X3.out.on b4)
    have R4 := Lib.hid (R3.out.on b4)
    clear b4
    rcases Nat.eq_zero_or_pos n3 with h0 | h0
    · subst h0
      go_wp2_with fail
      refine (specCutData_any _ k cap xs mN _ hxl hkc (by omega) X4.out).mono ?_
      rintro e w5 ⟨A5, n5, c5, V5, rfl, hv5, p5, b5⟩
      obtain rfl : n5 = 0 := by rw [← hl2, ← hv5, List.length_map]; exact p5.1.symm
      have B5 := Lib.hid (next B4.out b5)
      have R5 := Lib.hid (R4.out.on b5)
      have r5 := p5.row
      rw [hv5] at r5
      have T5 := Lib.hid r5
      clear b5 r5 p5 hv5
      go_wp2_with fail
      refine (equalParts_b A2 A5 0 c2 c5 _ _ (cutOf xs mN) _ hl2 (by omega) (cut_len6 xs mN) R5.out T5.out).mono ?_
      rintro e w6 ⟨rfl, b6⟩
      have B6 := Lib.hid (next B5.out b6)
      clear b6
      go_wp2
      go_ret
      exact ⟨rfl, B6.out⟩
    have l0 : ((n3 : Int) == 0) = false := by simp; omega
    have l1 : ¬ ((n3 : Int) = 0) := by omega
    obtain ⟨hv, hch, hda, hm1, hx1, hcN, -, hge⟩ := cut_all (xs := xs) (m := mN) (by omega)
    have HV := Lib.hid hv
    have HCh := Lib.hid hch
    have HDa := Lib.hid hda
    have HGe := Lib.hid hge
    have hm1' : 1 ≤ mN ∧ mN ≤ 12 := by omega
    have HN : Hid (((k : Int) + (mN : Int) - 1) / (mN : Int) = (n3 : Int)) := Lib.hid (by
      have h1 := cutN_int (xs := xs) mN hm1'.1
      rw [hxl, ← Int.toNat_natCast mN, ← hcN, hl2, Int.toNat_natCast] at h1
      exact h1.symm)
    have HJ := Lib.hid (cut_join (xs := xs) (m := mN) (by omega))
    obtain ⟨L, hL⟩ : ∃ L, L = cutOf xs mN := ⟨_, rfl⟩
    have HL := Lib.hid hL
    rw [← hL] at R4 HV HCh HDa HGe HJ hl2
    clear hv hch hda hm1 hge hcN hL R2 R3 T3 X1 X2 X3 B1 B2 B3
    obtain ⟨kk, hk⟩ : ∃ kk, kk = n % n3 := ⟨_, rfl⟩
    have hkm : kk < n3 := by rw [hk]; exact Nat.mod_lt _ h0
    have hmod : (n : Int) % (n3 : Int) = (kk : Int) := by rw [hk]; exact (Int.natCast_emod n n3).symm
    clear hk
    have HLess := Lib.hid (miss_less HV.out HCh.out (k := kk) (by omega))
    have HMs : Hid (missOf L = (k : Int)) := Lib.hid (by rw [miss_chain HV.out (List.Perm.refl _) HCh.out, HDa.out, hxl])
    obtain ⟨U, hU, hsU, hdU⟩ := R4.out.pas
    have hUl : U.length = n3 := by rw [← hl2, ← hU, List.length_map]
    have HU := Lib.hid hU
    have HD := Lib.hid hdU
    obtain ⟨b, ob, rfl, hbl, hcells⟩ := R4.out (by omega)
    obtain ⟨i0, hi, hz0, hz1, hz2⟩ := info_parts part_info
    have HI := Lib.hid hi
    have HZ := Lib.hid hz0
    have HS := Lib.hid hz1
    have HY := Lib.hid hz2
    have S1 : Hid (Sees w4 w4.heap.size (some ⟨b, ob, none⟩) ((U.take kk).flatMap encA)) := Lib.hid (by rw [← flat_take encA_len U (by omega)]; exact hsU.take _)
    have HL1 : Hid (((U.take kk).flatMap encA).length = kk * 3) := Lib.hid (by rw [flat_len encA_len, List.length_take]; congr 1; omega)
    obtain ⟨kk1, hk1⟩ : ∃ kk1, kk1 = kk + 1 := ⟨_, rfl⟩
    have HK1 := Lib.hid hk1
    have ek : IntKind.i64.wrap ((kk : Int) + 1) = (kk1 : Int) := by rw [wrap_in (by omega)]; omega
    have l2 : (0 : Int) ≤ (kk : Int) := by omega
    have l3 : (kk : Int) ≤ (c2 : Int) := by omega
    have l4 : (kk1 : Int) ≤ (n3 : Int) := by omega
    have l5 : (0 : Int) ≤ (kk1 : Int) := by omega
    have hk1m : kk1 ≤ n3 := by omega
    have hk6 : kk ≤ 1000 := by omega
    have hsU' := Lib.hid hsU
    clear hU hsU hdU hi hz0 hz1 hz2 hk1
    obtain ⟨t, ht⟩ : ∃ t, t = (L.getD kk dP).1 := ⟨_, rfl⟩
    obtain ⟨-, -, qt, -, -, -, -, -⟩ := hcells kk (by omega)
    rw [← ht] at qt
    rw [← ht] at HLess
    have l9 : (kk : Int) < (n3 : Int) := by omega
    clear ht hcells
    by_cases hck : c2 = kk1
    · obtain rfl : n3 = kk1 := by omega
      subst hck
      have HL2 : Hid (((U.drop c2).flatMap encA).length = 0 * 3) := Lib.hid (by rw [flat_len encA_len, List.length_drop, hUl]; simp)
      have S2 : Hid (Sees w4 w4.heap.size (some ⟨b, ob, none⟩) ((U.drop c2).flatMap encA)) := Lib.hid (by
        have : (U.drop c2).flatMap encA = [] := List.eq_nil_of_length_eq_zero (by rw [HL2.out])
        rw [this]; exact Sees.nil_)
      have HL' : Hid ((L.take kk ++ L.drop c2).length = kk) := Lib.hid (by rw [List.length_append, List.length_take, List.length_drop, hl2]; omega)
      have HROW : Hid (∀ (w9 : World) (A9 : Option Addr) (c9 : Nat), Below w4.heap.size w4 w9 → w4.heap.size ≤ w9.heap.size → Mine w9 w4.heap.size 3 A9 (kk + 0) c9 ((U.take kk).flatMap encA ++ (U.drop c2).flatMap encA) → PRow w9 w9.heap.size A9 (L.take kk ++ L.drop c2)) := Lib.hid fun w9 A9 c9 hb hs hm => by
        have h1 := hm.sees
        rw [← List.flatMap_append] at h1
        have h2 := PRow.of_pas h1 (fun p hp => by
          have hpU : p ∈ U := by
            rcases List.mem_append.1 hp with hp | hp
            · exact List.mem_of_mem_take hp
            · exact List.mem_of_mem_drop hp
          have h3 := HD.out p hpU
          exact ⟨(h3.1.below hb).more hs, h3.2⟩)
        rw [List.map_append, List.map_take, List.map_drop, HU.out] at h2
        exact h2
      have HLs : Hid (missOf (L.take kk ++ L.drop c2) = t ∧ joinOf (L.take kk ++ L.drop c2) = none) := Lib.hid (by rw [HK1.out]; exact HLess.out)
      go_wp2
      go_region_law (first
      | (refine step_append_mine rfl (.tmp 42) (.tmp 45) 27 rfl w4.heap.size 41 i0 (.agg #[.int .i64 0, .bool false, .slice none 0 0]) 3 40 Try.underlying27 HI.out HZ.out HS.out HY.out rfl (by omega) (some ⟨w4.heap.size, 0, none⟩) 0 0 [] rfl (Mine.empty (Nat.le_refl _) (by simp)) _ _ kk c2 ((U.take kk).flatMap encA) rfl HL1.out (S1.out.alloc (Nat.le_refl _) (.cells #[] 41)) (encA_ones _) (by unfold maxLen; omega) (by omega) (by simp) ?_; intro A8 c8 w8 m8 g8 at8; simp only [Nat.zero_add, List.nil_append] at m8; have M8 := Lib.hid m8; have B8 := Lib.hid (((Below.refl w4.heap.size w4).alloc (Nat.le_refl _) (.cells #[] 41)).drew.grown g8 (by simp) (by simp)); have z8 := B8.out.size; clear m8 g8 at8)
      | (refine step_append_mine rfl (.tmp 46) (.tmp 50) 27 rfl w4.heap.size 41 i0 (.agg #[.int .i64 0, .bool false, .slice none 0 0]) 3 40 Try.underlying27 HI.out HZ.out HS.out HY.out rfl (by omega) A8 kk c8 ((U.take kk).flatMap encA) rfl M8.out _ (some ⟨b, ob, none⟩) 0 0 ((U.drop c2).flatMap encA) rfl HL2.out (S2.out.below B8.out) (encA_ones _) (by unfold maxLen; omega) (by omega) (by omega) ?_; intro A9 c9 w9 m9 g9 at9; have M9 := Lib.hid m9; have B9 := Lib.hid (B8.out.grown g9 (by omega) (fun j e => (M8.out.lt e).1)); have z9 := B9.out.size; have R9 := Lib.hid (HROW.out w9 A9 c9 B9.out z9 m9); have y9 := m9.2.1; have x9 := m9.2.2.1; unfold maxLen at x9; clear m9 g9 at9))
      go_wp2_with fail
      refine (JoinParts_any A9 (kk) c9 (L.take kk ++ L.drop c2) _ HL'.out y9 (by omega) R9.out).mono ?_
      rw [HLs.out.2]
      rintro e w10 ⟨A10, n10, c10, rfl, h10, m10, b10⟩
      simp only [Option.isSome_none]
      have B10 := Lib.hid (B9.out.trans (b10.mono z9))
      have R10 := Lib.hid (R9.out.on b10)
      have L10 := Lib.hid ((R4.out.below B10.out).more B10.out.size)
      have qt10 := (B10.out.cell (p := ⟨b, ob + kk * 3, none⟩) hbl).trans qt
      have hb10 : b < w10.heap.size := by have := B10.out.size; omega
      clear b10 m10 h10
      go_wp2
      have H0 := Lib.hid ((Below.refl w10.heap.size w10).drew)
      obtain ⟨S, f, hne, HF, HI'⟩ := cls_of (fun w' => Below w10.heap.size w10 w') (Below.refl w10.heap.size w10)
      have k0 : ∀ z, (f z).cell? ⟨b, ob + kk * 3, none⟩ = some (.int .i64 t) := fun z => ((HF.out z).cell (p := ⟨b, ob + kk * 3, none⟩) hb10).trans qt10
      have c1' : Hid (∀ z, Calls Try.prog 27 #[.slice A9 (kk) c9] (f z) fun e w'' => e = .returned (.int .i64 t) ∧ ∃ y, w'' = f y) := Lib.hid fun z => cls_call (x := z) HI' (fun w' => next (HF.out z)) (by
        have h := MissingFrom_any A9 (kk) c9 (L.take kk ++ L.drop c2) (f z) HL'.out (by omega) ((R10.out.below (HF.out z)).more (HF.out z).size)
        rw [HLs.out.1] at h; exact h)
      have c2' : Hid (∀ z, Calls Try.prog 27 #[.slice (some ⟨b, ob, none⟩) c2 c2] (f z) fun e w'' => e = .returned (.int .i64 (k : Int)) ∧ ∃ y, w'' = f y) := Lib.hid fun z => cls_call (x := z) HI' (fun w' => next (HF.out z)) (by
        have h := MissingFrom_any (some ⟨b, ob, none⟩) c2 c2 L (f z) hl2 (by omega) ((L10.out.below (HF.out z)).more (HF.out z).size)
        rw [HMs.out] at h; exact h)
      refine wp_region_cls f (by kernel_rfl) (by kernel_rfl) (HI'.out _ H0.out) ?_
      repeat (go_big_quiet_step ((first | (go_at_call 27; with_reducible exact c1'.out _) | (go_at_call 27; with_reducible exact c2'.out _))))
      refine wpQuiet_nil ?_
      rintro _ ⟨z, rfl⟩
      have hb2 := HF.out z
      clear k0
      go_wp2
      go_ret
      exact ⟨rfl, next B4.out (B10.out.trans (hb2.mono (B10.out.size)))⟩
    · have S2 : Hid (Sees w4 w4.heap.size (some ⟨b, ob + kk1 * 3, none⟩) ((U.drop kk1).flatMap encA)) := Lib.hid (by rw [← flat_drop encA_len U (by omega)]; exact hsU'.out.drop _)
      have HL2 : Hid (((U.drop kk1).flatMap encA).length = (n3 - kk1) * 3) := Lib.hid (by rw [flat_len encA_len, List.length_drop, hUl])
      have HL' : Hid ((L.take kk ++ L.drop kk1).length = kk + (n3 - kk1)) := Lib.hid (by rw [List.length_append, List.length_take, List.length_drop, hl2]; omega)
      have HROW : Hid (∀ (w9 : World) (A9 : Option Addr) (c9 : Nat), Below w4.heap.size w4 w9 → w4.heap.size ≤ w9.heap.size → Mine w9 w4.heap.size 3 A9 (kk + (n3 - kk1)) c9 ((U.take kk).flatMap encA ++ (U.drop kk1).flatMap encA) → PRow w9 w9.heap.size A9 (L.take kk ++ L.drop kk1)) := Lib.hid fun w9 A9 c9 hb hs hm => by
        have h1 := hm.sees
        rw [← List.flatMap_append] at h1
        have h2 := PRow.of_pas h1 (fun p hp => by
          have hpU : p ∈ U := by
            rcases List.mem_append.1 hp with hp | hp
            · exact List.mem_of_mem_take hp
            · exact List.mem_of_mem_drop hp
          have h3 := HD.out p hpU
          exact ⟨(h3.1.below hb).more hs, h3.2⟩)
        rw [List.map_append, List.map_take, List.map_drop, HU.out] at h2
        exact h2
      have HLs : Hid (missOf (L.take kk ++ L.drop kk1) = t ∧ joinOf (L.take kk ++ L.drop kk1) = none) := Lib.hid (by rw [HK1.out]; exact HLess.out)
      go_wp2
      go_region_law (first
      | (refine step_append_mine rfl (.tmp 42) (.tmp 45) 27 rfl w4.heap.size 41 i0 (.agg #[.int .i64 0, .bool false, .slice none 0 0]) 3 40 Try.underlying27 HI.out HZ.out HS.out HY.out rfl (by omega) (some ⟨w4.heap.size, 0, none⟩) 0 0 [] rfl (Mine.empty (Nat.le_refl _) (by simp)) _ _ kk c2 ((U.take kk).flatMap encA) rfl HL1.out (S1.out.alloc (Nat.le_refl _) (.cells #[] 41)) (encA_ones _) (by unfold maxLen; omega) (by omega) (by simp) ?_; intro A8 c8 w8 m8 g8 at8; simp only [Nat.zero_add, List.nil_append] at m8; have M8 := Lib.hid m8; have B8 := Lib.hid (((Below.refl w4.heap.size w4).alloc (Nat.le_refl _) (.cells #[] 41)).drew.grown g8 (by simp) (by simp)); have z8 := B8.out.size; clear m8 g8 at8)
      | (refine step_append_mine rfl (.tmp 46) (.tmp 50) 27 rfl w4.heap.size 41 i0 (.agg #[.int .i64 0, .bool false, .slice none 0 0]) 3 40 Try.underlying27 HI.out HZ.out HS.out HY.out rfl (by omega) A8 kk c8 ((U.take kk).flatMap encA) rfl M8.out _ (some ⟨b, ob + kk1 * 3, none⟩) (n3 - kk1) (c2 - kk1) ((U.drop kk1).flatMap encA) rfl HL2.out (S2.out.below B8.out) (encA_ones _) (by unfold maxLen; omega) (by omega) (by omega) ?_; intro A9 c9 w9 m9 g9 at9; have M9 := Lib.hid m9; have B9 := Lib.hid (B8.out.grown g9 (by omega) (fun j e => (M8.out.lt e).1)); have z9 := B9.out.size; have R9 := Lib.hid (HROW.out w9 A9 c9 B9.out z9 m9); have y9 := m9.2.1; have x9 := m9.2.2.1; unfold maxLen at x9; clear m9 g9 at9))
      go_wp2_with fail
      refine (JoinParts_any A9 (kk + (n3 - kk1)) c9 (L.take kk ++ L.drop kk1) _ HL'.out y9 (by omega) R9.out).mono ?_
      rw [HLs.out.2]
      rintro e w10 ⟨A10, n10, c10, rfl, h10, m10, b10⟩
      simp only [Option.isSome_none]
      have B10 := Lib.hid (B9.out.trans (b10.mono z9))
      have R10 := Lib.hid (R9.out.on b10)
      have L10 := Lib.hid ((R4.out.below B10.out).more B10.out.size)
      have qt10 := (B10.out.cell (p := ⟨b, ob + kk * 3, none⟩) hbl).trans qt
      have hb10 : b < w10.heap.size := by have := B10.out.size; omega
      clear b10 m10 h10
      go_wp2
      have H0 := Lib.hid ((Below.refl w10.heap.size w10).drew)
      obtain ⟨S, f, hne, HF, HI'⟩ := cls_of (fun w' => Below w10.heap.size w10 w') (Below.refl w10.heap.size w10)
      have k0 : ∀ z, (f z).cell? ⟨b, ob + kk * 3, none⟩ = some (.int .i64 t) := fun z => ((HF.out z).cell (p := ⟨b, ob + kk * 3, none⟩) hb10).trans qt10
      have c1' : Hid (∀ z, Calls Try.prog 27 #[.slice A9 (kk + (n3 - kk1)) c9] (f z) fun e w'' => e = .returned (.int .i64 t) ∧ ∃ y, w'' = f y) := Lib.hid fun z => cls_call (x := z) HI' (fun w' => next (HF.out z)) (by
        have h := MissingFrom_any A9 (kk + (n3 - kk1)) c9 (L.take kk ++ L.drop kk1) (f z) HL'.out (by omega) ((R10.out.below (HF.out z)).more (HF.out z).size)
        rw [HLs.out.1] at h; exact h)
      have c2' : Hid (∀ z, Calls Try.prog 27 #[.slice (some ⟨b, ob, none⟩) n3 c2] (f z) fun e w'' => e = .returned (.int .i64 (k : Int)) ∧ ∃ y, w'' = f y) := Lib.hid fun z => cls_call (x := z) HI' (fun w' => next (HF.out z)) (by
        have h := MissingFrom_any (some ⟨b, ob, none⟩) n3 c2 L (f z) hl2 (by omega) ((L10.out.below (HF.out z)).more (HF.out z).size)
        rw [HMs.out] at h; exact h)
      refine wp_region_cls f (by kernel_rfl) (by kernel_rfl) (HI'.out _ H0.out) ?_
      repeat (go_big_quiet_step ((first | (go_at_call 27; with_reducible exact c1'.out _) | (go_at_call 27; with_reducible exact c2'.out _))))
      refine wpQuiet_nil ?_
      rintro _ ⟨z, rfl⟩
      have hb2 := HF.out z
      clear k0
      go_wp2
      go_ret
      exact ⟨rfl, next B4.out (B10.out.trans (hb2.mono (B10.out.size)))⟩
  · go_enter Try.func13, Try.ntmps13
    go_wp2
    go_ret
    exact ⟨rfl, Below.refl _ _⟩

set_option maxRecDepth 100000 in
theorem lifted (os : Os) (started : os.Started) (H : Type) (enc : TypeId × Value → H) :
    ReturnsInHanded {} Try.checked os 13 .any (Rows.fnCutDataMissingSpec.pre6 enc Try.prog Try.f13 Rows.fnCutDataMissingRow.domain false) (Rows.fnCutDataMissingSpec.post enc Try.prog Try.f13 false true false false) := by
  refine returnsInHanded_of_change (C := Try.checked) own started (by kernel_rfl) Try.func13
    (ChangeSpec.witness6 (enc := enc) (C := Try.checked) false ⟨#[], #[.slice none 0 0], []⟩ 8 (by kernel_rfl) (by kernel_rfl) (by kernel_rfl) (by kernel_rfl)) ?_
  intro W base args ds gs before hval0 hW hcnd _
  have hval : ∀ (j : Nat) t v, Try.f13.params[j]? = some t → args[j]? = some v → Value.okWide Try.prog W .any base t v := hval0
  have hW' := hW
  obtain ⟨p, q, hA0, hV, rfl, hfz, hnd⟩ := hW
  have hA : DataW.TrodAll enc Try.prog W 0 (fun _ => true) true Try.f13.params.toList args.toList ds p := hA0
  rw [Try.params13] at hA hval
  obtain ⟨v0, vs0, d0, ds0, p0, q0, hargs, rfl, rfl, h0, r0⟩ := trodAll_cons hA
  obtain ⟨rfl, rfl, rfl⟩ := trodAll_nil r0
  obtain rfl : args = #[v0] := by cases args; simp_all
  obtain ⟨rfl, rfl⟩ := trodVars_none hV
  have k0 := h0
  have lt0 : ∀ x ∈ p0, x.block < W.heap.size := by obtain ⟨m, hm⟩ := k0; exact DataW.trod_lt m _ _ _ hm
  obtain ⟨a0, len0, cap0, rfl⟩ := okWide_slice Try.underlying34 (hval 0 34 v0 rfl rfl)
  obtain ⟨w0, lc0, cm0⟩ : Bytes W a0 len0 ∧ len0 ≤ cap0 ∧ cap0 ≤ 9223372036854775807 := by
    obtain ⟨fuel, hf⟩ := h0
    rcases open_ints Try.underlying34 Try.underlying5 (by kernel_rfl) hf with ⟨hcs, _⟩ | ⟨x, l, c, zs, hcs, _, hl, hm, hz, _, hcell, hwz⟩
    · simp [Value.cells] at hcs
      obtain ⟨rfl, rfl, rfl⟩ := hcs
      exact ⟨fun h => absurd h (by omega), by omega, by omega⟩
    · simp [Value.cells] at hcs
      obtain ⟨rfl, rfl, rfl⟩ := hcs
      have hz' : zs.length = cap0 := by simpa using hz
      exact ⟨bytes_of (by omega) hcell hwz, hl, hm⟩
  clear hA0 hval0
  refine (walk a0 len0 cap0 W w0 lc0 cm0).mono fun e W' ⟨he, bel⟩ => ?_
  subst he
  exact ⟨_, rfl, _, _, _, [], _, [], hW', trodAll_mk1 (shut_bool Try.underlying4 _), (trodAll_cons_mk (Below.trod laidOut (by kernel_rfl) (of_decide_eq_true (by kernel_rfl)) k0 bel lt0) trodAll_mk0), rfl, bel.frame _, fun h => by cases h⟩

theorem over : Rows.fnCutDataMissingRow.holds Try.pinned (OpenSpec.ofChange Rows.fnCutDataMissingSpec) :=
  OpenClaim.holds_of_wide 13 Try.f13 rfl rfl rfl rfl rfl rfl rfl ⟨rfl, rfl, rfl, rfl, rfl⟩ rfl rfl rfl rfl rfl (by kernel_rfl) Try.func13 (by kernel_rfl)
    (of_decide_eq_true (by kernel_rfl)) (by unfold Func.isWrapper; first | (rw [if_pos (by decide +kernel)]; kernel_rfl) | (rw [if_neg (by decide +kernel)]; exact ⟨rfl, rfl⟩))
    (fun os started H enc _ => lifted os started H enc)

theorem proved : Rows.FnCutDataMissingSaid := over
#print axioms proved
end Go.Proofs.Ytabapkbfolncoaa.fnCutDataMissing
