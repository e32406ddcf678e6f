/-
  'FnValidParts': for every input the law returns true, and each argument reads afterwards as it read before. No condition.
  The frame of the row's step follows the kit's skeleton; the walk is ours.
-/
import Derived.Test.YtabapkbfolncoaaLawKit
import Derived.Test.YtabapkbfolncoaaJoinL
import Derived.Test.YtabapkbfolncoaaStep
namespace Go.Proofs.Ytabapkbfolncoaa.fnValidParts
open Go.ChangeShapes Go.WideShapes Go.ChangeAt Go.RowKit
set_option linter.unusedVariables false

theorem valid_less {L : List Pt} {k : Nat} (hv : validP L = true) (hk : k < L.length) : validP (L.take k ++ L.drop (k + 1)) = true :=
  validP_sub hv (fun p hp => by
    rcases List.mem_append.1 hp with hp | hp
    · exact List.mem_of_mem_take hp
    · exact List.mem_of_mem_drop hp) (by rw [List.length_append, List.length_take, List.length_drop]; omega)
theorem valid_nil : validP [] = true := by decide

set_option maxRecDepth 100000 in
set_option maxHeartbeats 3200000 in
theorem walk (a : Option Addr) (n c : Nat) (w : World) (w0 : Bytes w a n) (hnc : n ≤ c) (hc : c ≤ 9223372036854775807) :
    Calls Try.prog 6 #[.slice a n c] w fun e w' => e = .returned (.bool true) ∧ Below w.heap.size w w' := by
  by_cases hl : n ≤ 1048576
  · go_enter Try.func6, Try.ntmps6
    go_wp2_with fail
    refine (DrawValidParts_any a n c _ w0 hnc hc).mono ?_
    rintro e w1 ⟨A, m, cap, V, rfl, hm7, hQ, m1, b1⟩
    have R1 := Lib.hid m1.row
    have hmc := m1.2.1.2.1
    have hcm := m1.2.1.2.2.1
    unfold maxLen at hcm
    obtain ⟨L, hL⟩ : ∃ L, L = V.map PV.pt := ⟨_, rfl⟩
    have hLm : L.length = m := by rw [hL, List.length_map]; exact m1.1
    rw [← hL] at R1
    have B1 := Lib.hid b1
    clear w0 hnc hc b1 m1 hQ hL
    go_wp2_with fail
    refine (ValidParts_any A m cap L _ hLm (by omega) R1.out).mono ?_
    rintro e w2 ⟨rfl, b2⟩
    have R2 := Lib.hid (R1.out.on b2)
    have B2 := Lib.hid (next B1.out b2)
    clear b2
    go_wp2_with fail
    refine (specValidParts_any A m cap L _ hLm (by omega) R2.out).mono ?_
    rintro e w3 ⟨rfl, b3⟩
    have R3 := Lib.hid (R2.out.on b3)
    have B3 := Lib.hid (next B2.out b3)
    clear b3
    cases hv : validP L
    · have HV := Lib.hid hv
      clear hv
      go_wp2_with fail
      refine (specValidParts_any A m cap L _ hLm (by omega) R3.out).mono ?_
      rintro e w4 ⟨rfl, b4⟩
      have B4 := Lib.hid (next B3.out b4)
      clear b4
      rw [HV.out]
      go_wp2
      go_ret
      exact ⟨rfl, B4.out⟩
    have HV := Lib.hid hv
    clear hv
    rcases Nat.eq_zero_or_pos m with h0 | h0
    · subst h0
      go_wp2_with fail
      refine (specValidParts_any A 0 cap L _ hLm (by omega) R3.out).mono ?_
      rintro e w4 ⟨rfl, b4⟩
      have B4 := Lib.hid (next B3.out b4)
      clear b4
      rw [HV.out]
      go_wp2
      go_ret
      exact ⟨rfl, B4.out⟩
    have l0 : ((m : Int) == 0) = false := by simp; omega
    have l1 : ¬ ((m : Int) = 0) := by omega
    obtain ⟨k, hk⟩ : ∃ k, k = n % m := ⟨_, rfl⟩
    have hkm : k < m := by rw [hk]; exact Nat.mod_lt _ h0
    have hmod : (n : Int) % (m : Int) = (k : Int) := by rw [hk]; exact (Int.natCast_emod n m).symm
    clear hk
    obtain ⟨U, hU, hsU, hdU⟩ := R3.out.pas
    have hUl : U.length = m := by rw [← hLm, ← hU, List.length_map]
    have HU := Lib.hid hU
    have HD := Lib.hid hdU
    obtain ⟨b, ob, rfl, hbl, -⟩ := R3.out (by omega)
    obtain ⟨i0, hi, hz0, hz1, hz2⟩ := info_parts part_info
    have HI := Lib.hid hi
    have HZ := Lib.hid hz0
    have HS := Lib.hid hz1
    have HY := Lib.hid hz2
    have S1 : Hid (Sees w3 w3.heap.size (some ⟨b, ob, none⟩) ((U.take k).flatMap encA)) := Lib.hid (by rw [← flat_take encA_len U (by omega)]; exact hsU.take _)
    have HL1 : Hid (((U.take k).flatMap encA).length = k * 3) := Lib.hid (by rw [flat_len encA_len, List.length_take]; congr 1; omega)
    obtain ⟨k1, hk1⟩ : ∃ k1, k1 = k + 1 := ⟨_, rfl⟩
    have HK1 := Lib.hid hk1
    have ek : IntKind.i64.wrap ((k : Int) + 1) = (k1 : Int) := by rw [wrap_in (by omega)]; omega
    have l2 : (0 : Int) ≤ (k : Int) := by omega
    have l3 : (k : Int) ≤ (cap : Int) := by omega
    have l4 : (k1 : Int) ≤ (m : Int) := by omega
    have l5 : (0 : Int) ≤ (k1 : Int) := by omega
    have hk1m : k1 ≤ m := by omega
    have hk6 : k ≤ 1000 := by omega
    have hsU' := Lib.hid hsU
    clear hU hsU hdU hi hz0 hz1 hz2 hk1
    by_cases hck : cap = k1
    · obtain rfl : m = k1 := by omega
      subst hck
      have HL2 : Hid (((U.drop cap).flatMap encA).length = 0 * 3) := Lib.hid (by rw [flat_len encA_len, List.length_drop, hUl]; simp)
      have S2 : Hid (Sees w3 w3.heap.size (some ⟨b, ob, none⟩) ((U.drop cap).flatMap encA)) := Lib.hid (by
        have : (U.drop cap).flatMap encA = [] := List.eq_nil_of_length_eq_zero (by rw [HL2.out])
        rw [this]; exact Sees.nil_)
      have HL' : Hid ((L.take k ++ L.drop cap).length = k) := Lib.hid (by rw [List.length_append, List.length_take, List.length_drop, hLm]; omega)
      have HROW : Hid (∀ (w9 : World) (A9 : Option Addr) (c9 : Nat), Below w3.heap.size w3 w9 → w3.heap.size ≤ w9.heap.size → Mine w9 w3.heap.size 3 A9 (k + 0) c9 ((U.take k).flatMap encA ++ (U.drop cap).flatMap encA) → PRow w9 w9.heap.size A9 (L.take k ++ L.drop cap)) := Lib.hid fun w9 A9 c9 hb hs hm => by
        have h1 := hm.sees
        rw [← List.flatMap_append] at h1
        have h2 := PRow.of_pas h1 (fun p hp => by
          have hpU : p ∈ U := by
            rcases List.mem_append.1 hp with hp | hp
            · exact List.mem_of_mem_take hp
            · exact List.mem_of_mem_drop hp
          have h3 := HD.out p hpU
          exact ⟨(h3.1.below hb).more hs, h3.2⟩)
        rw [List.map_append, List.map_take, List.map_drop, HU.out] at h2
        exact h2
      have HV' : Hid (validP (L.take k ++ L.drop cap) = true) := Lib.hid (by rw [HK1.out]; exact valid_less HV.out (by omega))
      go_wp2
      go_region_law (first
      | (refine step_append_mine rfl (.tmp 35) (.tmp 38) 27 rfl w3.heap.size 41 i0 (.agg #[.int .i64 0, .bool false, .slice none 0 0]) 3 40 Try.underlying27 HI.out HZ.out HS.out HY.out rfl (by omega) (some ⟨w3.heap.size, 0, none⟩) 0 0 [] rfl (Mine.empty (Nat.le_refl _) (by simp)) _ _ k cap ((U.take k).flatMap encA) rfl HL1.out (S1.out.alloc (Nat.le_refl _) (.cells #[] 41)) (encA_ones _) (by unfold maxLen; omega) (by omega) (by simp) ?_; intro A8 c8 w8 m8 g8 at8; simp only [Nat.zero_add, List.nil_append] at m8; have M8 := Lib.hid m8; have B8 := Lib.hid (((Below.refl w3.heap.size w3).alloc (Nat.le_refl _) (.cells #[] 41)).drew.grown g8 (by simp) (by simp)); have z8 := B8.out.size; clear m8 g8 at8)
      | (refine step_append_mine rfl (.tmp 39) (.tmp 43) 27 rfl w3.heap.size 41 i0 (.agg #[.int .i64 0, .bool false, .slice none 0 0]) 3 40 Try.underlying27 HI.out HZ.out HS.out HY.out rfl (by omega) A8 k c8 ((U.take k).flatMap encA) rfl M8.out _ (some ⟨b, ob, none⟩) 0 0 ((U.drop cap).flatMap encA) rfl HL2.out (S2.out.below B8.out) (encA_ones _) (by unfold maxLen; omega) (by omega) (by omega) ?_; intro A9 c9 w9 m9 g9 at9; have M9 := Lib.hid m9; have B9 := Lib.hid (B8.out.grown g9 (by omega) (fun j e => (M8.out.lt e).1)); have z9 := B9.out.size; have R9 := Lib.hid (HROW.out w9 A9 c9 B9.out z9 m9); have y9 := m9.2.1; have x9 := m9.2.2.1; unfold maxLen at x9; clear m9 g9 at9)
      | (have B10' := B10; go_simp; go_at_call 29; refine (ValidParts_any none 0 0 [] _ rfl (by omega) PRow.nil_).mono ?_; rintro e w11 ⟨rfl, b11⟩; have B11 := Lib.hid (B10.out.trans (b11.mono B10.out.size)); rw [valid_nil]; clear b11 B10')
      | (go_simp; go_at_call 29; refine (ValidParts_any A9 (k) c9 (L.take k ++ L.drop cap) _ HL'.out (by omega) R9.out).mono ?_; rintro e w10 ⟨rfl, b10⟩; have B10 := Lib.hid (B9.out.trans (b10.mono z9)); rw [HV'.out]; clear b10))
      all_goals (go_wp2; go_ret; exact ⟨rfl, next B3.out B11.out⟩)
    · have S2 : Hid (Sees w3 w3.heap.size (some ⟨b, ob + k1 * 3, none⟩) ((U.drop k1).flatMap encA)) := Lib.hid (by rw [← flat_drop encA_len U (by omega)]; exact hsU'.out.drop _)
      have HL2 : Hid (((U.drop k1).flatMap encA).length = (m - k1) * 3) := Lib.hid (by rw [flat_len encA_len, List.length_drop, hUl])
      have HL' : Hid ((L.take k ++ L.drop k1).length = k + (m - k1)) := Lib.hid (by rw [List.length_append, List.length_take, List.length_drop, hLm]; omega)
      have HROW : Hid (∀ (w9 : World) (A9 : Option Addr) (c9 : Nat), Below w3.heap.size w3 w9 → w3.heap.size ≤ w9.heap.size → Mine w9 w3.heap.size 3 A9 (k + (m - k1)) c9 ((U.take k).flatMap encA ++ (U.drop k1).flatMap encA) → PRow w9 w9.heap.size A9 (L.take k ++ L.drop k1)) := Lib.hid fun w9 A9 c9 hb hs hm => by
        have h1 := hm.sees
        rw [← List.flatMap_append] at h1
        have h2 := PRow.of_pas h1 (fun p hp => by
          have hpU : p ∈ U := by
            rcases List.mem_append.1 hp with hp | hp
            · exact List.mem_of_mem_take hp
            · exact List.mem_of_mem_drop hp
          have h3 := HD.out p hpU
          exact ⟨(h3.1.below hb).more hs, h3.2⟩)
        rw [List.map_append, List.map_take, List.map_drop, HU.out] at h2
        exact h2
      have HV' : Hid (validP (L.take k ++ L.drop k1) = true) := Lib.hid (by rw [HK1.out]; exact valid_less HV.out (by omega))
      go_wp2
      go_region_law (first
      | (refine step_append_mine rfl (.tmp 35) (.tmp 38) 27 rfl w3.heap.size 41 i0 (.agg #[.int .i64 0, .bool false, .slice none 0 0]) 3 40 Try.underlying27 HI.out HZ.out HS.out HY.out rfl (by omega) (some ⟨w3.heap.size, 0, none⟩) 0 0 [] rfl (Mine.empty (Nat.le_refl _) (by simp)) _ _ k cap ((U.take k).flatMap encA) rfl HL1.out (S1.out.alloc (Nat.le_refl _) (.cells #[] 41)) (encA_ones _) (by unfold maxLen; omega) (by omega) (by simp) ?_; intro A8 c8 w8 m8 g8 at8; simp only [Nat.zero_add, List.nil_append] at m8; have M8 := Lib.hid m8; have B8 := Lib.hid (((Below.refl w3.heap.size w3).alloc (Nat.le_refl _) (.cells #[] 41)).drew.grown g8 (by simp) (by simp)); have z8 := B8.out.size; clear m8 g8 at8)
      | (refine step_append_mine rfl (.tmp 39) (.tmp 43) 27 rfl w3.heap.size 41 i0 (.agg #[.int .i64 0, .bool false, .slice none 0 0]) 3 40 Try.underlying27 HI.out HZ.out HS.out HY.out rfl (by omega) A8 k c8 ((U.take k).flatMap encA) rfl M8.out _ (some ⟨b, ob + k1 * 3, none⟩) (m - k1) (cap - k1) ((U.drop k1).flatMap encA) rfl HL2.out (S2.out.below B8.out) (encA_ones _) (by unfold maxLen; omega) (by omega) (by omega) ?_; intro A9 c9 w9 m9 g9 at9; have M9 := Lib.hid m9; have B9 := Lib.hid (B8.out.grown g9 (by omega) (fun j e => (M8.out.lt e).1)); have z9 := B9.out.size; have R9 := Lib.hid (HROW.out w9 A9 c9 B9.out z9 m9); have y9 := m9.2.1; have x9 := m9.2.2.1; unfold maxLen at x9; clear m9 g9 at9)
      | (have B10' := B10; go_simp; go_at_call 29; refine (ValidParts_any none 0 0 [] _ rfl (by omega) PRow.nil_).mono ?_; rintro e w11 ⟨rfl, b11⟩; have B11 := Lib.hid (B10.out.trans (b11.mono B10.out.size)); rw [valid_nil]; clear b11 B10')
      | (go_simp; go_at_call 29; refine (ValidParts_any A9 (k + (m - k1)) c9 (L.take k ++ L.drop k1) _ HL'.out (by omega) R9.out).mono ?_; rintro e w10 ⟨rfl, b10⟩; have B10 := Lib.hid (B9.out.trans (b10.mono z9)); rw [HV'.out]; clear b10))
      all_goals (go_wp2; go_ret; exact ⟨rfl, next B3.out B11.out⟩)
  · go_enter Try.func6, Try.ntmps6
    go_wp2
    go_ret
    exact ⟨rfl, Below.refl _ _⟩

set_option maxRecDepth 100000 in
theorem lifted (os : Os) (started : os.Started) (H : Type) (enc : TypeId × Value → H) :
    ReturnsInHanded {} Try.checked os 6 .any (Rows.fnValidPartsSpec.pre6 enc Try.prog Try.f6 Rows.fnValidPartsRow.domain false) (Rows.fnValidPartsSpec.post enc Try.prog Try.f6 false true false false) := by
  refine returnsInHanded_of_change (C := Try.checked) own started (by kernel_rfl) Try.func6
    (ChangeSpec.witness6 (enc := enc) (C := Try.checked) false ⟨#[], #[.slice none 0 0], []⟩ 8 (by kernel_rfl) (by kernel_rfl) (by kernel_rfl) (by kernel_rfl)) ?_
  intro W base args ds gs before hval0 hW hcnd _
  have hval : ∀ (j : Nat) t v, Try.f6.params[j]? = some t → args[j]? = some v → Value.okWide Try.prog W .any base t v := hval0
  have hW' := hW
  obtain ⟨p, q, hA0, hV, rfl, hfz, hnd⟩ := hW
  have hA : DataW.TrodAll enc Try.prog W 0 (fun _ => true) true Try.f6.params.toList args.toList ds p := hA0
  rw [Try.params6] at hA hval
  obtain ⟨v0, vs0, d0, ds0, p0, q0, hargs, rfl, rfl, h0, r0⟩ := trodAll_cons hA
  obtain ⟨rfl, rfl, rfl⟩ := trodAll_nil r0
  obtain rfl : args = #[v0] := by cases args; simp_all
  obtain ⟨rfl, rfl⟩ := trodVars_none hV
  have k0 := h0
  have lt0 : ∀ x ∈ p0, x.block < W.heap.size := by obtain ⟨m, hm⟩ := k0; exact DataW.trod_lt m _ _ _ hm
  obtain ⟨a0, len0, cap0, rfl⟩ := okWide_slice Try.underlying34 (hval 0 34 v0 rfl rfl)
  obtain ⟨w0, lc0, cm0⟩ : Bytes W a0 len0 ∧ len0 ≤ cap0 ∧ cap0 ≤ 9223372036854775807 := by
    obtain ⟨fuel, hf⟩ := h0
    rcases open_ints Try.underlying34 Try.underlying5 (by kernel_rfl) hf with ⟨hcs, _⟩ | ⟨x, l, c, zs, hcs, _, hl, hm, hz, _, hcell, hwz⟩
    · simp [Value.cells] at hcs
      obtain ⟨rfl, rfl, rfl⟩ := hcs
      exact ⟨fun h => absurd h (by omega), by omega, by omega⟩
    · simp [Value.cells] at hcs
      obtain ⟨rfl, rfl, rfl⟩ := hcs
      have hz' : zs.length = cap0 := by simpa using hz
      exact ⟨bytes_of (by omega) hcell hwz, hl, hm⟩
  clear hA0 hval0
  refine (walk a0 len0 cap0 W w0 lc0 cm0).mono fun e W' ⟨he, bel⟩ => ?_
  subst he
  exact ⟨_, rfl, _, _, _, [], _, [], hW', trodAll_mk1 (shut_bool Try.underlying4 _), (trodAll_cons_mk (Below.trod laidOut (by kernel_rfl) (of_decide_eq_true (by kernel_rfl)) k0 bel lt0) trodAll_mk0), rfl, bel.frame _, fun h => by cases h⟩

theorem over : Rows.fnValidPartsRow.holds Try.pinned (OpenSpec.ofChange Rows.fnValidPartsSpec) :=
  OpenClaim.holds_of_wide 6 Try.f6 rfl rfl rfl rfl rfl rfl rfl ⟨rfl, rfl, rfl, rfl, rfl⟩ rfl rfl rfl rfl rfl (by kernel_rfl) Try.func6 (by kernel_rfl)
    (of_decide_eq_true (by kernel_rfl)) (by unfold Func.isWrapper; first | (rw [if_pos (by decide +kernel)]; kernel_rfl) | (rw [if_neg (by decide +kernel)]; exact ⟨rfl, rfl⟩))
    (fun os started H enc _ => lifted os started H enc)

theorem proved : Rows.FnValidPartsSaid := over
#print axioms proved
end Go.Proofs.Ytabapkbfolncoaa.fnValidParts
