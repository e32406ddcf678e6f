/-
  'FnOverlapOfTwice': for every input the law returns true, and each argument reads afterwards as it read before. No condition.
  The frame of the row's step follows the kit's skeleton; the walk is ours.
-/
import Derived.Test.YtabapkbfolncoaaLawKit
import Derived.Test.YtabapkbfolncoaaJoinL
import Derived.Test.YtabapkbfolncoaaStep
import Derived.Deep.RegionHeldLaw
namespace Go.Proofs.Ytabapkbfolncoaa.fnOverlapOfTwice
open Go.ChangeShapes Go.WideShapes Go.ChangeAt Go.RowKit
set_option linter.unusedVariables false

set_option maxRecDepth 100000 in
set_option maxHeartbeats 3200000 in
theorem walk (a : Option Addr) (n c : Nat) (w : World) (w0 : Bytes w a n) (hnc : n ≤ c) (hc : c ≤ 9223372036854775807) :
    Calls Try.prog 12 #[.slice a n c] w fun e w' => e = .returned (.bool true) ∧ Below w.heap.size w w' := by
  by_cases hl : n ≤ 1048576
  · go_enter Try.func12, Try.ntmps12
    go_wp2_with fail
    refine (DrawOverlapOf_any a n c _ w0 hnc hc).mono ?_
    rintro e w1 ⟨A, m, cap, V, rfl, hm7, hQ, m1, b1⟩
    have R1 := Lib.hid m1.row
    have hmc := m1.2.1.2.1
    have hcm := m1.2.1.2.2.1
    unfold maxLen at hcm
    obtain ⟨L, hL⟩ : ∃ L, L = V.map PV.pt := ⟨_, rfl⟩
    have hLm : L.length = m := by rw [hL, List.length_map]; exact m1.1
    rw [← hL] at R1
    have B1 := Lib.hid b1
    clear w0 hnc hc b1 m1 hQ hL
    go_wp2_with fail
    refine (OverlapOf_any A m cap L _ hLm hmc (by omega) R1.out).mono ?_
    rintro e w2 ⟨rfl, b2⟩
    have R2 := Lib.hid (R1.out.on b2)
    have B2 := Lib.hid (next B1.out b2)
    clear b2
    go_wp2_with fail
    refine (specOverlapOf_any A m cap L _ hLm (by omega) R2.out).mono ?_
    rintro e w3 ⟨rfl, b3⟩
    have R3 := Lib.hid (R2.out.on b3)
    have B3 := Lib.hid (next B2.out b3)
    clear b3
    rcases Nat.eq_zero_or_pos m with h0 | h0
    · subst h0
      go_wp2_with fail
      refine (specOverlapOf_any A 0 cap L _ hLm (by omega) R3.out).mono ?_
      rintro e w4 ⟨rfl, b4⟩
      have B4 := Lib.hid (next B3.out b4)
      go_wp2
      go_ret
      exact ⟨ret_bool (by simp), B4.out⟩
    have l0 : ((m : Int) == 0) = false := by simp; omega
    have l1 : ¬ ((m : Int) = 0) := by omega
    by_cases h6 : m = 6
    · subst h6
      go_wp2_with fail
      refine (specOverlapOf_any A 6 cap L _ hLm (by omega) R3.out).mono ?_
      rintro e w4 ⟨rfl, b4⟩
      have B4 := Lib.hid (next B3.out b4)
      go_wp2
      go_ret
      exact ⟨ret_bool (by simp), B4.out⟩
    have l2 : ((m : Int) == 6) = false := by simp; omega
    have l3 : ¬ ((m : Int) = 6) := by omega
    go_wp2_with fail
    refine (ValidParts_any A m cap L _ hLm (by omega) R3.out).mono ?_
    rintro e w4 ⟨rfl, b4⟩
    have R4 := Lib.hid (R3.out.on b4)
    have B4 := Lib.hid (next B3.out b4)
    clear b4
    cases hv : validP L
    · have HV := Lib.hid hv
      clear hv
      go_wp2_with fail
      refine (specOverlapOf_any A m cap L _ hLm (by omega) R4.out).mono ?_
      rintro e w5 ⟨rfl, b5⟩
      have B5 := Lib.hid (next B4.out b5)
      go_wp2
      go_ret
      exact ⟨ret_bool (by simp), B5.out⟩
    have HV := Lib.hid hv
    have hm6 : m < 6 := by have := validP_six hv; omega
    have HTw := Lib.hid (twice_over hv (by omega) (by omega))
    clear hv
    obtain ⟨ov, hov⟩ : ∃ ov, ov = overOf L := ⟨_, rfl⟩
    rw [← hov]
    clear hov
    obtain ⟨U, hU, hsU, hdU⟩ := R4.out.pas
    have hUl : U.length = m := by rw [← hLm, ← hU, List.length_map]
    have HU := Lib.hid hU
    have HD := Lib.hid hdU
    have HSU := Lib.hid hsU
    obtain ⟨b, ob, rfl, hbl, hcells⟩ : ∃ b ob, A = some ⟨b, ob, none⟩ ∧ b < w4.heap.size ∧ w4.cell? ⟨b, ob, none⟩ = some (.int .i64 (U.getD 0 default).pos) ∧ w4.cell? ⟨b, ob + 1, none⟩ = some (.bool (U.getD 0 default).more) ∧ w4.cell? ⟨b, ob + 2, none⟩ = some (.slice (U.getD 0 default).adr (U.getD 0 default).xs.length (U.getD 0 default).cap) := by
      obtain ⟨b, ob, e, hb, hi⟩ := Sees.elems encA_len (by decide) hsU default (by omega)
      refine ⟨b, ob, e, hb, ?_, ?_, ?_⟩
      · simpa using hi 0 (by omega) 0 _ rfl
      · simpa using hi 0 (by omega) 1 _ rfl
      · simpa using hi 0 (by omega) 2 _ rfl
    obtain ⟨i0, hi, hz0, hz1, hz2⟩ := info_parts part_info
    have HI := Lib.hid hi
    have HZ := Lib.hid hz0
    have HS := Lib.hid hz1
    have HY := Lib.hid hz2
    have HLU : Hid ((U.flatMap encA).length = m * 3) := Lib.hid (by rw [flat_len encA_len, hUl])
    have hg0 : U.getD 0 default ∈ U := by rw [List.getD_eq_getElem?_getD, List.getElem?_eq_getElem (show 0 < U.length by omega)]; exact List.getElem_mem _
    have hL0 : L.getD 0 dP = (U.getD 0 default).pt := by
      rw [← HU.out, List.getD_eq_getElem?_getD, List.getElem?_map, List.getD_eq_getElem?_getD, List.getElem?_eq_getElem (show 0 < U.length by omega)]; rfl
    obtain ⟨p, hp⟩ : ∃ p, p = U.getD 0 default := ⟨_, rfl⟩
    rw [← hp] at hcells hg0 hL0
    have HG0 := Lib.hid hg0
    rw [hL0] at HTw
    obtain ⟨pt, pm, pa, pl, pc, he, h1, h2, h3, h4, h5⟩ : ∃ (pt : Int) (pm : Bool) (pa : Option Addr) (pl pc : Nat), encA p = [.int .i64 pt, .bool pm, .slice pa pl pc] ∧ p.pos = pt ∧ p.more = pm ∧ p.adr = pa ∧ p.xs.length = pl ∧ p.cap = pc := ⟨_, _, _, _, _, rfl, rfl, rfl, rfl, rfl, rfl⟩
    rw [h1, h2, h3, h4, h5] at hcells
    have HE := Lib.hid he
    obtain ⟨q0, q1, q2⟩ := hcells
    have l4 : (0 : Int) < (m : Int) := by omega
    clear hU hsU hdU hi hz0 hz1 hz2 hp hg0 hL0 he h1 h2 h3 h4 h5
    have BE1 := Lib.hid (((Below.refl w4.heap.size w4).alloc (Nat.le_refl _) (.cells #[] 41)).drew)
    have BE2 := Lib.hid ((((Below.refl w4.heap.size w4).alloc (Nat.le_refl _) (.cells #[] 41)).alloc (by simp) (.cells #[.int .i64 pt, .bool pm, .slice pa pl pc] 41)).drew)
    have BE3 := Lib.hid ((((Below.refl w4.heap.size w4).alloc (Nat.le_refl _) (.cells #[.int .i64 pt, .bool pm, .slice pa pl pc] 41)).alloc (by simp) (.cells #[] 41)).drew)
    have MP2 : Hid (Mine ((w4.alloc (.cells #[] 41)).alloc (.cells #[.int .i64 pt, .bool pm, .slice pa pl pc] 41)).drew (w4.heap.size + 1) 3 (some ⟨w4.heap.size + 1, 0, none⟩) 1 1 [.int .i64 pt, .bool pm, .slice pa pl pc]) := Lib.hid (Mine.new_at (w4.alloc (.cells #[] 41)) (w4.heap.size + 1) (by simp) 41 3 1 #[.int .i64 pt, .bool pm, .slice pa pl pc] rfl (by simp [maxLen]))
    have MP3 : Hid (Mine ((w4.alloc (.cells #[.int .i64 pt, .bool pm, .slice pa pl pc] 41)).alloc (.cells #[] 41)).drew w4.heap.size 3 (some ⟨w4.heap.size, 0, none⟩) 1 1 [.int .i64 pt, .bool pm, .slice pa pl pc]) := Lib.hid ((Mine.new_at w4 w4.heap.size rfl 41 3 1 #[.int .i64 pt, .bool pm, .slice pa pl pc] rfl (by simp [maxLen])).alloc (.cells #[] 41))
    have HROW : Hid (∀ (w9 : World) (A9 : Option Addr) (c9 : Nat), Below w4.heap.size w4 w9 → w4.heap.size ≤ w9.heap.size → Mine w9 w4.heap.size 3 A9 (m + 1) c9 (U.flatMap encA ++ [.int .i64 pt, .bool pm, .slice pa pl pc]) → PRow w9 w9.heap.size A9 (L ++ [p.pt])) := Lib.hid fun w9 A9 c9 hb hs hm => by
      have h1 := hm.sees
      rw [← HE.out, show encA p = [p].flatMap encA by simp, ← List.flatMap_append] at h1
      have h2 := PRow.of_pas h1 (fun q hq => by
        have hqU : q ∈ U := by
          rcases List.mem_append.1 hq with hq | hq
          · exact hq
          · simp only [List.mem_singleton] at hq; rw [hq]; exact HG0.out
        have h3 := HD.out q hqU
        exact ⟨(h3.1.below hb).more hs, h3.2⟩)
      rw [List.map_append, HU.out] at h2
      exact h2
    have HL' : Hid ((L ++ [p.pt]).length = m + 1) := Lib.hid (by simp [hLm])
    go_wp2
    go_region_held_law (fun w' => w'.cell? ⟨b, ob, none⟩ = some (.int .i64 pt) ∧ w'.cell? ⟨b, ob + 1, none⟩ = some (.bool pm) ∧ w'.cell? ⟨b, ob + 2, none⟩ = some (.slice pa pl pc)) (first | exact ⟨q0, q1, q2⟩ | exact ⟨p0, p1, p2⟩ | exact ⟨s0, s1, s2⟩ | go_keep) (first
      | (refine step_append_mine (w := (w4.alloc (.cells #[] 41)).drew) rfl (.tmp 38) (.tmp 39) 27 rfl w4.heap.size 41 i0 (.agg #[.int .i64 0, .bool false, .slice none 0 0]) 3 40 Try.underlying27 HI.out HZ.out HS.out HY.out rfl (by omega) (some ⟨w4.heap.size, 0, none⟩) 0 0 [] rfl (Mine.empty (by omega) (by simp; try omega)) _ _ m cap (U.flatMap encA) rfl HLU.out (HSU.out.below BE1.out) (encA_ones _) (by unfold maxLen; omega) (by omega) (by simp; try omega) ?_; intro A8 c8 w8 m8 g8 at8; simp only [List.nil_append] at m8; have M8z := Lib.hid m8; simp only [Nat.zero_add] at m8; have M8 := Lib.hid m8; have B8 := Lib.hid (BE1.out.grown g8 (by simp; try omega) (by intro j hj; simp at hj; omega)); have z8 := B8.out.size; have p0 := (B8.out.cell (p := ⟨b, ob, none⟩) hbl).trans q0; have p1 := (B8.out.cell (p := ⟨b, ob + 1, none⟩) hbl).trans q1; have p2 := (B8.out.cell (p := ⟨b, ob + 2, none⟩) hbl).trans q2;  clear m8 g8 at8)
      | (refine step_append_mine (w := ((w4.alloc (.cells #[] 41)).alloc (.cells #[.int .i64 pt, .bool pm, .slice pa pl pc] 41)).drew) rfl (.tmp 38) (.tmp 39) 27 rfl w4.heap.size 41 i0 (.agg #[.int .i64 0, .bool false, .slice none 0 0]) 3 40 Try.underlying27 HI.out HZ.out HS.out HY.out rfl (by omega) (some ⟨w4.heap.size, 0, none⟩) 0 0 [] rfl (Mine.empty (by omega) (by simp; try omega)) _ _ m cap (U.flatMap encA) rfl HLU.out (HSU.out.below BE2.out) (encA_ones _) (by unfold maxLen; omega) (by omega) (by simp; try omega) ?_; intro A8 c8 w8 m8 g8 at8; simp only [List.nil_append] at m8; have M8z := Lib.hid m8; simp only [Nat.zero_add] at m8; have M8 := Lib.hid m8; have B8 := Lib.hid (BE2.out.grown g8 (by simp; try omega) (by intro j hj; simp at hj; omega)); have z8 := B8.out.size; have p0 := (B8.out.cell (p := ⟨b, ob, none⟩) hbl).trans q0; have p1 := (B8.out.cell (p := ⟨b, ob + 1, none⟩) hbl).trans q1; have p2 := (B8.out.cell (p := ⟨b, ob + 2, none⟩) hbl).trans q2; have P8 := Lib.hid ((MP2.out.kept g8 (fun g' e e' => by simp at e e'; omega)).sees); clear m8 g8 at8)
      | (refine step_append_mine (w := ((w4.alloc (.cells #[.int .i64 pt, .bool pm, .slice pa pl pc] 41)).alloc (.cells #[] 41)).drew) rfl (.tmp 38) (.tmp 39) 27 rfl w4.heap.size 41 i0 (.agg #[.int .i64 0, .bool false, .slice none 0 0]) 3 40 Try.underlying27 HI.out HZ.out HS.out HY.out rfl (by omega) (some ⟨w4.heap.size + 1, 0, none⟩) 0 0 [] rfl (Mine.empty (by omega) (by simp; try omega)) _ _ m cap (U.flatMap encA) rfl HLU.out (HSU.out.below BE3.out) (encA_ones _) (by unfold maxLen; omega) (by omega) (by simp; try omega) ?_; intro A8 c8 w8 m8 g8 at8; simp only [List.nil_append] at m8; have M8z := Lib.hid m8; simp only [Nat.zero_add] at m8; have M8 := Lib.hid m8; have B8 := Lib.hid (BE3.out.grown g8 (by simp; try omega) (by intro j hj; simp at hj; omega)); have z8 := B8.out.size; have p0 := (B8.out.cell (p := ⟨b, ob, none⟩) hbl).trans q0; have p1 := (B8.out.cell (p := ⟨b, ob + 1, none⟩) hbl).trans q1; have p2 := (B8.out.cell (p := ⟨b, ob + 2, none⟩) hbl).trans q2; have P8 := Lib.hid ((MP3.out.kept g8 (fun g' e e' => by simp at e e'; omega)).sees); clear m8 g8 at8)
      | (have P8' := P8; refine step_append_mine rfl (.tmp 40) (.tmp 44) 27 rfl w4.heap.size 41 i0 (.agg #[.int .i64 0, .bool false, .slice none 0 0]) 3 40 Try.underlying27 HI.out HZ.out HS.out HY.out rfl (by omega) A8 (0 + m) c8 (U.flatMap encA) rfl M8z.out _ _ 1 1 [.int .i64 pt, .bool pm, .slice pa pl pc] rfl rfl P8.out (by simp [Value.oneCell']) (by unfold maxLen; omega) (by omega) (by omega) ?_; clear P8'; intro A9 c9 w9 m9 g9 at9; rw [Nat.zero_add] at m9; have M9 := Lib.hid m9; have B9 := Lib.hid (B8.out.grown g9 (by omega) (fun j e => (M8.out.lt e).1)); have z9 := B9.out.size; have s0 := (B9.out.cell (p := ⟨b, ob, none⟩) hbl).trans q0; have s1 := (B9.out.cell (p := ⟨b, ob + 1, none⟩) hbl).trans q1; have s2 := (B9.out.cell (p := ⟨b, ob + 2, none⟩) hbl).trans q2; have R9 := Lib.hid (HROW.out w9 A9 c9 B9.out z9 m9); have y9 := m9.2.1; have x9 := m9.2.2.1; unfold maxLen at x9; clear m9 g9 at9)
      | (refine step_append_mine (w := w8.alloc (.cells #[.int .i64 pt, .bool pm, .slice pa pl pc] 41)) rfl (.tmp 40) (.tmp 44) 27 rfl w4.heap.size 41 i0 (.agg #[.int .i64 0, .bool false, .slice none 0 0]) 3 40 Try.underlying27 HI.out HZ.out HS.out HY.out rfl (by omega) A8 m c8 (U.flatMap encA) rfl (M8.out.alloc _) _ _ 1 1 [.int .i64 pt, .bool pm, .slice pa pl pc] rfl rfl (Mine.new_at w8 w8.heap.size rfl 41 3 1 #[.int .i64 pt, .bool pm, .slice pa pl pc] rfl (by simp [maxLen])).sees (by simp [Value.oneCell']) (by unfold maxLen; omega) (by omega) (by simp; omega) ?_; intro A9 c9 w9 m9 g9 at9; have M9 := Lib.hid m9; have B9 := Lib.hid ((B8.out.alloc z8 (.cells #[.int .i64 pt, .bool pm, .slice pa pl pc] 41)).grown g9 (by simp; try omega) (fun j e => (M8.out.lt e).1)); have z9 := B9.out.size; have s0 := (B9.out.cell (p := ⟨b, ob, none⟩) hbl).trans q0; have s1 := (B9.out.cell (p := ⟨b, ob + 1, none⟩) hbl).trans q1; have s2 := (B9.out.cell (p := ⟨b, ob + 2, none⟩) hbl).trans q2; have R9 := Lib.hid (HROW.out w9 A9 c9 B9.out z9 m9); have y9 := m9.2.1; have x9 := m9.2.2.1; unfold maxLen at x9; clear m9 g9 at9))
    all_goals
      go_wp2_with fail
      refine (JoinParts_any A9 (m + 1) c9 (L ++ [p.pt]) _ HL'.out y9 (by omega) R9.out).mono ?_
      rw [HTw.out.2]
      rintro e w10 ⟨A10, n10, c10, rfl, h10, m10, b10⟩
      simp only [Option.isSome_none]
      have B10 := Lib.hid (B9.out.trans (b10.mono z9))
      have R10 := Lib.hid (R9.out.on b10)
      have z10 := b10.size
      clear b10 m10 h10
      have ht0 := HTw.out.1
      go_wp2_with fail
      refine (OverlapOf_any A9 (m + 1) c9 (L ++ [p.pt]) _ HL'.out y9 (by omega) R10.out).mono ?_
      rintro e w11 ⟨rfl, b11⟩
      have B11 := Lib.hid (B10.out.trans (b11.mono (by omega)))
      obtain ⟨v, hv⟩ : ∃ v, v = overOf (L ++ [p.pt]) := ⟨_, rfl⟩
      rw [← hv] at ht0 ⊢
      clear hv b11
      go_wp2
      go_ret
      exact ⟨ret_bool (by simp), next B4.out B11.out⟩
  · go_enter Try.func12, Try.ntmps12
    go_wp2
    go_ret
    exact ⟨rfl, Below.refl _ _⟩

set_option maxRecDepth 100000 in
theorem lifted (os : Os) (started : os.Started) (H : Type) (enc : TypeId × Value → H) :
    ReturnsInHanded {} Try.checked os 12 .any (Rows.fnOverlapOfTwiceSpec.pre6 enc Try.prog Try.f12 Rows.fnOverlapOfTwiceRow.domain false) (Rows.fnOverlapOfTwiceSpec.post enc Try.prog Try.f12 false true false false) := by
  refine returnsInHanded_of_change (C := Try.checked) own started (by kernel_rfl) Try.func12
    (ChangeSpec.witness6 (enc := enc) (C := Try.checked) false ⟨#[], #[.slice none 0 0], []⟩ 8 (by kernel_rfl) (by kernel_rfl) (by kernel_rfl) (by kernel_rfl)) ?_
  intro W base args ds gs before hval0 hW hcnd _
  have hval : ∀ (j : Nat) t v, Try.f12.params[j]? = some t → args[j]? = some v → Value.okWide Try.prog W .any base t v := hval0
  have hW' := hW
  obtain ⟨p, q, hA0, hV, rfl, hfz, hnd⟩ := hW
  have hA : DataW.TrodAll enc Try.prog W 0 (fun _ => true) true Try.f12.params.toList args.toList ds p := hA0
  rw [Try.params12] at hA hval
  obtain ⟨v0, vs0, d0, ds0, p0, q0, hargs, rfl, rfl, h0, r0⟩ := trodAll_cons hA
  obtain ⟨rfl, rfl, rfl⟩ := trodAll_nil r0
  obtain rfl : args = #[v0] := by cases args; simp_all
  obtain ⟨rfl, rfl⟩ := trodVars_none hV
  have k0 := h0
  have lt0 : ∀ x ∈ p0, x.block < W.heap.size := by obtain ⟨m, hm⟩ := k0; exact DataW.trod_lt m _ _ _ hm
  obtain ⟨a0, len0, cap0, rfl⟩ := okWide_slice Try.underlying34 (hval 0 34 v0 rfl rfl)
  obtain ⟨w0, lc0, cm0⟩ : Bytes W a0 len0 ∧ len0 ≤ cap0 ∧ cap0 ≤ 9223372036854775807 := by
    obtain ⟨fuel, hf⟩ := h0
    rcases open_ints Try.underlying34 Try.underlying5 (by kernel_rfl) hf with ⟨hcs, _⟩ | ⟨x, l, c, zs, hcs, _, hl, hm, hz, _, hcell, hwz⟩
    · simp [Value.cells] at hcs
      obtain ⟨rfl, rfl, rfl⟩ := hcs
      exact ⟨fun h => absurd h (by omega), by omega, by omega⟩
    · simp [Value.cells] at hcs
      obtain ⟨rfl, rfl, rfl⟩ := hcs
      have hz' : zs.length = cap0 := by simpa using hz
      exact ⟨bytes_of (by omega) hcell hwz, hl, hm⟩
  clear hA0 hval0
  refine (walk a0 len0 cap0 W w0 lc0 cm0).mono fun e W' ⟨he, bel⟩ => ?_
  subst he
  exact ⟨_, rfl, _, _, _, [], _, [], hW', trodAll_mk1 (shut_bool Try.underlying4 _), (trodAll_cons_mk (Below.trod laidOut (by kernel_rfl) (of_decide_eq_true (by kernel_rfl)) k0 bel lt0) trodAll_mk0), rfl, bel.frame _, fun h => by cases h⟩

theorem over : Rows.fnOverlapOfTwiceRow.holds Try.pinned (OpenSpec.ofChange Rows.fnOverlapOfTwiceSpec) :=
  OpenClaim.holds_of_wide 12 Try.f12 rfl rfl rfl rfl rfl rfl rfl ⟨rfl, rfl, rfl, rfl, rfl⟩ rfl rfl rfl rfl rfl (by kernel_rfl) Try.func12 (by kernel_rfl)
    (of_decide_eq_true (by kernel_rfl)) (by unfold Func.isWrapper; first | (rw [if_pos (by decide +kernel)]; kernel_rfl) | (rw [if_neg (by decide +kernel)]; exact ⟨rfl, rfl⟩))
    (fun os started H enc _ => lifted os started H enc)

theorem proved : Rows.FnOverlapOfTwiceSaid := over
#print axioms proved
end Go.Proofs.Ytabapkbfolncoaa.fnOverlapOfTwice
