/-
  The generator's arguments: DrawBestNet. (Written by gendraw6.py.)
-/
import Derived.Test.YtmaecadflilbgaaDrawNet
import Derived.Test.YtmaecadflilbgaaDrawNet2
import Derived.Test.YtmaecadflilbgaaNetT
namespace Go.Proofs.Ytmaecadflilbgaa
open Go.RowKit
attribute [local go_sem ↓] Go.wp_at_zero Go.wp_at_succ

/-- The cells of a list of nets. -/
def netCells (L : List (Int × Int)) : List Value := L.flatMap fun p => [.int .i64 p.1, .int .i64 p.2]
theorem netCells_len (L : List (Int × Int)) : (netCells L).length = L.length * 2 := by
  unfold netCells
  induction L with
  | nil => rfl
  | cons p r ih => simp only [List.flatMap_cons, List.length_append, ih]; simp; omega
theorem netCells_snoc (L : List (Int × Int)) (x y : Int) : netCells (L ++ [(x, y)]) = netCells L ++ [.int .i64 x, .int .i64 y] := by simp [netCells, List.flatMap_append]
theorem netCells_get (L : List (Int × Int)) : ∀ i, i < L.length → (netCells L)[i * 2]? = some (.int .i64 (L.getD i (0, 0)).1) ∧ (netCells L)[i * 2 + 1]? = some (.int .i64 (L.getD i (0, 0)).2) := by
  unfold netCells
  induction L with
  | nil => intro i hi; simp at hi
  | cons p r ih =>
    intro i hi
    cases i with
    | zero => simp
    | succ i =>
      have h := ih i (by simpa using hi)
      simp only [List.flatMap_cons, List.cons_append, List.nil_append, show (i + 1) * 2 = i * 2 + 1 + 1 by omega, List.getElem?_cons_succ, List.getD_cons_succ]
      exact h
theorem netCells_set (L : List (Int × Int)) (x y : Int) : ∀ i, i < L.length → ((netCells L).set (i * 2) (.int .i64 x)).set (i * 2 + 1) (.int .i64 y) = netCells (L.set i (x, y)) := by
  unfold netCells
  induction L with
  | nil => intro i hi; simp at hi
  | cons p r ih =>
    intro i hi
    cases i with
    | zero => simp
    | succ i =>
      have h := ih i (by simpa using hi)
      simp only [List.flatMap_cons, List.cons_append, List.nil_append, show (i + 1) * 2 = i * 2 + 1 + 1 by omega, List.set_cons_succ]
      rw [h]
theorem Mine.nrow {w : World} {base n cap : Nat} {A : Option Addr} {L : List (Int × Int)} (h : Mine w base 2 A n cap (netCells L)) (hn : L.length = n) : NRow w w.heap.size A L := fun h0 => by
  obtain ⟨g, o, rfl⟩ := some_of' h (by omega)
  refine ⟨g, o, rfl, (h.lt rfl).2, fun i hi => ?_⟩
  have e := netCells_get L i hi
  exact ⟨(h.at_ (j := i * 2) (by omega)).trans e.1, by rw [Nat.add_assoc]; exact (h.at_ (j := i * 2 + 1) (by omega)).trans e.2⟩

/-- What DrawBestNet leaves. -/
def DrewBest (w : World) (e : Ending) (w' : World) : Prop :=
  ∃ (g o n cap : Nat) (L : List (Int × Int)) (x : Int), e = .returned (.tuple #[.slice (some ⟨g, o, none⟩) n cap, .int .i64 x]) ∧ L.length = n ∧ n ≤ 9 ∧ Mine w' w.heap.size 2 (some ⟨g, o, none⟩) n cap (netCells L) ∧ Below w.heap.size w w'
theorem DrewBest.mk {w w' : World} {e : Ending} {g o n cap : Nat} (L : List (Int × Int)) {x : Int} (he : e = .returned (.tuple #[.slice (some ⟨g, o, none⟩) n cap, .int .i64 x])) (hn : L.length = n) (h9 : n ≤ 9) (hm : Mine w' w.heap.size 2 (some ⟨g, o, none⟩) n cap (netCells L)) (hb : Below w.heap.size w w') : DrewBest w e w' := ⟨g, o, n, cap, L, x, he, hn, h9, hm, hb⟩

set_option maxHeartbeats 6400000 in
theorem DrawBestNet_any (a : Option Addr) (n c : Nat) (w : World) (hb : Bytes w a n) (hnc : n ≤ c) (hc : c ≤ 9223372036854775807) :
    Calls Try.prog 23 #[.slice a n c] w (DrewBest w) := by
  obtain ⟨i0, hi, hz0, hz1, hz2⟩ := info_parts net_info
  have HI := Lib.hid hi
  have HZ := Lib.hid hz0
  have HS := Lib.hid hz1
  have HY := Lib.hid hz2
  clear hi hz0 hz1 hz2
  go_enter Try.func23, Try.ntmps23
  go_wp2_with fail
  refine (newReader_any a n c _ hb hnc hc).mono ?_
  rintro e w1 ⟨rfl, r1, b1, z1⟩
  have Z1 : w.heap.size + 1 ≤ w1.heap.size := by omega
  have HM1 := Lib.hid ((Mine.new w1 24 2 0 #[] rfl (by simp [maxLen])).mono Z1)
  have B1 := Lib.hid (b1.alloc (by omega) (.cells #[] 24))
  have hr1 := r1.alloc (.cells #[] 24)
  clear b1 hb z1 r1 hnc hc
  go_wp2_with fail
  refine (someWord_any w.heap.size w.heap.size 0 _ hr1 (by omega)).mono ?_
  rintro e w2 ⟨x, rfl, ⟨x0, x9⟩, r2, g2⟩
  have HM2 := Lib.hid ((HM1.out.far g2 (by omega)).alloc (.cells (([3, 4, 2, 1, 0, 8, 9] : List Int).map (Value.int .i64)).toArray 3))
  have z2 : w.heap.size + 1 ≤ w2.heap.size := by have := g2.size; simp at this; omega
  have B2 := Lib.hid ((only_below B1.out g2 (by simp; omega) (by omega)).alloc (by omega) (.cells (([3, 4, 2, 1, 0, 8, 9] : List Int).map (Value.int .i64)).toArray 3))
  clear g2 hr1 HM1 B1
  go_wp2_with fail
  refine (one_any w.heap.size w.heap.size 5 w2.heap.size 0 7 7 [3, 4, 2, 1, 0, 8, 9] _ (r2.alloc _) (by omega) (by simp) rfl (by omega) (by omega) (by omega) (lit_cells w2 3 _)).mono ?_
  rintro e w3 ⟨m, rfl, hm, r3, g3⟩
  have hm' : 0 ≤ m ∧ m ≤ 9 := by
    simp only [List.mem_cons, List.not_mem_nil, or_false] at hm
    omega
  obtain ⟨hm0, hm1⟩ := hm'
  have HM3 := Lib.hid (HM2.out.far g3 (by omega))
  have B3 := Lib.hid (only_below B2.out g3 (by simp; omega) (by omega))
  clear hm g3 r2 HM2 B2
  go_wp2_with fail
  go_loopw [5, 7] (fun v i wr => ∃ (k : Nat) (j : Int) (g o cap : Nat) (L : List (Int × Int)), v = .slice (some ⟨g, o, none⟩) k cap ∧ i = .int .i64 j ∧ 0 ≤ j ∧ (k : Int) + j ≤ 9 ∧ L.length = k ∧ Mine wr (w.heap.size + 1) 2 (some ⟨g, o, none⟩) k cap (netCells L) ∧ Rd wr w.heap.size w.heap.size (6 + 7 * k) ∧ Below w.heap.size w wr)
    (fun _ i _ => (intOf i).toNat)
  case atStart => exact ⟨0, m, w1.heap.size, 0, 0, [], rfl, rfl, hm0, by omega, rfl, HM3.out, r3, B3.out⟩
  case round =>
    obtain ⟨k, j, g, o, cap, L, rfl, rfl, hj0, hkj, hL, hM, hR, hB⟩ := hrel
    have HL := Lib.hid hL
    have hgw := hB.size
    have hgg := (hM.lt rfl).1
    have hg9 := (hM.lt rfl).2
    clear r3 HM3 B3 hm0 hm1
    by_cases hpos : 0 < j
    · have HMr := Lib.hid hM
      have HBr := Lib.hid hB
      clear hM hB
      go_wp2_with fail
      refine (someNet_any w.heap.size w.heap.size (6 + 7 * k) _ hR (by omega)).mono ?_
      rintro e w4 ⟨b, s, rfl, ⟨s0, s1, b0, b9⟩, r4, g4⟩
      have z4 := g4.size
      have T4 := Lib.hid (Two.new_at w4 w4.heap.size rfl 24 b s)
      have M4 := Lib.hid ((HMr.out.far g4 (by omega)).alloc (.cells #[.int .i64 b, .int .i64 s] 24))
      have R4 := r4.alloc (.cells #[.int .i64 b, .int .i64 s] 24)
      have B4 := Lib.hid ((only_below HBr.out g4 (by omega) (by omega)).alloc (by omega) (.cells #[.int .i64 b, .int .i64 s] 24))
      clear g4 r4 HMr HBr hR
      go_wp2_with fail
      refine (pick_any w.heap.size w.heap.size (6 + 7 * k + 6) 2 _ R4 (by omega)).mono ?_
      rintro e w5 ⟨m, rfl, -, r5, g5⟩
      have z5 := g5.size
      simp at z5
      have T5 := Lib.hid (T4.out.far g5 (by omega))
      have M5 := Lib.hid (M4.out.far g5 (by omega))
      have B5 := Lib.hid (only_below B4.out g5 (by simp; omega) (by omega))
      clear g5 R4 T4 M4 B4
      by_cases hm : m = 0
      · subst hm
        have ⟨q0, q1, q2, q3⟩ := T5.out.at_
        have hp := szN_pos s
        have hp2 : ¬ szN s = 0 := by omega
        have hp0 : (szN s == 0) = false := by simp; omega
        have e0 : x.tmod (szN s) = x % szN s := Int.tmod_eq_emod_of_nonneg x0
        have e1 := Int.emod_nonneg x hp2
        have e2 := Int.emod_lt_of_pos x (show 0 < szN s by omega)
        have e3 : x % szN s ≤ x := by have := Int.mul_ediv_add_emod x (szN s); have := Int.mul_nonneg (show 0 ≤ szN s by omega) (Int.ediv_nonneg x0 (show 0 ≤ szN s by omega)); omega
        obtain ⟨r, hr⟩ : ∃ r, r = x % szN s := ⟨_, rfl⟩
        rw [← hr] at e0 e1 e2 e3
        have e4 : IntKind.i64.wrap (x - r) = x - r := wrap_in (by omega)
        have e5 : IntKind.i64.wrap r = r := wrap_in (by omega)
        clear hr
        go_wp2_with fail
        refine (specsize_any b s _ s0 s1).mono ?_
        rintro e w6 ⟨rfl, b6⟩
        clear q0 q1 q2 q3
        have z6 := b6.size
        have T6 := T5.out.below b6
        have ⟨q0, q1, q2, q3⟩ := T6.at_
        have g7 := only_setCell w6 w4.heap.size 0 (.int .i64 (x - r))
        have T7 := T6.set0 (x - r)
        have M7 := (M5.out.below b6).kept g7 (by intro g' e' e''; simp at e'; injection e'' with e''; omega)
        have R7 := (r5.below b6).far g7 (by omega) (by omega)
        have B7 := (next B5.out b6).setCell (p := ⟨w4.heap.size, 0, none⟩) (by simp; omega) (.int .i64 (x - r))
        have z7 := g7.size
        clear g7 b6 T6 T5 M5 B5 r5
        have ⟨q0, q1, _, _⟩ := T7.at_
        have hcm := M7.2.2.1
        unfold maxLen at hcm
        have hlen : (netCells L).length = k * 2 := by rw [netCells_len, hL]
        have hgl : w.heap.size + 1 ≤ g := (M7.lt rfl).1
        have hsz : w.heap.size + 1 ≤ (w6.setCell ⟨w4.heap.size, 0, none⟩ (.int .i64 (x - r))).heap.size := by have := (M7.lt rfl).2; omega
        go_wp2_with (at_builtin; refine wpList_append_mine _ rfl _ _ 33 rfl (w.heap.size + 1) 24 i0 (.agg #[.int .i64 0, .int .i64 0]) 2 16 Try.underlying33 HI.out HZ.out HS.out HY.out rfl (by omega) _ k cap (netCells L) rfl (M7.alloc _) _ _ 1 1 [.int .i64 (x - r), .int .i64 s] rfl rfl (Mine.new_at (w6.setCell ⟨w4.heap.size, 0, none⟩ (.int .i64 (x - r))) w6.heap.size (by simp [World.setCell]) 24 2 1 #[.int .i64 (x - r), .int .i64 s] rfl (by simp [maxLen])).sees (by simp [Value.oneCell']) (by unfold maxLen; omega) (by omega) (by simp; omega) ?_; intro A' cap' w9 m9 g9 at9)
        obtain ⟨g', o', rfl⟩ := some_of' m9 (by omega)
        have r9 := Rd.far (g := g) (R7.alloc (.cells #[.int .i64 (x - r), .int .i64 s] 24)) g9 (by omega) (by omega)
        have B9 := Lib.hid ((B7.alloc (by omega) (.cells #[.int .i64 (x - r), .int .i64 s] 24)).grown g9 (by simp; omega) (by intro j hj; simp at hj; omega))
        clear g9 at9 hlen
        go_wp2
        go_roundw
        case rel => exact ⟨k + 1, j - 1, g', o', cap', L ++ [((x - r), s)], rfl, rfl, by omega, by omega, by simp [hL], by rw [netCells_snoc]; exact m9, r9.mono (by omega), B9.out⟩
        case measure => simp [intOf]; omega
      · have hm' : (m == 0) = false := by simpa using hm
        have ⟨q0, q1, _, _⟩ := T5.out.at_
        have hcm := M5.out.2.2.1
        unfold maxLen at hcm
        have hlen : (netCells L).length = k * 2 := by rw [netCells_len, hL]
        have hgl : w.heap.size + 1 ≤ g := (M5.out.lt rfl).1
        have hsz : w.heap.size + 1 ≤ w5.heap.size := by have := (M5.out.lt rfl).2; omega
        go_wp2_with (at_builtin; refine wpList_append_mine _ rfl _ _ 33 rfl (w.heap.size + 1) 24 i0 (.agg #[.int .i64 0, .int .i64 0]) 2 16 Try.underlying33 HI.out HZ.out HS.out HY.out rfl (by omega) _ k cap (netCells L) rfl (M5.out.alloc _) _ _ 1 1 [.int .i64 b, .int .i64 s] rfl rfl (Mine.new_at w5 w5.heap.size rfl 24 2 1 #[.int .i64 b, .int .i64 s] rfl (by simp [maxLen])).sees (by simp [Value.oneCell']) (by unfold maxLen; omega) (by omega) (by simp; omega) ?_; intro A' cap' w9 m9 g9 at9)
        obtain ⟨g', o', rfl⟩ := some_of' m9 (by omega)
        have r9 := Rd.far (g := g) (r5.alloc (.cells #[.int .i64 b, .int .i64 s] 24)) g9 (by omega) (by omega)
        have B9 := Lib.hid ((B5.out.alloc (by omega) (.cells #[.int .i64 b, .int .i64 s] 24)).grown g9 (by simp; omega) (by intro j hj; simp at hj; omega))
        clear g9 at9 hlen
        go_wp2
        go_roundw
        case rel => exact ⟨k + 1, j - 1, g', o', cap', L ++ [(b, s)], rfl, rfl, by omega, by omega, by simp [hL], by rw [netCells_snoc]; exact m9, r9.mono (by omega), B9.out⟩
        case measure => simp [intOf]; omega
    · have hj : j = 0 := by omega
      subst hj
      rcases Nat.eq_zero_or_pos k with rfl | hkp
      · have hL0 : L = [] := List.eq_nil_of_length_eq_zero hL
        subst hL0
        go_wp2_with fail
        refine (someWord_any w.heap.size w.heap.size (6 + 7 * 0) _ hR (by omega)).mono ?_
        rintro e w11 ⟨u, rfl, -, r11, g11⟩
        have M11 := Lib.hid ((hM.far g11 (by omega)).alloc (.cells (([x, x, u, 65536] : List Int).map (Value.int .i64)).toArray 3))
        have B11 := Lib.hid ((only_below hB g11 (by omega) (by omega)).alloc (by have := g11.size; omega) (.cells (([x, x, u, 65536] : List Int).map (Value.int .i64)).toArray 3))
        have hr11 := r11.lt
        have z11 := g11.size
        clear g11
        go_wp2_with fail
        refine (one_any w.heap.size w.heap.size ((6 + 7 * 0) + 5) w11.heap.size 0 4 4 [x, x, u, 65536] _ (r11.alloc _) (by omega) (by simp) rfl (by omega) (by omega) (by omega) (lit_cells w11 3 _)).mono ?_
        rintro e w12 ⟨v, rfl, -, r12, g12⟩
        have M12 := Lib.hid (M11.out.far g12 (by omega))
        have B12 := Lib.hid (only_below B11.out g12 (by simp; omega) (by omega))
        clear g12 r12
        go_wp2
        go_ret2
        exact .mk [] rfl rfl (by omega) (M12.out.mono (by omega)) B12.out
      · have hk0 : (0 : Int) < (k : Int) := by omega
        have HMr := Lib.hid hM
        have HBr := Lib.hid hB
        clear hM hB
        go_wp2_with fail
        refine (pick_any w.heap.size w.heap.size (6 + 7 * k) 16 _ hR (by omega)).mono ?_
        rintro e w4 ⟨m, rfl, -, r4, g4⟩
        have z4 := g4.size
        have M4 := HMr.out.far g4 (by omega)
        have B4 := only_below HBr.out g4 (by omega) (by omega)
        clear g4 HMr HBr hR
        by_cases hm : m = 0
        · subst hm
          have M4' := Lib.hid M4
          have B4' := Lib.hid B4
          clear M4 B4
          go_wp2_with fail
          refine (pick_any w.heap.size w.heap.size (6 + 7 * k + 1) k _ r4 (by omega)).mono ?_
          rintro e w5 ⟨m, rfl, ⟨m0, m9⟩, r5, g5⟩
          have hmk := m9 (by omega)
          obtain ⟨t, rfl⟩ := Int.eq_ofNat_of_zero_le m0
          have z5 := g5.size
          have M5 := Lib.hid (M4'.out.far g5 (by omega))
          have B5 := Lib.hid (only_below B4'.out g5 (by omega) (by omega))
          clear g5 r4 m9 M4' B4'
          go_wp2_with fail
          refine (anyNet_any w.heap.size w.heap.size (6 + 7 * k + 2) _ r5 (by omega)).mono ?_
          rintro e w6 ⟨b, s, rfl, -, r6, g6⟩
          have z6 := g6.size
          have M6 := M5.out.far g6 (by omega)
          have B6 := only_below B5.out g6 (by omega) (by omega)
          clear g6 r5 M5 B5
          have htk : t < k := by omega
          obtain ⟨⟨v0, hv0⟩, hf0⟩ := M6.can (j := t * 2) (by have := M6.2.1; omega)
          obtain ⟨⟨v1, hv1⟩, hf1⟩ := M6.can (j := t * 2 + 1) (by have := M6.2.1; omega)
          rw [← Nat.add_assoc] at hv1 hf1
          have ga := only_setCell w6 g (o + t * 2) (.int .i64 b)
          have Ma := M6.set_ (j := t * 2) (by omega) (.int .i64 b)
          have gb := only_setCell (w6.setCell ⟨g, o + t * 2, none⟩ (.int .i64 b)) g (o + t * 2 + 1) (.int .i64 s)
          have Mb := Ma.set_ (j := t * 2 + 1) (by omega) (.int .i64 s)
          rw [netCells_set L b s t (by omega), ← Nat.add_assoc] at Mb
          have Rb := (r6.far ga (by omega) (by omega)).far gb (by omega) (by omega)
          have Bb := (B6.setCell (p := ⟨g, o + t * 2, none⟩) (by simp; omega) (.int .i64 b)).setCell (p := ⟨g, o + t * 2 + 1, none⟩) (by simp; omega) (.int .i64 s)
          have zb := gb.size
          have za := ga.size
          have hb1 : (t : Int) < (k : Int) := by omega
          have HMb := Lib.hid Mb
          have HBb := Lib.hid Bb
          clear ga gb Ma Mb Bb M6 B6 r6
          go_wp2_with fail
          refine (someWord_any w.heap.size w.heap.size (6 + 7 * k + 2 + 8) _ Rb (by omega)).mono ?_
          rintro e w11 ⟨u, rfl, -, r11, g11⟩
          have M11 := Lib.hid ((HMb.out.far g11 (by omega)).alloc (.cells (([x, x, u, 65536] : List Int).map (Value.int .i64)).toArray 3))
          have B11 := Lib.hid ((only_below HBb.out g11 (by omega) (by omega)).alloc (by have := g11.size; omega) (.cells (([x, x, u, 65536] : List Int).map (Value.int .i64)).toArray 3))
          have hr11 := r11.lt
          have z11 := g11.size
          clear g11
          go_wp2_with fail
          refine (one_any w.heap.size w.heap.size ((6 + 7 * k + 2 + 8) + 5) w11.heap.size 0 4 4 [x, x, u, 65536] _ (r11.alloc _) (by omega) (by simp) rfl (by omega) (by omega) (by omega) (lit_cells w11 3 _)).mono ?_
          rintro e w12 ⟨v, rfl, -, r12, g12⟩
          have M12 := Lib.hid (M11.out.far g12 (by omega))
          have B12 := Lib.hid (only_below B11.out g12 (by simp; omega) (by omega))
          clear g12 r12
          go_wp2
          go_ret2
          exact .mk (L.set t (b, s)) rfl (by simpa using HL.out) (by omega) (M12.out.mono (by omega)) B12.out
        · have hm' : (m == 0) = false := by simpa using hm
          go_wp2_with fail
          refine (someWord_any w.heap.size w.heap.size (6 + 7 * k + 1) _ r4 (by omega)).mono ?_
          rintro e w11 ⟨u, rfl, -, r11, g11⟩
          have M11 := Lib.hid ((M4.far g11 (by omega)).alloc (.cells (([x, x, u, 65536] : List Int).map (Value.int .i64)).toArray 3))
          have B11 := Lib.hid ((only_below B4 g11 (by omega) (by omega)).alloc (by have := g11.size; omega) (.cells (([x, x, u, 65536] : List Int).map (Value.int .i64)).toArray 3))
          have hr11 := r11.lt
          have z11 := g11.size
          clear g11
          go_wp2_with fail
          refine (one_any w.heap.size w.heap.size ((6 + 7 * k + 1) + 5) w11.heap.size 0 4 4 [x, x, u, 65536] _ (r11.alloc _) (by omega) (by simp) rfl (by omega) (by omega) (by omega) (lit_cells w11 3 _)).mono ?_
          rintro e w12 ⟨v, rfl, -, r12, g12⟩
          have M12 := Lib.hid (M11.out.far g12 (by omega))
          have B12 := Lib.hid (only_below B11.out g12 (by simp; omega) (by omega))
          clear g12 r12
          go_wp2
          go_ret2
          exact .mk L rfl HL.out (by omega) (M12.out.mono (by omega)) B12.out
end Go.Proofs.Ytmaecadflilbgaa
