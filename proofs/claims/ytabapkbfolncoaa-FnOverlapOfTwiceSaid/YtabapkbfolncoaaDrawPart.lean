/-
  The generator's data and parts: someData, DrawCutData, someParts, DrawValidParts, DrawOverlapOf, DrawMissingFrom, DrawJoinParts.
-/
import Derived.Test.YtabapkbfolncoaaPart7
import Derived.Test.YtabapkbfolncoaaDrawInts
import Derived.Deep.Cut
import Derived.Deep.CutRange
namespace Go.Proofs.Ytabapkbfolncoaa
open Go.RowKit

def Dataish (z : Int) : Prop := -1 ≤ z ∧ z ≤ 65536

set_option maxHeartbeats 1600000 in
theorem someData_any (B R P : Nat) (w : World) (h : Rd w B R P) (hP : P ≤ 800000) :
    Calls Try.prog 57 #[.pointer (some ⟨R, 0, none⟩)] w (GaveInts w B R (P + 20) 14 Dataish) := by
  obtain ⟨i0, hi, hz0, hz1, hz2⟩ := info_parts int_info
  have HI := Lib.hid hi
  have HZ := Lib.hid hz0
  have HS := Lib.hid hz1
  have HY := Lib.hid hz2
  clear hi hz0 hz1 hz2
  have hRl := h.lt
  have m0 := (Mine.new w 3 1 0 #[] rfl (by simp [maxLen])).alloc (.cells #[.int .i64 6, .int .i64 8, .int .i64 12, .int .i64 3, .int .i64 1, .int .i64 0, .int .i64 13] 3)
  go_enter Try.func57, Try.ntmps57
  go_wp2_with fail
  refine (one_any B R P (w.heap.size + 1) 0 7 7 [6, 8, 12, 3, 1, 0, 13] _ ((h.alloc _).alloc _) (by omega) (by simp) rfl (by omega) (by omega) (by omega) (lit_cells_at _ 3 _ _ (by simp))).mono ?_
  rintro e w1 ⟨m, rfl, hm, r1, g1⟩
  have hm' : 0 ≤ m ∧ m ≤ 13 := by
    simp only [List.mem_cons, List.not_mem_nil, or_false] at hm
    omega
  obtain ⟨hm0, hm1⟩ := hm'
  have m1 := m0.far g1 (by omega)
  have G1 : w.grownBy w1 (some R) := ((World.grownBy_alloc w _ _).trans (World.grownBy_alloc _ _ _)).trans g1
  have HG1 := Lib.hid G1
  have HM1 := Lib.hid m1
  clear hm m0 g1 G1 m1 h
  go_wp2_with fail
  go_loopw [3, 4] (fun v i wr => ∃ (k : Nat) (j : Int) (g o cap : Nat) (xs : List Int), v = .slice (some ⟨g, o, none⟩) k cap ∧ i = .int .i64 j ∧ 0 ≤ j ∧ (k : Int) + j ≤ 13 ∧ xs.length = k ∧ (∀ z ∈ xs, Dataish z) ∧ Mine wr w.heap.size 1 (some ⟨g, o, none⟩) k cap (xs.map (Value.int .i64)) ∧ Rd wr B R (P + 1 + k) ∧ w.grownBy wr (some R))
    (fun _ i _ => (intOf i).toNat)
  case atStart => exact ⟨0, m, w.heap.size, 0, 0, [], rfl, rfl, hm0, by omega, rfl, by simp, HM1.out, r1, HG1.out⟩
  case round =>
    obtain ⟨k, j, g, o, cap, xs, rfl, rfl, hj0, hkj, hxk, hQ, hM, hR, hG⟩ := hrel
    have HQ := Lib.hid hQ
    have HG := Lib.hid hG
    have hgs := hG.size
    clear hQ hG r1 HM1 HG1 hm0 hm1
    by_cases hpos : 0 < j
    · go_wp2_with fail
      refine (pick_any B R _ 100 _ hR (by omega)).mono ?_
      rintro e w2 ⟨y, rfl, ⟨y0, y1⟩, r2, g2⟩
      have m2 := hM.far g2 (by omega)
      have y1 := y1 (by omega)
      have G2 := Lib.hid (HG.out.trans g2)
      have hs2 := g2.size
      have hcm := m2.2.2.1
      unfold maxLen at hcm
      have hlen : (xs.map (Value.int .i64)).length = k := by simpa using hxk
      have hgl : w.heap.size ≤ g := (m2.lt rfl).1
      clear hM hR g2
      go_wp2_with (at_builtin; refine wpList_append_mine _ rfl _ _ 24 rfl w.heap.size 3 i0 (.int .i64 0) 1 8 Try.underlying24 HI.out HZ.out HS.out HY.out rfl (by omega) _ k cap (xs.map (Value.int .i64)) rfl (m2.alloc _) _ _ 1 1 [.int .i64 y] rfl rfl (Mine.new w2 3 1 1 #[.int .i64 y] rfl (by simp [maxLen])).sees (by simp [Value.oneCell']) (by unfold maxLen; omega) (by omega) (by simp; omega) ?_; intro A' cap' w3 m3 g3 at3)
      obtain ⟨g', o', rfl⟩ := some_of at3 m3
      have r3 := Rd.far (g := g) (r2.alloc _) g3 (by have := r2.low; omega) (by omega)
      have G3 : w.grownBy w3 (some R) := (G2.out.trans (World.grownBy_alloc w2 _ _)).andThen g3 (by intro j hj; simp at hj; omega)
      have HG3 := Lib.hid G3
      clear g3 at3 m2 r2 G3 hlen
      go_wp2
      go_roundw
      case rel => exact ⟨k + 1, j - 1, g', o', cap', xs ++ [y], rfl, rfl, by omega, by omega, by simp [hxk], (by intro z hz; rcases List.mem_append.1 hz with hz | hz; exact HQ.out z hz; simp at hz; subst hz; exact ⟨by omega, by omega⟩), by simpa using m3, r3.mono (by omega), HG3.out⟩
      case measure => simp [intOf]; omega
    · have hj : j = 0 := by omega
      subst hj
      have hsees := hM.sees.row
      go_wp2_with fail
      refine (spoil_any B R (P + 1 + k) _ k cap _ xs 65536 Dataish _ hR (by omega) hxk (by omega) (Nat.le_refl _) hsees ⟨by omega, by omega⟩ ⟨by omega, by omega⟩ ⟨by omega, by omega⟩ ⟨by omega, by omega⟩ HQ.out).mono ?_
      rintro e w2 ⟨g2, o2, n2, cap2, ys, rfl, hyl, hyM, hyQ, m2, r2, g2'⟩
      have HG2 := Lib.hid (HG.out.trans g2')
      have HQ2 := Lib.hid hyQ
      have m2' := m2.mono hgs
      clear hyQ g2' hsees hM m2
      go_wp2
      go_ret
      exact .mk ys rfl hyl (by omega) HQ2.out m2' (r2.mono (by omega)) HG2.out

/-- Data in memory that was new, and a number 0..13. -/
def DrewData (w : World) (e : Ending) (w' : World) : Prop :=
  ∃ (g o n cap : Nat) (xs : List Int) (m : Int), e = .returned (.tuple #[.slice (some ⟨g, o, none⟩) n cap, .int .i64 m]) ∧ xs.length = n ∧ n ≤ 14 ∧ (∀ z ∈ xs, Dataish z) ∧ (0 ≤ m ∧ m ≤ 13) ∧ Mine w' w.heap.size 1 (some ⟨g, o, none⟩) n cap (xs.map (Value.int .i64)) ∧ Below w.heap.size w w'

set_option maxHeartbeats 800000 in
theorem DrawCutData_any (a : Option Addr) (n c : Nat) (w : World) (hb : Bytes w a n) (hnc : n ≤ c) (hc : c ≤ 9223372036854775807) :
    Calls Try.prog 31 #[.slice a n c] w (DrewData w) := by
  go_enter Try.func31, Try.ntmps31
  go_wp2_with fail
  refine (newReader_any a n c _ hb hnc hc).mono ?_
  rintro e w0 ⟨rfl, r0, b0, z0⟩
  clear hb hnc hc
  go_wp2_with fail
  refine (someData_any _ _ _ _ r0 (by omega)).mono ?_
  rintro e w1 ⟨g1, o1, n1, cap1, xs, rfl, hl, hM, hQ, m1, r1, g1'⟩
  have HB := Lib.hid (only_below b0 g1' (by omega) (Nat.le_refl _))
  have HQ := Lib.hid hQ
  have hne1 := (m1.lt rfl).1
  have m1' := m1.mono (base' := w.heap.size) (by omega)
  have hz0 := r0.lt
  clear hQ g1' b0 r0 m1 z0
  go_wp2_with fail
  refine (one_any w.heap.size w.heap.size 20 w1.heap.size 0 8 8 [2, 3, 4, 6, 12, 1, 0, 13] _ (r1.alloc _) (by have := r1.lt; omega) (by simp) rfl (by omega) (by omega) (by omega) (lit_cells w1 3 _)).mono ?_
  rintro e w2 ⟨m, rfl, hm, r2, g2⟩
  have hm' : 0 ≤ m ∧ m ≤ 13 := by
    simp only [List.mem_cons, List.not_mem_nil, or_false] at hm
    omega
  have hs1 := HB.out.size
  have HB2 := Lib.hid (only_below (HB.out.alloc (by omega) _) g2 (by simp; omega) (Nat.le_refl _))
  have HM2 : Hid (Mine w2 w.heap.size 1 (some ⟨g1, o1, none⟩) n1 cap1 (xs.map (Value.int .i64))) := Lib.hid ((m1'.alloc _).kept g2 (fun g' e e' => by
    simp at e; subst e; injection e' with e'; omega))
  clear m1' r1 g2 hm
  go_wp2
  go_ret2
  exact ⟨g1, o1, n1, cap1, xs, m, rfl, hl, hM, HQ.out, hm', HM2.out, HB2.out⟩

theorem cut_len (xs : List Int) (m : Int) : (cutOf xs m).length ≤ 6 := by
  unfold cutOf
  split
  · rename_i h
    rw [cutK_len]
    simp only [Bool.and_eq_true, decide_eq_true_eq] at h
    exact h.2
  · simp
theorem cut_mem {xs : List Int} {m : Int} {p : Pt} (hp : p ∈ cutOf xs m) : 0 ≤ p.1 ∧ p.1 ≤ 11 ∧ p.2.2.length ≤ 12 ∧ ∀ z ∈ p.2.2, z ∈ xs := by
  unfold cutOf at hp
  split at hp
  · rename_i h
    simp only [Bool.and_eq_true, decide_eq_true_eq, okCut] at h
    obtain ⟨k, hk, rfl⟩ := List.mem_map.1 hp
    have h1 := inR_iff.1 h.1.1
    have h2 := inR_iff.1 h.1.2.2
    have hk := List.mem_range.1 hk
    have h3 : (k + 1) * m.toNat ≤ xs.length + m.toNat - 1 := Nat.le_trans (Nat.mul_le_mul_right _ hk) (Nat.div_mul_le_self _ _)
    rw [Nat.add_mul] at h3
    refine ⟨?_, ?_, ?_, fun z hz => ?_⟩
    · simp only [cutP]; omega
    · simp only [cutP]; omega
    · simp only [cutP, List.length_take, List.length_drop]; omega
    · exact List.mem_of_mem_drop (List.mem_of_mem_take hz)
  · simp at hp

/-- The same parts in another order: only the row's block was written. -/
theorem PMine.shuffle {w w1 : World} {base n cap g o : Nat} {U V : List PV} (h : PMine w base (some ⟨g, o, none⟩) n cap V) (hp : U.Perm V) (hg : w.grownBy w1 (some g)) (hm : Mine w1 base 3 (some ⟨g, o, none⟩) n cap (U.flatMap encV)) :
    PMine w1 base (some ⟨g, o, none⟩) n cap U := by
  obtain ⟨h1, _, h3, h4⟩ := h
  refine ⟨by rw [hp.length_eq, h1], hm, fun q hq => ?_, (hp.pairwise_iff (fun h e => h e.symm)).2 h4⟩
  have hd := h3 q (hp.mem_iff.1 hq)
  exact ⟨hd.1.far hg (fun e => hd.2 (by rw [← e]; rfl)), hd.2⟩
theorem swap_perm {V : List PV} {k : Nat} (hk : k < V.length) : ((V.set k (V.getD 0 default)).set 0 (V.getD k default)).Perm V := by
  have h0 : 0 < V.length := by omega
  have e0 : V.getD 0 default = V[0] := by rw [List.getD_eq_getElem?_getD, List.getElem?_eq_getElem h0]; rfl
  have ek : V.getD k default = V[k] := by rw [List.getD_eq_getElem?_getD, List.getElem?_eq_getElem hk]; rfl
  rw [e0, ek]
  exact List.set_set_perm hk h0

theorem flat_set1 {b : Bool} : ∀ (V : List PV) (j : Nat), (V.set j { V.getD j default with more := b }).flatMap encV = (V.flatMap encV).set (j * 3 + 1) (.bool b)
  | [], j => by simp
  | p :: V, 0 => by simp [encV]
  | p :: V, j + 1 => by
    have ih := flat_set1 (b := b) V j
    rw [show (j + 1) * 3 + 1 = j * 3 + 1 + 3 by omega]
    show encV p ++ (V.set j { V.getD j default with more := b }).flatMap encV = (encV p ++ V.flatMap encV).set (j * 3 + 1 + 3) _
    rw [ih]; rfl
theorem PMine.drop1 {w : World} {base n cap g o : Nat} {V : List PV} (h : PMine w base (some ⟨g, o, none⟩) n cap V) (hn : 0 < n) : PMine w base (some ⟨g, o + 3, none⟩) (n - 1) (cap - 1) (V.drop 1) := by
  obtain ⟨h1, h2, h3, h4⟩ := h
  refine ⟨by simp [h1], ?_, fun q hq => h3 q (List.mem_of_mem_drop hq), h4.sublist (List.drop_sublist _ _)⟩
  have h5 := h2.drop (k := 1) (by omega)
  have e : (V.flatMap encV).drop (1 * 3) = (V.drop 1).flatMap encV := by
    cases V with
    | nil => rfl
    | cons p V => rfl
  rw [e] at h5
  exact h5
theorem PMine.none_at {w : World} {base n cap g o : Nat} {V : List PV} (h : PMine w base (some ⟨g, o, none⟩) n cap V) : PMine w base (some ⟨g, o, none⟩) 0 0 [] := by
  refine ⟨rfl, ?_, by simp, .nil⟩
  obtain ⟨_, _, _, ⟨h, _⟩ | ⟨g', o', e, e1, e2, _, _⟩⟩ := h.2.1
  · cases h
  · exact ⟨by simp, by omega, by simp [maxLen], .inr ⟨g', o', e, e1, e2, by simp, by simp⟩⟩

/-- A part that may be invalid. -/
def Partish (p : PV) : Prop := 0 ≤ p.pos ∧ p.pos ≤ 12 ∧ p.xs.length ≤ 12 ∧ ∀ z ∈ p.xs, Dataish z
/-- Parts that may be invalid, of our own making. -/
def GaveParts (w : World) (B R P : Nat) (e : Ending) (w' : World) : Prop :=
  ∃ (A : Option Addr) (n cap : Nat) (V : List PV), e = .returned (.slice A n cap) ∧ n ≤ 7 ∧ (∀ p ∈ V, Partish p) ∧ PMine w' w.heap.size A n cap V ∧ Rd w' B R P ∧ w.grownBy w' (some R)

set_option maxHeartbeats 3200000 in
theorem someParts_any (B R P : Nat) (w : World) (h : Rd w B R P) (hP : P ≤ 800000) :
    Calls Try.prog 48 #[.pointer (some ⟨R, 0, none⟩)] w (GaveParts w B R (P + 30)) := by
  have hRl := h.lt
  go_enter Try.func48, Try.ntmps48
  go_wp2_with fail
  refine (someData_any B R P _ h (by omega)).mono ?_
  rintro e w1 ⟨g1, o1, n1, cap1, xs, rfl, hl, hM, hQ, m1, r1, gr1⟩
  have s1 := gr1.size
  have HQ := Lib.hid hQ
  clear hQ h
  go_wp2_with fail
  refine (one_any B R (P + 20) w1.heap.size 0 6 6 [2, 3, 4, 6, 12, 1] _ (r1.alloc _) (by have := r1.lt; omega) (by simp) rfl (by omega) (by omega) (by omega) (lit_cells w1 3 _)).mono ?_
  rintro e w2 ⟨m, rfl, hm, r2, gr2⟩
  have s2 := gr2.size
  simp at s2
  have G2 := (gr1.trans (World.grownBy_alloc w1 _ _)).trans gr2
  have x1 := (m1.lt rfl).1
  have m2 := (m1.alloc (.cells #[.int .i64 2, .int .i64 3, .int .i64 4, .int .i64 6, .int .i64 12, .int .i64 1] 3)).kept gr2 (fun g' e e' => by
    simp at e; subst e; injection e' with e'; have : R < w.heap.size := hRl; have : w.heap.size ≤ g1 := x1; omega)
  have hcp := m2.2.2.1
  have hnc := m2.2.1
  unfold maxLen at hcp
  clear m1 r1 gr1 gr2 hm
  go_wp2_with fail
  refine (specCutData_any _ n1 cap1 xs m _ hl hnc (by omega) m2.sees.row).mono ?_
  rintro e w3 ⟨A, n, cap, V, rfl, hV, m3, b3⟩
  have s3 := b3.size
  have G3 := G2.trans (only_of_below b3 R)
  have r3 := r2.below b3
  have HX : Hid (∀ p ∈ V, Partish p) := Lib.hid fun p hp => by
    have h1 : p.pt ∈ cutOf xs m := by rw [← hV]; exact List.mem_map.2 ⟨p, hp, rfl⟩
    have ⟨h2, h3, h4, h5⟩ := cut_mem h1
    exact ⟨h2, by have : p.pos ≤ 11 := h3; omega, h4, fun z hz => HQ.out z (h5 z hz)⟩
  have hn6 : n ≤ 6 := by rw [← m3.1, ← List.length_map (f := PV.pt), hV]; exact cut_len xs m
  have M3 := Lib.hid (m3.mono (base' := w.heap.size) (by omega))
  have HG3 := Lib.hid G3
  clear m2 r2 b3 G2 G3 m3 hV
  go_upto_region 2 with fail
  go_cut [19] from 4 (fun c wc => ∃ b : Bool, c = .bool b ∧ (b = true → 1 < n) ∧ Rd wc B R (P + 22) ∧ PMine wc w.heap.size A n cap V ∧ w.grownBy wc (some R))
  case first =>
    by_cases hn1 : 1 < n
    · have l1 : (1 : Int) < (n : Int) := by omega
      go_wp2_with fail
      refine (pick_any B R _ 2 _ r3 (by omega)).mono ?_
      rintro e w4 ⟨y, rfl, _, r4, g4⟩
      go_wp2
      go_meet
      case rel => exact ⟨_, rfl, fun _ => hn1, r4.mono (by omega), M3.out.far g4 (by omega), HG3.out.trans g4⟩
    · have l1 : ¬ ((1 : Int) < (n : Int)) := by omega
      go_wp2
      go_meet
      case rel => exact ⟨false, rfl, (fun h => by cases h), r3.mono (by omega), M3.out, HG3.out⟩
  case rest =>
  obtain ⟨b, rfl, hb, r4, m4, g4⟩ := hcut
  have M4 := Lib.hid m4
  have G4 := Lib.hid g4
  clear m4 g4 M3 HG3 r3
  go_upto_if 19 with fail
  go_cut [3] from 4 (fun v wc => ∃ V' : List PV, v = .slice A n cap ∧ (∀ p ∈ V', Partish p) ∧ PMine wc w.heap.size A n cap V' ∧ Rd wc B R (P + 23) ∧ w.grownBy wc (some R))
  case first =>
    cases b
    · go_wp2
      go_meet
      case rel => exact ⟨V, rfl, HX.out, M4.out, r4.mono (by omega), G4.out⟩
    · have hn1 := hb rfl
      obtain ⟨g, o, rfl⟩ := some_of' M4.out.2.1 (by omega)
      go_wp2_with fail
      refine (pick_any B R _ n _ r4 (by omega)).mono ?_
      rintro e w5 ⟨y, rfl, ⟨y0, y1⟩, r5, g5⟩
      have y1 := y1 (by omega)
      obtain ⟨k, rfl⟩ := Int.eq_ofNat_of_zero_le y0
      have M5 := Lib.hid (M4.out.far g5 (by omega))
      have G5 := Lib.hid (G4.out.trans g5)
      clear g5 r4 y0
      have hk : k < n := by omega
      have hl5 := M5.out.1
      obtain ⟨p, hp⟩ : ∃ p, p = V.getD k default := ⟨_, rfl⟩
      obtain ⟨q, hq⟩ : ∃ q, q = V.getD 0 default := ⟨_, rfl⟩
      have HP := Lib.hid hp
      have HQ0 := Lib.hid hq
      have ⟨p0, p1, p2⟩ := M5.out.cells hk
      have ⟨q0, q1, q2⟩ := M5.out.cells (j := 0) (by omega)
      rw [← hp] at p0 p1 p2
      rw [← hq] at q0 q1 q2
      simp only [Nat.zero_mul, Nat.add_zero] at q0 q1 q2
      have hgb := M5.out.2.1.lt rfl
      have hgl : w.heap.size ≤ g := hgb.1
      have hgs : g < w5.heap.size := hgb.2
      have hnc5 := M5.out.2.1.2.1
      have fk0 := (M5.out.2.1.can (j := k * 3) (by omega)).2
      have m5a := M5.out.2.1.set_ (j := k * 3) (by omega) (.int .i64 q.pos)
      have fk1 := (M5.out.2.1.can (j := k * 3 + 1) (by omega)).2
      have m5b := m5a.set_ (j := k * 3 + 1) (by omega) (.bool q.more)
      have fk2 := (M5.out.2.1.can (j := k * 3 + 2) (by omega)).2
      have m5c := m5b.set_ (j := k * 3 + 2) (by omega) (.slice (some ⟨q.blk, q.off, none⟩) q.xs.length q.cap)
      rw [← flat_set3 (q := q) V k] at m5c
      rw [← Nat.add_assoc] at fk1
      rw [← Nat.add_assoc] at fk2
      rw [← Nat.add_assoc] at m5b
      rw [← Nat.add_assoc, ← Nat.add_assoc] at m5c
      have ga := ((only_setCell w5 g (o + k * 3) (.int .i64 q.pos)).trans (only_setCell _ g (o + k * 3 + 1) (.bool q.more))).trans (only_setCell _ g (o + k * 3 + 2) (.slice (some ⟨q.blk, q.off, none⟩) q.xs.length q.cap))
      have M6 := Lib.hid (m5c.alloc (.cells #[.int .i64 p.pos, .bool p.more, .slice (some ⟨p.blk, p.off, none⟩) p.xs.length p.cap] 41))
      have G6 := Lib.hid (only_alloc ga (.cells #[.int .i64 p.pos, .bool p.more, .slice (some ⟨p.blk, p.off, none⟩) p.xs.length p.cap] 41))
      have X6 := Lib.hid (Box.new_at (((w5.setCell ⟨g, o + k * 3, none⟩ (.int .i64 q.pos)).setCell ⟨g, o + k * 3 + 1, none⟩ (.bool q.more)).setCell ⟨g, o + k * 3 + 2, none⟩ (.slice (some ⟨q.blk, q.off, none⟩) q.xs.length q.cap)) w5.heap.size (by simp [World.setCell]) 41 #[.int .i64 p.pos, .bool p.more, .slice (some ⟨p.blk, p.off, none⟩) p.xs.length p.cap] (by simp [maxLen]))
      clear m5a m5b m5c ga hp hq
      go_upto_region 6 with fail
      obtain ⟨W, hW⟩ : ∃ W, W = (((w5.setCell ⟨g, o + k * 3, none⟩ (.int .i64 q.pos)).setCell ⟨g, o + k * 3 + 1, none⟩ (.bool q.more)).setCell ⟨g, o + k * 3 + 2, none⟩ (.slice (some ⟨q.blk, q.off, none⟩) q.xs.length q.cap)).alloc (.cells #[.int .i64 p.pos, .bool p.more, .slice (some ⟨p.blk, p.off, none⟩) p.xs.length p.cap] 41) := ⟨_, rfl⟩
      rw [← hW] at M6 G6 X6 ⊢
      clear hW fk0 fk1 fk2 p0 p1 p2 q0 q1 q2
      obtain ⟨⟨v0, c0⟩, f0⟩ := M6.out.can (j := 0) (by omega)
      obtain ⟨⟨v1, c1⟩, f1⟩ := M6.out.can (j := 1) (by omega)
      obtain ⟨⟨v2, c2⟩, f2⟩ := M6.out.can (j := 2) (by omega)
      have x0 := X6.out.at_ 0 rfl
      have x1 := X6.out.at_ 1 rfl
      have x2 := X6.out.at_ 2 rfl
      have m7 := ((M6.out.set_ (j := 0) (by omega) (.int .i64 p.pos)).set_ (j := 1) (by omega) (.bool p.more)).set_ (j := 2) (by omega) (.slice (some ⟨p.blk, p.off, none⟩) p.xs.length p.cap)
      have e7 := flat_set3 (q := p) (V.set k q) 0
      simp only [Nat.zero_mul, Nat.zero_add] at e7
      rw [← e7] at m7
      simp only [Nat.add_zero] at c0 f0 m7
      have g7 := G6.out.trans (((only_setCell W g o (.int .i64 p.pos)).trans (only_setCell _ g (o + 1) (.bool p.more))).trans (only_setCell _ g (o + 2) (.slice (some ⟨p.blk, p.off, none⟩) p.xs.length p.cap)))
      have hperm : ((V.set k q).set 0 p).Perm V := by rw [HP.out, HQ0.out]; exact swap_perm (by omega)
      have M7 := Lib.hid (M5.out.shuffle hperm g7 m7)
      have R7 := Lib.hid (r5.far g7 (by have := r5.low; omega) (by omega))
      have G7 := Lib.hid (G5.out.andThen g7 (by intro j hj; simp at hj; omega))
      have HX7 : Hid (∀ r ∈ (V.set k q).set 0 p, Partish r) := Lib.hid fun r hr => HX.out r (hperm.mem_iff.1 hr)
      clear m7 g7 e7 r5 hperm M6 X6 G6
      go_wp2
      go_meet
      case rel => exact ⟨_, rfl, HX7.out, M7.out, R7.out.mono (by omega), G7.out⟩
  case rest =>
  obtain ⟨V', rfl, hX', m5, r5, g5⟩ := hcut
  have HX' := Lib.hid hX'
  have M5 := Lib.hid m5
  have G5 := Lib.hid g5
  have hl5 := m5.1
  have hnc5 := m5.2.1.2.1
  have hcm5 := m5.2.1.2.2.1
  unfold maxLen at hcm5
  clear hX' m5 g5 M4 G4 r4 hb HX
  rcases Nat.eq_zero_or_pos n with hz | hpos
  · subst hz
    go_wp2
    go_ret
    exact ⟨A, 0, cap, V', rfl, by omega, HX'.out, M5.out, r5.mono (by omega), G5.out⟩
  have l0 : (0 : Int) < (n : Int) := by omega
  obtain ⟨g, o, rfl⟩ := some_of' M5.out.2.1 (by omega)
  have hgb := M5.out.2.1.lt rfl
  have hgl : w.heap.size ≤ g := hgb.1
  have hgs : g < wc.heap.size := hgb.2
  go_wp2_with fail
  refine (pick_any B R _ 8 _ r5 (by omega)).mono ?_
  rintro e w6 ⟨y, rfl, _, r6, g6⟩
  have s6 := g6.size
  have M6 := Lib.hid (M5.out.far g6 (by omega))
  have G6 := Lib.hid (G5.out.trans g6)
  clear g6 r5 M5 G5
  by_cases h0 : y = 0
  · subst h0
    by_cases hc1 : cap = 1
    · subst hc1
      have hn1 : n = 1 := by omega
      subst hn1
      go_wp2
      go_ret
      exact ⟨_, 0, 0, [], rfl, by omega, by simp, M6.out.none_at, r6.mono (by omega), G6.out⟩
    · have M7 := Lib.hid (M6.out.drop1 hpos)
      go_wp2
      go_ret
      exact ⟨_, _, _, V'.drop 1, rfl, by omega, fun p hp => HX'.out p (List.mem_of_mem_drop hp), M7.out, r6.mono (by omega), G6.out⟩
  have q0 : (y == 0) = false := by simpa using h0
  by_cases h1 : y = 1
  · subst h1
    clear h0
    go_wp2_with fail
    refine (pick_any B R _ 13 _ r6 (by omega)).mono ?_
    rintro e w7 ⟨a7, rfl, ⟨a0, a9⟩, r7, g7⟩
    have a9 := a9 (by omega)
    have s7 := g7.size
    have M7 := Lib.hid (M6.out.far g7 (by omega))
    have G7 := Lib.hid (G6.out.trans g7)
    clear g7 r6 M6 G6
    go_wp2_with fail
    refine (pick_any B R _ 2 _ r7 (by omega)).mono ?_
    rintro e w8 ⟨b8, rfl, _, r8, g8⟩
    have s8 := g8.size
    have M8 := Lib.hid (M7.out.far g8 (by omega))
    have G8 := Lib.hid (G7.out.trans g8)
    clear g8 r7 M7 G7
    go_wp2_with fail
    refine (pick_any B R _ 3 _ r8 (by omega)).mono ?_
    rintro e w9 ⟨d, rfl, ⟨d0, d9⟩, r9, g9⟩
    have d9 := d9 (by omega)
    obtain ⟨d, rfl⟩ := Int.eq_ofNat_of_zero_le d0
    have s9 := g9.size
    have M9 := Lib.hid (M8.out.far g9 (by omega))
    have G9 := Lib.hid (G8.out.trans g9)
    clear g9 r8 M8 G8 d0
    obtain ⟨i0, hi, hz0, hz1, hz2⟩ := info_parts int_info
    obtain ⟨j0, HI, HZ, HS, HY⟩ := info_parts part_info
    have hbz : i0.bytes * (1 + d) ≤ 281474976710656 := by rw [hz2]; omega
    have hml : 1 + d ≤ maxLen := by unfold maxLen; omega
    have hl9 := M9.out.1
    have hfl : (V'.flatMap encV).length = n * 3 := by rw [flat_len encV_len, hl9]
    have HEn : Hid (encV ⟨a7, (b8 == 0), w9.heap.size, 0, 1 + d, List.replicate (1 + d) 0⟩ = [.int .i64 a7, .bool (b8 == 0), .slice (some ⟨w9.heap.size, 0, none⟩) (1 + d) (1 + d)]) := Lib.hid (by unfold encV; simp)
    go_wp2_with (first
      | (at_make; refine wpList_make_full _ rfl _ _ 24 rfl w9.heap.size 3 i0 (.int .i64 0) 1 Try.underlying24 hi hz0 hz1 .i64 .i64 _ _ (1 + d) rfl rfl rfl rfl hbz hml (Nat.le_refl _) ?_; intro w10 hown hg; have m10 := Mine.of_own hown; have B10 := (Below.refl w9.heap.size w9).grown hg (Nat.le_refl _) (by simp); have s10 := B10.size; have M10 := M9.out.below B10)
      | (at_builtin; refine wpList_append_mine _ rfl _ _ 27 rfl w.heap.size 41 j0 (.agg #[.int .i64 0, .bool false, .slice none 0 0]) 3 40 Try.underlying27 HI HZ HS HY rfl (by omega) _ n cap (V'.flatMap encV) rfl (M10.2.1.alloc _) _ _ 1 1 [.int .i64 a7, .bool (b8 == 0), .slice (some ⟨w9.heap.size, 0, none⟩) (1 + d) (1 + d)] rfl rfl (Mine.new_at w10 w10.heap.size rfl 41 3 1 #[.int .i64 a7, .bool (b8 == 0), .slice (some ⟨w9.heap.size, 0, none⟩) (1 + d) (1 + d)] rfl (by simp [maxLen])).sees (by simp [Value.oneCell']) (by unfold maxLen; omega) (by omega) (by simp; omega) ?_; intro A' cap' w11 m11 g11 at11))
    have hmk : (madeCells (Value.int .i64 0).cells ((1 + d) * 1)).toList = (List.replicate (1 + d) (0 : Int)).map (Value.int .i64) := by
      show (madeCells #[Value.int .i64 0] ((1 + d) * 1)).toList = _
      rw [toList_madeCells_one, Nat.mul_one, List.map_replicate]
    rw [hmk] at m10
    have hd : DMine w10 w9.heap.size ⟨a7, (b8 == 0), w9.heap.size, 0, 1 + d, List.replicate (1 + d) 0⟩ := by
      unfold DMine
      show Mine w10 _ 1 _ (List.replicate (1 + d) (0 : Int)).length (1 + d) _
      rw [List.length_replicate]; exact m10
    have hbw := G9.out.size
    have hdl := hd.lt
    have hgs9 := (M9.out.2.1.lt rfl).2
    have M11 : PMine w11 w.heap.size A' (n + 1) cap' (V' ++ [⟨a7, (b8 == 0), w9.heap.size, 0, 1 + d, List.replicate (1 + d) 0⟩]) := by
      refine (M10.alloc _).snoc ((hd.mono (by omega)).below ((Below.refl _ _).alloc (Nat.le_refl _) _)) (fun e => ?_) (fun q hq => ?_) (by rw [HEn.out]; exact m11) g11 at11
      · simp at e hgs9; omega
      · have := (M9.out.2.2.1 q hq).1.lt.2
        show q.blk ≠ w9.heap.size
        omega
    have g12 : w9.grownBy w11 (some g) := ((only_of_below B10 g).trans (World.grownBy_alloc w10 _ _)).trans g11
    have R11 := r9.far g12 (by have := r9.low; omega) (by omega)
    have G11 := G9.out.andThen g12 (by intro j hj; simp at hj; omega)
    go_ret
    refine ⟨A', n + 1, cap', _, rfl, by omega, fun p hp => ?_, M11, R11.mono (by omega), G11⟩
    rcases List.mem_append.1 hp with h | h
    · exact HX'.out p h
    · simp at h
      subst h
      refine ⟨a0, by show a7 ≤ 12; omega, by show (List.replicate (1 + d) (0 : Int)).length ≤ 12; rw [List.length_replicate]; omega, fun z hz => ?_⟩
      have hz : z ∈ List.replicate (1 + d) (0 : Int) := hz
      have := (List.mem_replicate.1 hz).2
      subst this
      exact ⟨by omega, by omega⟩
  have q1 : (y == 1) = false := by simpa using h1
  by_cases h2 : y = 2
  · subst h2
    clear h0 h1
    go_wp2_with fail
    refine (pick_any B R _ n _ r6 (by omega)).mono ?_
    rintro e w7 ⟨j, rfl, ⟨j0, j1⟩, r7, g7⟩
    have j1 := j1 (by omega)
    obtain ⟨j, rfl⟩ := Int.eq_ofNat_of_zero_le j0
    have s7 := g7.size
    have M7 := Lib.hid (M6.out.far g7 (by omega))
    have G7 := Lib.hid (G6.out.trans g7)
    clear g7 r6 M6 G6 j0
    go_wp2_with fail
    refine (pick_any B R _ 2 _ r7 (by omega)).mono ?_
    rintro e w8 ⟨b, rfl, _, r8, g8⟩
    have s8 := g8.size
    have M8 := Lib.hid (M7.out.far g8 (by omega))
    have G8 := Lib.hid (G7.out.trans g8)
    clear g8 r7 M7 G7
    have hj : j < n := by omega
    obtain ⟨⟨v0, c0⟩, f0⟩ := M8.out.2.1.can (j := j * 3 + 1) (by omega)
    have m9 := M8.out.2.1.set_ (j := j * 3 + 1) (by omega) (.bool (b == 0))
    rw [← flat_set1 (b := (b == 0)) V' j] at m9
    rw [← Nat.add_assoc] at m9 c0 f0
    have g9 := only_setCell w8 g (o + j * 3 + 1) (.bool (b == 0))
    have hd := M8.out.2.2.1 _ (dflt_get (V := V') (j := j) (by omega))
    have HX9 : Hid (∀ r ∈ V'.set j { V'.getD j default with more := (b == 0) }, Partish r) := Lib.hid fun r hr => by
      rcases List.mem_or_eq_of_mem_set hr with h | rfl
      · exact HX'.out r h
      · exact HX'.out (V'.getD j default) (dflt_get (by omega))
    have M9 := Lib.hid (M8.out.put (q := { V'.getD j default with more := (b == 0) }) hj rfl g9 m9 (World.grownBy.refl _ _) (hd.1.far g9 (fun e => hd.2 (by rw [← e]; rfl))))
    have R9 := Lib.hid (r8.far g9 (by have := r8.low; omega) (by omega))
    have G9 := Lib.hid (G8.out.andThen g9 (by intro j hj; simp at hj; omega))
    clear m9 g9 hd r8
    go_wp2
    go_ret
    exact ⟨_, n, cap, _, rfl, by omega, HX9.out, M9.out, R9.out.mono (by omega), G9.out⟩
  have q2 : (y == 2) = false := by simpa using h2
  go_wp2
  go_ret
  exact ⟨_, n, cap, V', rfl, by omega, HX'.out, M6.out, r6.mono (by omega), G6.out⟩

/-- Parts in memory that was new. -/
def DrewParts (w : World) (e : Ending) (w' : World) : Prop :=
  ∃ (A : Option Addr) (n cap : Nat) (V : List PV), e = .returned (.slice A n cap) ∧ n ≤ 7 ∧ (∀ p ∈ V, Partish p) ∧ PMine w' w.heap.size A n cap V ∧ Below w.heap.size w w'

set_option maxHeartbeats 400000 in
theorem DrawValidParts_any (a : Option Addr) (n c : Nat) (w : World) (hb : Bytes w a n) (hnc : n ≤ c) (hc : c ≤ 9223372036854775807) :
    Calls Try.prog 28 #[.slice a n c] w (DrewParts w) := by
  go_enter Try.func28, Try.ntmps28
  go_wp2_with fail
  refine (newReader_any a n c _ hb hnc hc).mono ?_
  rintro e w0 ⟨rfl, r0, b0, z0⟩
  clear hb hnc hc
  go_wp2_with fail
  refine (someParts_any _ _ _ _ r0 (by omega)).mono ?_
  rintro e w1 ⟨A, n1, cap1, V, rfl, hM, hQ, m1, r1, g1'⟩
  have HB := Lib.hid (only_below b0 g1' (by omega) (Nat.le_refl _))
  have HQ := Lib.hid hQ
  have HM := Lib.hid (m1.mono (base' := w.heap.size) (by omega))
  clear hQ g1' b0 r0 r1 m1 z0
  go_wp2
  go_ret
  exact ⟨A, n1, cap1, V, rfl, hM, HQ.out, HM.out, HB.out⟩

set_option maxHeartbeats 400000 in
theorem DrawOverlapOf_any (a : Option Addr) (n c : Nat) (w : World) (hb : Bytes w a n) (hnc : n ≤ c) (hc : c ≤ 9223372036854775807) :
    Calls Try.prog 34 #[.slice a n c] w (DrewParts w) := by
  go_enter Try.func34, Try.ntmps34
  go_wp2_with fail
  refine (newReader_any a n c _ hb hnc hc).mono ?_
  rintro e w0 ⟨rfl, r0, b0, z0⟩
  clear hb hnc hc
  go_wp2_with fail
  refine (someParts_any _ _ _ _ r0 (by omega)).mono ?_
  rintro e w1 ⟨A, n1, cap1, V, rfl, hM, hQ, m1, r1, g1'⟩
  have HB := Lib.hid (only_below b0 g1' (by omega) (Nat.le_refl _))
  have HQ := Lib.hid hQ
  have HM := Lib.hid (m1.mono (base' := w.heap.size) (by omega))
  clear hQ g1' b0 r0 r1 m1 z0
  go_wp2
  go_ret
  exact ⟨A, n1, cap1, V, rfl, hM, HQ.out, HM.out, HB.out⟩

set_option maxHeartbeats 400000 in
theorem DrawJoinParts_any (a : Option Addr) (n c : Nat) (w : World) (hb : Bytes w a n) (hnc : n ≤ c) (hc : c ≤ 9223372036854775807) :
    Calls Try.prog 24 #[.slice a n c] w (DrewParts w) := by
  go_enter Try.func24, Try.ntmps24
  go_wp2_with fail
  refine (newReader_any a n c _ hb hnc hc).mono ?_
  rintro e w0 ⟨rfl, r0, b0, z0⟩
  clear hb hnc hc
  go_wp2_with fail
  refine (someParts_any _ _ _ _ r0 (by omega)).mono ?_
  rintro e w1 ⟨A, n1, cap1, V, rfl, hM, hQ, m1, r1, g1'⟩
  have HB := Lib.hid (only_below b0 g1' (by omega) (Nat.le_refl _))
  have HQ := Lib.hid hQ
  have HM := Lib.hid (m1.mono (base' := w.heap.size) (by omega))
  clear hQ g1' b0 r0 r1 m1 z0
  go_wp2
  go_ret
  exact ⟨A, n1, cap1, V, rfl, hM, HQ.out, HM.out, HB.out⟩

end Go.Proofs.Ytabapkbfolncoaa
