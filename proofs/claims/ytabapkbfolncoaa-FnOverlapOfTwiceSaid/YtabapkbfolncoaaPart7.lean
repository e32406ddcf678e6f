/-
  The statements' helpers markIntS, heldIntS, markPartS, heldPartS: the memory that a call has made may be written.
-/
import Derived.Test.YtabapkbfolncoaaPart6
namespace Go.Proofs.Ytabapkbfolncoaa
open Go.RowKit

/-- k, k+1, .. -/
def marksI (k : Int) (n : Nat) : List Int := (List.range n).map fun (i : Nat) => k + (i : Int)
theorem marksI_len (k : Int) (n : Nat) : (marksI k n).length = n := by simp [marksI]
theorem marksI_at {k : Int} {n i : Nat} (h : i < n) : ((marksI k n).map (Value.int .i64))[i]? = some (.int .i64 (k + (i : Int))) := by simp [marksI, h]
theorem marksI_of {k : Int} {n : Nat} {ys : List Value} (hl : ys.length = n) (h : ∀ t, t < n → ys[t]? = some (.int .i64 (k + (t : Int)))) : ys = (marksI k n).map (Value.int .i64) := by
  refine List.ext_getElem? fun t => ?_
  by_cases ht : t < n
  · rw [h t ht, marksI_at ht]
  · rw [List.getElem?_eq_none (by omega), List.getElem?_eq_none (by simp [marksI]; omega)]

theorem markIntS_none (k : Int) (w : World) : Calls Try.prog 22 #[.slice none 0 0, .int .i64 k] w fun e w' => e = .returned (.int .i64 k) ∧ w = w' := by
  go_enter Try.func22, Try.ntmps22
  go_wp2
  go_loopw [1, 5] (fun k' i wr => k' = .int .i64 k ∧ i = .int .i64 0 ∧ wr = w) (fun _ i _ => 0)
  case atStart => exact ⟨rfl, rfl, rfl⟩
  case round =>
    obtain ⟨rfl, rfl, rfl⟩ := hrel
    go_wp2
    go_ret
    exact ⟨rfl, rfl⟩

set_option maxHeartbeats 1600000 in
theorem markIntS_any (g o n cap base : Nat) (xs : List Value) (k : Int) (w : World) (hm : Mine w base 1 (some ⟨g, o, none⟩) n cap xs) (hn : n ≤ 1048576) (hk : 0 ≤ k) (hk9 : k ≤ 4000000000000) :
    Calls Try.prog 22 #[.slice (some ⟨g, o, none⟩) n cap, .int .i64 k] w fun e w' => e = .returned (.int .i64 (k + (n : Int))) ∧ w.grownBy w' (some g) ∧ Mine w' base 1 (some ⟨g, o, none⟩) n cap ((marksI k n).map (Value.int .i64)) := by
  go_enter Try.func22, Try.ntmps22
  go_wp2
  go_loopw [1, 5] (fun k' i wr => ∃ (j : Nat) (ys : List Value), j ≤ n ∧ k' = .int .i64 (k + (j : Int)) ∧ i = .int .i64 j ∧ w.grownBy wr (some g) ∧ Mine wr base 1 (some ⟨g, o, none⟩) n cap ys ∧ ∀ t, t < j → ys[t]? = some (.int .i64 (k + (t : Int)))) (fun _ i _ => n - (intOf i).toNat)
  case atStart => exact ⟨0, xs, Nat.zero_le _, by simp, rfl, World.grownBy.refl _ _, hm, fun t h => by omega⟩
  case round wr =>
    obtain ⟨j, ys, hj, rfl, rfl, hg, hy, ht⟩ := hrel
    by_cases hlt : j < n
    · have hnc := hy.2.1
      have hl := hy.1
      obtain ⟨⟨v0, q0⟩, f0⟩ := hy.can (j := j) (by omega)
      have hs1 := Lib.hid (hy.set_ (j := j) (by omega) (.int .i64 (k + (j : Int))))
      have G1 := Lib.hid (hg.trans (only_setCell _ g (o + j) (.int .i64 (k + (j : Int)))))
      have HT := Lib.hid ht
      have l1 : (j : Int) < (n : Int) := by omega
      have l2 : (0 : Int) ≤ (j : Int) := by omega
      clear hg hy ht
      go_wp2
      refine ⟨⟨j + 1, _, by omega, ?_, by go_num, G1.out, hs1.out, fun t hlt' => ?_⟩, ?_⟩
      · congr 1; omega
      · rw [List.getElem?_set]
        by_cases e0 : j = t
        · subst e0
          rw [if_pos rfl, if_pos (by omega)]
        · rw [if_neg e0]; exact HT.out t (by omega)
      · simp [intOf]; omega
    · obtain rfl : j = n := by omega
      have hl := hy.1
      go_wp2
      go_ret
      exact ⟨rfl, hg, (marksI_of (by omega) ht) ▸ hy⟩

theorem heldIntS_none (k : Int) (w : World) : Calls Try.prog 23 #[.slice none 0 0, .int .i64 k] w fun e w' => e = .returned (.int .i64 k) ∧ w = w' := by
  go_enter Try.func23, Try.ntmps23
  go_wp2
  go_loopw [1, 5] (fun k' i wr => k' = .int .i64 k ∧ i = .int .i64 0 ∧ wr = w) (fun _ i _ => 0)
  case atStart => exact ⟨rfl, rfl, rfl⟩
  case round =>
    obtain ⟨rfl, rfl, rfl⟩ := hrel
    go_wp2
    go_ret
    exact ⟨rfl, rfl⟩

set_option maxHeartbeats 1600000 in
theorem heldIntS_any (g o n cap base : Nat) (k : Int) (w : World) (hm : Mine w base 1 (some ⟨g, o, none⟩) n cap ((marksI k n).map (Value.int .i64))) (hn : n ≤ 1048576) (hk : 0 ≤ k) (hk9 : k ≤ 4000000000000) :
    Calls Try.prog 23 #[.slice (some ⟨g, o, none⟩) n cap, .int .i64 k] w fun e w' => e = .returned (.int .i64 (k + (n : Int))) ∧ w = w' := by
  have Q : ∀ j, j < n → w.cell? ⟨g, o + j, none⟩ = some (.int .i64 (k + (j : Int))) := fun j hlt => by
    rw [hm.at_ (j := j) (by omega), marksI_at hlt]
  clear hm
  go_enter Try.func23, Try.ntmps23
  go_wp2
  go_loopw [1, 5] (fun k' i wr => ∃ (j : Nat), j ≤ n ∧ k' = .int .i64 (k + (j : Int)) ∧ i = .int .i64 j ∧ wr = w) (fun _ i _ => n - (intOf i).toNat)
  case atStart => exact ⟨0, Nat.zero_le _, by simp, rfl, rfl⟩
  case round =>
    obtain ⟨j, hj, rfl, rfl, rfl⟩ := hrel
    by_cases hlt : j < n
    · have q0 := Q j hlt
      have l1 : (j : Int) < (n : Int) := by omega
      have l2 : (0 : Int) ≤ (j : Int) := by omega
      go_wp2
      refine ⟨⟨j + 1, by omega, ?_, by go_num, trivial⟩, ?_⟩
      · congr 1; omega
      · simp [intOf]; omega
    · obtain rfl : j = n := by omega
      go_wp2
      go_ret
      exact ⟨rfl, rfl⟩

/-- Where the marks of part j start. Not reducible. -/
def kAt (V : List PV) (j : Nat) : Int := 1 + (((V.take j).map fun p => 2 + p.xs.length).sum : Nat)
/-- A part that is marked from k on. Not reducible. -/
def markV (p : PV) (k : Int) : PV := ⟨k, (k + 1) % 3 == 0, p.blk, p.off, p.cap, marksI (k + 1 + 1) p.xs.length⟩
theorem markV_len (p : PV) (k : Int) : (markV p k).xs.length = p.xs.length := by simp [markV, marksI_len]
theorem markV_again (p : PV) (k : Int) : markV (markV p k) k = markV p k := by
  show PV.mk _ _ _ _ _ (marksI (k + 1 + 1) (markV p k).xs.length) = _
  rw [markV_len]; rfl
theorem kAt_lens {V V' : List PV} (h : V'.map (fun p => p.xs.length) = V.map fun p => p.xs.length) (j : Nat) : kAt V' j = kAt V j := by
  have e : ∀ U : List PV, (U.take j).map (fun p => 2 + p.xs.length) = ((U.map fun p => p.xs.length).take j).map (2 + ·) := fun U => by
    rw [← List.map_take, List.map_map]; rfl
  unfold kAt; rw [e, e, h]
theorem kAt_succ {V : List PV} {j : Nat} (h : j < V.length) : kAt V (j + 1) = kAt V j + 2 + ((V.getD j default).xs.length : Int) := by
  unfold kAt
  rw [List.take_succ_eq_append_getElem h, List.map_append, List.sum_append, List.getD_eq_getElem?_getD, List.getElem?_eq_getElem h]
  simp
  omega
theorem kAt_low (V : List PV) (j : Nat) : 0 ≤ kAt V j := by unfold kAt; omega
theorem kAt_high {V : List PV} {M : Nat} (hM : ∀ p ∈ V, p.xs.length ≤ M) : ∀ j, kAt V j ≤ 1 + (j : Int) * (2 + (M : Int))
  | 0 => by simp [kAt]
  | j + 1 => by
    have ih := kAt_high hM j
    rw [Int.natCast_add, Int.add_mul]
    rcases Nat.lt_or_ge j V.length with h | h
    · rw [kAt_succ h]
      have := hM (V.getD j default) (by rw [List.getD_eq_getElem?_getD, List.getElem?_eq_getElem h]; exact List.getElem_mem _)
      omega
    · have e : kAt V (j + 1) = kAt V j := by unfold kAt; rw [List.take_of_length_le (by omega), List.take_of_length_le h]
      rw [e]; omega
/-- Three cells written: the place j of the row. -/
theorem flat_set2 {q : PV} : ∀ (V : List PV) (j : Nat), (∀ h : j < V.length, V[j].blk = q.blk ∧ V[j].off = q.off ∧ V[j].cap = q.cap ∧ V[j].xs.length = q.xs.length) →
    (V.set j q).flatMap encV = ((V.flatMap encV).set (j * 3) (.int .i64 q.pos)).set (j * 3 + 1) (.bool q.more)
  | [], j, _ => by simp
  | p :: V, 0, h => by
    obtain ⟨h1, h2, h3, h4⟩ := h (by simp)
    simp at h1 h2 h3 h4
    simp [encV, h1, h2, h3, h4]
  | p :: V, j + 1, h => by
    have ih := flat_set2 (q := q) V j (fun hj => by have := h (by simp; omega); simpa using this)
    rw [show (j + 1) * 3 = j * 3 + 3 by omega, show j * 3 + 3 + 1 = j * 3 + 1 + 3 by omega]
    show encV p ++ (V.set j q).flatMap encV = ((encV p ++ V.flatMap encV).set (j * 3 + 3) _).set (j * 3 + 1 + 3) _
    rw [ih]; rfl
theorem flat_set3 {q : PV} : ∀ (V : List PV) (j : Nat), (V.set j q).flatMap encV = (((V.flatMap encV).set (j * 3) (.int .i64 q.pos)).set (j * 3 + 1) (.bool q.more)).set (j * 3 + 2) (.slice (some ⟨q.blk, q.off, none⟩) q.xs.length q.cap)
  | [], j => by simp
  | p :: V, 0 => by simp [encV]
  | p :: V, j + 1 => by
    have ih := flat_set3 (q := q) V j
    rw [show (j + 1) * 3 = j * 3 + 3 by omega, show j * 3 + 3 + 1 = j * 3 + 1 + 3 by omega, show j * 3 + 3 + 2 = j * 3 + 2 + 3 by omega]
    show encV p ++ (V.set j q).flatMap encV = (((encV p ++ V.flatMap encV).set (j * 3 + 3) _).set (j * 3 + 1 + 3) _).set (j * 3 + 2 + 3) _
    rw [ih]; rfl

theorem dflt_get {V : List PV} {j : Nat} (h : j < V.length) : V.getD j default ∈ V := by rw [List.getD_eq_getElem?_getD, List.getElem?_eq_getElem h]; exact List.getElem_mem _
theorem PMine.cells {w : World} {base n cap g o : Nat} {V : List PV} (h : PMine w base (some ⟨g, o, none⟩) n cap V) {j : Nat} (hj : j < n) :
    w.cell? ⟨g, o + j * 3, none⟩ = some (.int .i64 (V.getD j default).pos) ∧ w.cell? ⟨g, o + j * 3 + 1, none⟩ = some (.bool (V.getD j default).more) ∧
    w.cell? ⟨g, o + j * 3 + 2, none⟩ = some (.slice (some ⟨(V.getD j default).blk, (V.getD j default).off, none⟩) (V.getD j default).xs.length (V.getD j default).cap) := by
  have hl := h.1
  have F : ∀ c, c < 3 → w.cell? ⟨g, o + (j * 3 + c), none⟩ = (encV (V.getD j default))[c]? := fun c hc => by
    rw [h.2.1.at_ (j := j * 3 + c) (by omega)]
    exact flat_get encV_len V j (by omega) c hc
  exact ⟨F 0 (by omega), F 1 (by omega), F 2 (by omega)⟩
/-- One part of the row is another one now: the row's block and the block of its data were written, and nothing else. -/
theorem PMine.put {w w1 w2 : World} {base n cap g o : Nat} {V : List PV} (h : PMine w base (some ⟨g, o, none⟩) n cap V) {j : Nat} (hj : j < n) {q : PV} (hq : q.blk = (V.getD j default).blk)
    (hg : w.grownBy w1 (some g)) (hm : Mine w1 base 3 (some ⟨g, o, none⟩) n cap ((V.set j q).flatMap encV)) (hg2 : w1.grownBy w2 (some q.blk)) (hd : DMine w2 base q) : PMine w2 base (some ⟨g, o, none⟩) n cap (V.set j q) := by
  obtain ⟨h1, h2, h3, h4⟩ := h
  have hp := h3 _ (dflt_get (V := V) (j := j) (by omega))
  have hne : q.blk ≠ g := fun e => hp.2 (by rw [← hq, e]; rfl)
  have s1 := hg.size
  have s2 := hg2.size
  refine ⟨by simpa using h1, hm.kept hg2 (fun g' e e' => by simp at e; injection e' with e'; omega), fun r hr => ?_, ?_⟩
  · obtain ⟨i, hi, rfl⟩ := List.getElem_of_mem hr
    rw [List.length_set] at hi
    rw [List.getElem_set]
    split
    · exact ⟨hd, fun e => by simp at e; omega⟩
    · rename_i hij
      have hr0 := h3 _ (List.getElem_mem hi)
      refine ⟨(hr0.1.far hg (fun e => hr0.2 (by rw [← e]; rfl))).far hg2 (fun e => ?_), hr0.2⟩
      rw [List.pairwise_iff_getElem] at h4
      have hjl : j < V.length := by omega
      have e1 : V.getD j default = V[j] := by rw [List.getD_eq_getElem?_getD, List.getElem?_eq_getElem hjl]; rfl
      rw [hq, e1] at e
      rcases Nat.lt_or_gt_of_ne hij with hlt | hlt
      · exact h4 j i hjl hi hlt e
      · exact h4 i j hi hjl hlt e.symm
  · rw [List.pairwise_iff_getElem] at h4 ⊢
    intro i k hi hk hik
    have hi' : i < V.length := by simpa using hi
    have hk' : k < V.length := by simpa using hk
    rw [List.getElem_set, List.getElem_set]
    have hjl : j < V.length := by omega
    have e1 : V.getD j default = V[j] := by rw [List.getD_eq_getElem?_getD, List.getElem?_eq_getElem hjl]; rfl
    rw [e1] at hq
    split
    · subst_vars
      rw [if_neg (by omega), hq]; exact h4 _ _ hi' hk' hik
    · split
      · subst_vars
        rw [hq]; exact h4 _ _ hi' hk' hik
      · exact h4 _ _ hi' hk' hik

/-- Every part of the row is marked, one after the other. -/
def AllMarked (V : List PV) (n : Nat) : Prop := ∀ j, j < n → V.getD j default = markV (V.getD j default) (kAt V j)

set_option maxHeartbeats 3200000 in
theorem markPartS_any (A : Option Addr) (n cap base : Nat) (V : List PV) (w : World) (hm : PMine w base A n cap V) (hn : n ≤ 1000) (hM : ∀ p ∈ V, p.xs.length ≤ 1000) :
    Calls Try.prog 21 #[.slice A n cap, .int .i64 1] w fun e w' => ∃ V' : List PV, e = .returned (.int .i64 (kAt V' n)) ∧ AllMarked V' n ∧ (∀ p ∈ V', p.xs.length ≤ 1000) ∧ PMine w' base A n cap V' ∧ Below base w w' := by
  have HL := Lib.hid hm.1
  have HM := Lib.hid hM
  clear hM
  go_enter Try.func21, Try.ntmps21
  go_wp2
  go_loopw [1, 5] (fun k' i wr => ∃ (j : Nat) (V' : List PV), j ≤ n ∧ k' = .int .i64 (kAt V' j) ∧ i = .int .i64 j ∧ PMine wr base A n cap V' ∧ (V'.map fun p => p.xs.length) = (V.map fun p => p.xs.length) ∧ AllMarked V' j ∧ Below base w wr) (fun _ i _ => n - (intOf i).toNat)
  case atStart => exact ⟨0, V, Nat.zero_le _, by simp [kAt], rfl, hm, rfl, fun j h => by omega, Below.refl _ _⟩
  case round =>
    obtain ⟨j, V', hj, rfl, rfl, hP, hlens, hall, hB⟩ := hrel
    have HM' : Hid (∀ p ∈ V', p.xs.length ≤ 1000) := Lib.hid fun p hp => by
      have h1 : p.xs.length ∈ V'.map fun p => p.xs.length := List.mem_map.2 ⟨p, hp, rfl⟩
      rw [hlens] at h1
      obtain ⟨q, hq, e⟩ := List.mem_map.1 h1
      have := HM.out q hq
      omega
    have PP := Lib.hid hP
    have LL := Lib.hid hlens
    have AA := Lib.hid hall
    have BB := Lib.hid hB
    clear hP hlens hall hB hm
    have hl' := PP.out.1
    by_cases hlt : j < n
    · have hnc := PP.out.2.1.2.1
      obtain ⟨g, o, rfl⟩ := some_of' PP.out.2.1 (by omega)
      obtain ⟨p, hp⟩ : ∃ p, p = V'.getD j default := ⟨_, rfl⟩
      have HP := Lib.hid hp
      have hpm : p ∈ V' := by rw [hp]; exact dflt_get (by omega)
      have hp9 := HM'.out p hpm
      have HD := Lib.hid (PP.out.2.2.1 p hpm)
      have hpb := HD.out.1.lt
      have hgb := PP.out.2.1.lt rfl
      have hne : g ≠ p.blk := fun e => HD.out.2 (by rw [← e]; rfl)
      have ⟨_, _, q2⟩ := PP.out.cells hlt
      rw [← hp] at q2
      obtain ⟨k, hk⟩ : ∃ k, k = kAt V' j := ⟨_, rfl⟩
      have HK := Lib.hid hk
      have hk0 := kAt_low V' j
      have hk9 := kAt_high HM'.out j
      rw [← hk] at hk0 hk9 ⊢
      have hjm : (j : Int) * (2 + ((1000 : Nat) : Int)) ≤ 2000000 := by
        have : j * 1002 ≤ 1000 * 1002 := Nat.mul_le_mul_right _ (by omega)
        omega
      obtain ⟨⟨v0, c0⟩, f0⟩ := PP.out.2.1.can (j := j * 3) (by omega)
      have m1 := PP.out.2.1.set_ (j := j * 3) (by omega) (.int .i64 k)
      obtain ⟨⟨v1, c1⟩, f1⟩ := m1.can (j := j * 3 + 1) (by omega)
      rw [← Nat.add_assoc] at c1 f1
      have m2 := m1.set_ (j := j * 3 + 1) (by omega) (.bool ((k + 1) % 3 == 0))
      rw [← Nat.add_assoc] at m2
      have G2 := (only_setCell wr g (o + j * 3) (.int .i64 k)).trans (only_setCell _ g (o + j * 3 + 1) (.bool ((k + 1) % 3 == 0)))
      have D2 := HD.out.1.far G2 hne
      have HG2 := Lib.hid G2
      have HM2 : Hid (Mine ((wr.setCell ⟨g, o + j * 3, none⟩ (.int .i64 k)).setCell ⟨g, o + j * 3 + 1, none⟩ (.bool ((k + 1) % 3 == 0))) base 3 (some ⟨g, o, none⟩) n cap ((V'.set j (markV p k)).flatMap encV)) := Lib.hid (by
        rw [flat_set2 V' j (fun h => ?_)]
        · exact m2
        · have e1 : V'[j] = p := by rw [HP.out, List.getD_eq_getElem?_getD, List.getElem?_eq_getElem h]; rfl
          rw [e1]; exact ⟨rfl, rfl, rfl, (markV_len p k).symm⟩)
      have HD2 := Lib.hid D2
      have l1 : (j : Int) < (n : Int) := by omega
      have l2 : (0 : Int) ≤ (j : Int) := by omega
      have l3 : ¬ (k + 1 < 0) := by omega
      clear G2 D2 m1 m2 hk hp
      go_wp2_with fail
      refine (markIntS_any p.blk p.off p.xs.length p.cap base _ (k + 1 + 1) _ HD2.out (by omega) (by omega) (by omega)).mono ?_
      rintro e w3 ⟨rfl, g3, m3⟩
      have zz := HG2.out.size
      have HP3 : Hid (PMine w3 base (some ⟨g, o, none⟩) n cap (V'.set j (markV p k))) := Lib.hid (PP.out.put hlt (by rw [← HP.out]; rfl) HG2.out HM2.out g3 (by
        show Mine w3 base 1 _ (markV p k).xs.length p.cap _
        rw [markV_len]; exact m3))
      have HB3 := Lib.hid (only_below (only_below BB.out HG2.out (by omega) hgb.1) g3 (by omega) hpb.1)
      have HE : Hid (∀ t, (V'.set j (markV p k)).getD t default = if t = j then markV p k else V'.getD t default) := Lib.hid fun t => by
        rw [List.getD_eq_getElem?_getD, List.getElem?_set, List.getD_eq_getElem?_getD]
        by_cases e : t = j
        · subst e; rw [if_pos rfl, if_pos rfl, if_pos (by omega)]; rfl
        · rw [if_neg (fun h => e h.symm), if_neg e]
      have HL3 : Hid (((V'.set j (markV p k)).map fun p => p.xs.length) = (V'.map fun p => p.xs.length)) := Lib.hid (by
        rw [List.map_set, markV_len]
        refine List.ext_getElem? fun t => ?_
        rw [List.getElem?_set]
        by_cases e : j = t
        · subst e
          rw [if_pos rfl, if_pos (by simpa using (by omega : j < V'.length)), List.getElem?_map, List.getElem?_eq_getElem (show j < V'.length by omega)]
          have e1 : V'[j] = p := by rw [HP.out, List.getD_eq_getElem?_getD, List.getElem?_eq_getElem (show j < V'.length by omega)]; rfl
          rw [← e1]; rfl
        · rw [if_neg e])
      have HK3 : Hid (∀ t, kAt (V'.set j (markV p k)) t = kAt V' t) := Lib.hid fun t => kAt_lens HL3.out t
      have HA3 : Hid (AllMarked (V'.set j (markV p k)) (j + 1)) := Lib.hid fun t ht => by
        rw [HE.out t, HK3.out t]
        by_cases e : t = j
        · subst e; rw [if_pos rfl, ← HK.out, markV_again]
        · rw [if_neg e]; exact AA.out t (by omega)
      have HK4 : Hid (k + 1 + 1 + (p.xs.length : Int) = kAt (V'.set j (markV p k)) (j + 1)) := Lib.hid (by
        rw [HK3.out, kAt_succ (by omega), ← HK.out, ← HP.out]; omega)
      clear g3 m3
      go_wp2
      refine ⟨⟨j + 1, V'.set j (markV p k), by omega, by rw [HK4.out], by go_num, HP3.out, HL3.out.trans LL.out, HA3.out, HB3.out⟩, ?_⟩
      simp [intOf]; omega
    · obtain rfl : j = n := by omega
      go_wp2
      go_ret
      exact ⟨V', rfl, AA.out, HM'.out, PP.out, BB.out⟩

end Go.Proofs.Ytabapkbfolncoaa
