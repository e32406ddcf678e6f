/-
  The statements' helpers on the memory that a call has made, wherever it lies: markIntS, heldIntS (nil, too), markPartS (what it leaves alone).
-/
import Derived.Test.YtabapkbfolncoaaPart7
namespace Go.Proofs.Ytabapkbfolncoaa
open Go.RowKit

theorem markIntS_mine (A : Option Addr) (n cap base : Nat) (xs : List Value) (k : Int) (w : World) (hm : Mine w base 1 A n cap xs) (hn : n ≤ 1048576) (hk : 0 ≤ k) (hk9 : k ≤ 4000000000000) :
    Calls Try.prog 22 #[.slice A n cap, .int .i64 k] w fun e w' => e = .returned (.int .i64 (k + (n : Int))) ∧ Below base w w' ∧ w.heap.size ≤ w'.heap.size ∧ Mine w' base 1 A n cap ((marksI k n).map (Value.int .i64)) := by
  have hm' := hm
  obtain ⟨h1, h2, h3, ⟨rfl, rfl⟩ | ⟨g, o, rfl, hg, hl, -⟩⟩ := hm
  · obtain rfl : n = 0 := by omega
    refine (markIntS_none k w).mono fun e w' ⟨he, hw⟩ => ⟨by rw [he]; simp, by rw [hw]; exact Below.refl _ _, by rw [hw]; exact Nat.le_refl _, ?_⟩
    exact Mine.nil_
  · refine (markIntS_any g o n cap base xs k w hm' hn hk hk9).mono fun e w' ⟨he, hgr, hm2⟩ => ⟨he, ⟨hgr.os, hgr.tape, hgr.output, ?_, fun j hj => ?_⟩, hgr.size, hm2⟩
    · have := hgr.size; omega
    · exact hgr.block j (by omega) (fun e => by injection e with e; omega)
theorem heldIntS_mine (A : Option Addr) (n cap base : Nat) (k : Int) (w : World) (hm : Mine w base 1 A n cap ((marksI k n).map (Value.int .i64))) (hn : n ≤ 1048576) (hk : 0 ≤ k) (hk9 : k ≤ 4000000000000) :
    Calls Try.prog 23 #[.slice A n cap, .int .i64 k] w fun e w' => e = .returned (.int .i64 (k + (n : Int))) ∧ w = w' := by
  have hm' := hm
  obtain ⟨h1, h2, h3, ⟨rfl, rfl⟩ | ⟨g, o, rfl, hg, hl, -⟩⟩ := hm
  · obtain rfl : n = 0 := by omega
    exact (heldIntS_none k w).mono fun e w' ⟨he, hw⟩ => ⟨by rw [he]; simp, hw⟩
  · exact heldIntS_any g o n cap base k w hm' hn hk hk9

set_option maxHeartbeats 3200000 in
theorem markPartS_far (A : Option Addr) (n cap base T : Nat) (V : List PV) (w : World) (hm : PMine w base A n cap V) (hn : n ≤ 1048576) (hM : ∀ p ∈ V, p.xs.length ≤ 1048576) (hT : ∀ p ∈ V, p.blk < T) (hTA : ∀ g, A.map (·.block) = some g → g < T) :
    Calls Try.prog 21 #[.slice A n cap, .int .i64 1] w fun e w' => ∃ k : Int, e = .returned (.int .i64 k) ∧ 0 ≤ k ∧ Below base w w' ∧ w.heap.size ≤ w'.heap.size ∧ ∀ j, T ≤ j → j < w.heap.size → w'.heap[j]? = w.heap[j]? := by
  have HL := Lib.hid hm.1
  have HM := Lib.hid hM
  have HT0 := Lib.hid hT
  have HTA := Lib.hid hTA
  clear hM hT hTA
  go_enter Try.func21, Try.ntmps21
  go_wp2
  go_loopw [1, 5] (fun k' i wr => ∃ (j : Nat) (V' : List PV), j ≤ n ∧ k' = .int .i64 (kAt V' j) ∧ i = .int .i64 j ∧ PMine wr base A n cap V' ∧ (V'.map fun p => p.xs.length) = (V.map fun p => p.xs.length) ∧ (∀ p ∈ V', p.blk < T) ∧ (w.heap.size ≤ wr.heap.size ∧ ∀ j, T ≤ j → j < w.heap.size → wr.heap[j]? = w.heap[j]?) ∧ Below base w wr) (fun _ i _ => n - (intOf i).toNat)
  case atStart => exact ⟨0, V, Nat.zero_le _, by simp [kAt], rfl, hm, rfl, HT0.out, ⟨Nat.le_refl _, fun j _ _ => rfl⟩, Below.refl _ _⟩
  case round =>
    obtain ⟨j, V', hj, rfl, rfl, hP, hlens, hall, hfar, hB⟩ := hrel
    have HM' : Hid (∀ p ∈ V', p.xs.length ≤ 1048576) := Lib.hid fun p hp => by
      have h1 : p.xs.length ∈ V'.map fun p => p.xs.length := List.mem_map.2 ⟨p, hp, rfl⟩
      rw [hlens] at h1
      obtain ⟨q, hq, e⟩ := List.mem_map.1 h1
      have := HM.out q hq
      omega
    have PP := Lib.hid hP
    have LL := Lib.hid hlens
    have AA := Lib.hid hall
    have FF := Lib.hid hfar
    have BB := Lib.hid hB
    clear hP hlens hall hfar hB hm
    have hl' := PP.out.1
    by_cases hlt : j < n
    · have hnc := PP.out.2.1.2.1
      obtain ⟨g, o, rfl⟩ := some_of' PP.out.2.1 (by omega)
      obtain ⟨p, hp⟩ : ∃ p, p = V'.getD j default := ⟨_, rfl⟩
      have HP := Lib.hid hp
      have hpm : p ∈ V' := by rw [hp]; exact dflt_get (by omega)
      have hp9 := HM'.out p hpm
      have HD := Lib.hid (PP.out.2.2.1 p hpm)
      have hpb := HD.out.1.lt
      have hgb := PP.out.2.1.lt rfl
      have hne : g ≠ p.blk := fun e => HD.out.2 (by rw [← e]; rfl)
      have ⟨_, _, q2⟩ := PP.out.cells hlt
      rw [← hp] at q2
      obtain ⟨k, hk⟩ : ∃ k, k = kAt V' j := ⟨_, rfl⟩
      have HK := Lib.hid hk
      have hk0 := kAt_low V' j
      have hk9 := kAt_high HM'.out j
      rw [← hk] at hk0 hk9 ⊢
      have hjm : (j : Int) * (2 + ((1048576 : Nat) : Int)) ≤ 1099513724928 := by
        have : j * 1048578 ≤ 1048576 * 1048578 := Nat.mul_le_mul_right _ (by omega)
        omega
      obtain ⟨⟨v0, c0⟩, f0⟩ := PP.out.2.1.can (j := j * 3) (by omega)
      have m1 := PP.out.2.1.set_ (j := j * 3) (by omega) (.int .i64 k)
      obtain ⟨⟨v1, c1⟩, f1⟩ := m1.can (j := j * 3 + 1) (by omega)
      rw [← Nat.add_assoc] at c1 f1
      have m2 := m1.set_ (j := j * 3 + 1) (by omega) (.bool ((k + 1) % 3 == 0))
      rw [← Nat.add_assoc] at m2
      have G2 := (only_setCell wr g (o + j * 3) (.int .i64 k)).trans (only_setCell _ g (o + j * 3 + 1) (.bool ((k + 1) % 3 == 0)))
      have D2 := HD.out.1.far G2 hne
      have HG2 := Lib.hid G2
      have HM2 : Hid (Mine ((wr.setCell ⟨g, o + j * 3, none⟩ (.int .i64 k)).setCell ⟨g, o + j * 3 + 1, none⟩ (.bool ((k + 1) % 3 == 0))) base 3 (some ⟨g, o, none⟩) n cap ((V'.set j (markV p k)).flatMap encV)) := Lib.hid (by
        rw [flat_set2 V' j (fun h => ?_)]
        · exact m2
        · have e1 : V'[j] = p := by rw [HP.out, List.getD_eq_getElem?_getD, List.getElem?_eq_getElem h]; rfl
          rw [e1]; exact ⟨rfl, rfl, rfl, (markV_len p k).symm⟩)
      have HD2 := Lib.hid D2
      have l1 : (j : Int) < (n : Int) := by omega
      have l2 : (0 : Int) ≤ (j : Int) := by omega
      have l3 : ¬ (k + 1 < 0) := by omega
      clear G2 D2 m1 m2 hk hp
      go_wp2_with fail
      refine (markIntS_any p.blk p.off p.xs.length p.cap base _ (k + 1 + 1) _ HD2.out (by omega) (by omega) (by omega)).mono ?_
      rintro e w3 ⟨rfl, g3, m3⟩
      have zz := HG2.out.size
      have HP3 : Hid (PMine w3 base (some ⟨g, o, none⟩) n cap (V'.set j (markV p k))) := Lib.hid (PP.out.put hlt (by rw [← HP.out]; rfl) HG2.out HM2.out g3 (by
        show Mine w3 base 1 _ (markV p k).xs.length p.cap _
        rw [markV_len]; exact m3))
      have HB3 := Lib.hid (only_below (only_below BB.out HG2.out (by omega) hgb.1) g3 (by omega) hpb.1)
      have HE : Hid (∀ t, (V'.set j (markV p k)).getD t default = if t = j then markV p k else V'.getD t default) := Lib.hid fun t => by
        rw [List.getD_eq_getElem?_getD, List.getElem?_set, List.getD_eq_getElem?_getD]
        by_cases e : t = j
        · subst e; rw [if_pos rfl, if_pos rfl, if_pos (by omega)]; rfl
        · rw [if_neg (fun h => e h.symm), if_neg e]
      have HL3 : Hid (((V'.set j (markV p k)).map fun p => p.xs.length) = (V'.map fun p => p.xs.length)) := Lib.hid (by
        rw [List.map_set, markV_len]
        refine List.ext_getElem? fun t => ?_
        rw [List.getElem?_set]
        by_cases e : j = t
        · subst e
          rw [if_pos rfl, if_pos (by simpa using (by omega : j < V'.length)), List.getElem?_map, List.getElem?_eq_getElem (show j < V'.length by omega)]
          have e1 : V'[j] = p := by rw [HP.out, List.getD_eq_getElem?_getD, List.getElem?_eq_getElem (show j < V'.length by omega)]; rfl
          rw [← e1]; rfl
        · rw [if_neg e])
      have HK3 : Hid (∀ t, kAt (V'.set j (markV p k)) t = kAt V' t) := Lib.hid fun t => kAt_lens HL3.out t
      have HA3 : Hid (∀ q ∈ V'.set j (markV p k), q.blk < T) := Lib.hid fun q hq => by
        rcases List.mem_or_eq_of_mem_set hq with h | h
        · exact AA.out q h
        · rw [h]; exact AA.out p (by rw [HP.out]; exact dflt_get (by omega))
      have HF3 : Hid (w.heap.size ≤ w3.heap.size ∧ ∀ j, T ≤ j → j < w.heap.size → w3.heap[j]? = w.heap[j]?) := Lib.hid ⟨by have := FF.out.1; have := g3.size; omega, fun j' h1 h2 => by
        have hgT := HTA.out g rfl
        have hpT := AA.out p (by rw [HP.out]; exact dflt_get (by omega))
        have zb := FF.out.1
        rw [g3.block j' (by omega) (fun e => by injection e with e; omega), HG2.out.block j' (by omega) (fun e => by injection e with e; omega)]
        exact FF.out.2 j' h1 h2⟩
      have HK4 : Hid (k + 1 + 1 + (p.xs.length : Int) = kAt (V'.set j (markV p k)) (j + 1)) := Lib.hid (by
        rw [HK3.out, kAt_succ (by omega), ← HK.out, ← HP.out]; omega)
      clear g3 m3
      go_wp2
      refine ⟨⟨j + 1, V'.set j (markV p k), by omega, by rw [HK4.out], by go_num, HP3.out, HL3.out.trans LL.out, HA3.out, HF3.out, HB3.out⟩, ?_⟩
      simp [intOf]; omega
    · obtain rfl : j = n := by omega
      go_wp2
      go_ret
      exact ⟨_, rfl, kAt_low V' j, BB.out, FF.out⟩

theorem Mine.low {w w' : World} {base size n cap B : Nat} {A : Option Addr} {xs : List Value} (h : Mine w base size A n cap xs) (hs : w.heap.size ≤ w'.heap.size) (hb : Below B w w') (hB : ∀ g, A.map (·.block) = some g → g < B) : Mine w' base size A n cap xs :=
  h.keep hs fun g hg => hb.block g (hB g hg)
end Go.Proofs.Ytabapkbfolncoaa
