/-
  ValidTable of the reference: the walk.
-/
import Derived.Test.YtogoeehkpebhaaaMap3
namespace Go.Proofs.Ytogoeehkpebhaaa
open Go.RowKit
attribute [local go_sem ↓] Go.wp_at_zero Go.wp_at_succ

set_option maxHeartbeats 3200000 in
theorem specvalidTable_any (A : Option Addr) (n c : Nat) (L : List Mp) (w : World) (hn : L.length = n) (hm : n ≤ 9223372036854775807) (hr : MRow w w.heap.size A L) :
    Calls Try.prog 39 #[.slice A n c] w fun e w' => e = .returned (.bool (validM L)) ∧ Below w.heap.size w w' := by
  go_enter Try.func39, Try.ntmps39
  go_wp2
  go_loopw [3] (fun i wr => ∃ k : Nat, k ≤ n ∧ i = .int .i64 k ∧ Below w.heap.size w wr ∧ ∀ j, j < k → goodM L j = true) (fun i _ => n - (intOf i).toNat)
  case atStart => exact ⟨0, Nat.zero_le _, rfl, Below.refl _ _, fun j hj => absurd hj (by omega)⟩
  case round =>
    obtain ⟨k, hk, rfl, hB, hgood⟩ := hrel
    obtain ⟨wo, rfl⟩ : ∃ wo : World, wo = wr := ⟨_, rfl⟩
    have BB := Lib.hid hB
    have GG := Lib.hid hgood
    clear hB hgood
    by_cases hlt : k < n
    · obtain ⟨b, o, rfl, hbl, hc⟩ := hr.get (by omega)
      have HC := Lib.hid hc
      obtain ⟨q0, q1, q2, q3⟩ := hc k (by omega)
      obtain ⟨⟨x, y, p, t⟩, hx⟩ : ∃ q, q = L.getD k (0, 0, 0, 0) := ⟨_, rfl⟩
      rw [← hx] at q0 q1 q2 q3
      have HX := Lib.hid hx
      have c0 := (BB.out.cell (p := ⟨b, o + k * 4, none⟩) hbl).trans q0
      have c1 := (BB.out.cell (p := ⟨b, o + k * 4 + 1, none⟩) hbl).trans q1
      have c2 := (BB.out.cell (p := ⟨b, o + k * 4 + 2, none⟩) hbl).trans q2
      have c3 := (BB.out.cell (p := ⟨b, o + k * 4 + 3, none⟩) hbl).trans q3
      have l1 : (k : Int) < (n : Int) := by omega
      have l2 : (0 : Int) ≤ (k : Int) := by omega
      clear hc hx q0 q1 q2 q3
      have K1 := Lib.hid (Box.new_at wo wo.heap.size rfl 71 #[.int .i64 x, .int .i64 y, .int .i64 p, .int .i64 t] (by simp [maxLen]))
      have B1 := Lib.hid (next BB.out ((Below.refl wo.heap.size wo).alloc (Nat.le_refl _) (.cells #[.int .i64 x, .int .i64 y, .int .i64 p, .int .i64 t] 71)))
      go_wp2_with fail
      refine (validEnd_any x y _).mono ?_
      rintro e w2 ⟨rfl, b2⟩
      have K2 := Lib.hid (K1.out.below b2)
      have B2 := Lib.hid (next B1.out b2)
      clear b2 c0 c1 c2 c3 K1 B1
      have k0 := K2.out.at_ 0 rfl
      have k1 := K2.out.at_ 1 rfl
      have k2 := K2.out.at_ 2 rfl
      have k3 := K2.out.at_ 3 rfl
      cases h1 : vE x y
      · have HV := Lib.hid (validM_no (L := L) (i := k) (by omega) (goodM_no1 HX.out h1))
        clear h1
        go_wp2
        go_ret
        exact ⟨ret_bool HV.out.symm, B2.out⟩
      have H1 := Lib.hid h1
      clear h1
      cases h2 : inR p 1000 1007
      · have HV := Lib.hid (validM_no (L := L) (i := k) (by omega) (goodM_no2 HX.out h2))
        go_wp2_with fail
        refine (inRange_any p 1000 1007 _).mono ?_
        rintro e w' ⟨rfl, rfl⟩
        rw [h2]
        clear h2
        go_wp2
        go_ret
        exact ⟨ret_bool HV.out.symm, B2.out⟩
      have H2 := Lib.hid h2
      go_wp2_with fail
      refine (inRange_any p 1000 1007 _).mono ?_
      rintro e w' ⟨rfl, rfl⟩
      rw [h2]
      clear h2
      cases h3 : inR t 0 10000
      · have HV := Lib.hid (validM_no (L := L) (i := k) (by omega) (goodM_no3 HX.out h3))
        go_wp2_with fail
        refine (inRange_any t 0 10000 _).mono ?_
        rintro e w' ⟨rfl, rfl⟩
        rw [h3]
        clear h3
        go_wp2
        go_ret
        exact ⟨ret_bool HV.out.symm, B2.out⟩
      have H3 := Lib.hid h3
      go_wp2_with fail
      refine (inRange_any t 0 10000 _).mono ?_
      rintro e w' ⟨rfl, rfl⟩
      rw [h3]
      clear h3 k0 k1 k2 k3
      go_wp2_with fail
      go_loopw [5] (fun i wr => ∃ l : Nat, l ≤ k ∧ i = .int .i64 l ∧ Box wr wo.heap.size wo.heap.size [.int .i64 x, .int .i64 y, .int .i64 p, .int .i64 t] ∧ Below w.heap.size w wr ∧ ∀ j, j < l → sameE x y (L.getD j (0, 0, 0, 0)) = false ∧ sameP p (L.getD j (0, 0, 0, 0)) = false) (fun i _ => k - (intOf i).toNat)
      case atStart => exact ⟨0, Nat.zero_le _, rfl, K2.out, B2.out, fun j hj => absurd hj (by omega)⟩
      case round =>
        obtain ⟨l, hl, rfl, hK, hB, hno⟩ := hrel
        have B3 := Lib.hid hB
        have K3 := Lib.hid hK
        have NN := Lib.hid hno
        clear hB hno B2 hK K2
        by_cases hll : l < k
        · obtain ⟨q0, q1, q2, q3⟩ := HC.out l (by omega)
          obtain ⟨⟨x', y', p', t'⟩, hx'⟩ : ∃ q, q = L.getD l (0, 0, 0, 0) := ⟨_, rfl⟩
          rw [← hx'] at q0 q1 q2 q3
          have HX' := Lib.hid hx'
          have c0 := (B3.out.cell (p := ⟨b, o + l * 4, none⟩) hbl).trans q0
          have c1 := (B3.out.cell (p := ⟨b, o + l * 4 + 1, none⟩) hbl).trans q1
          have c2 := (B3.out.cell (p := ⟨b, o + l * 4 + 2, none⟩) hbl).trans q2
          have c3 := (B3.out.cell (p := ⟨b, o + l * 4 + 3, none⟩) hbl).trans q3
          have k0 := K3.out.at_ 0 rfl
          have k1 := K3.out.at_ 1 rfl
          have k2 := K3.out.at_ 2 rfl
          have k3 := K3.out.at_ 3 rfl
          have m1 : (l : Int) < (k : Int) := by omega
          have m2 : (0 : Int) ≤ (l : Int) := by omega
          have m3 : (l : Int) < (n : Int) := by omega
          have heq := fun w => run_eql_end w x' y' x y
          clear hx' q0 q1 q2 q3
          cases he : sameE x y (x', y', p', t')
          · have hd : decide (x' = x ∧ y' = y) = false := he
            have HE := Lib.hid he
            rw [hd] at heq
            cases hp : sameP p (x', y', p', t')
            · have hpd : (p' == p) = false := by simpa [sameP] using hp
              have HN : Hid (∀ j, j < l + 1 → sameE x y (L.getD j (0, 0, 0, 0)) = false ∧ sameP p (L.getD j (0, 0, 0, 0)) = false) := Lib.hid fun j hj => by
                rcases Nat.lt_or_eq_of_le (Nat.lt_succ_iff.1 hj) with h | rfl
                · exact NN.out j h
                · rw [← HX'.out]; exact ⟨HE.out, hp⟩
              clear he hd hp
              go_wp2
              go_quiet (fail)
              go_wp2
              go_roundw
              case rel => exact ⟨l + 1, by omega, by go_num, K3.out.drewN nq, below_drewN B3.out nq, HN.out⟩
              case measure => simp [intOf]; omega
            · have hpd : (p' == p) = true := by simpa [sameP] using hp
              have HV := Lib.hid (validM_no (L := L) (i := k) (by omega) (goodM_no5 HX.out (any_at (k := l) (by rw [List.length_take]; omega) (by rw [getD_takeM hll, ← HX'.out]; exact hp))))
              clear he hd hp
              go_wp2
              go_quiet (fail)
              go_wp2
              go_ret
              exact ⟨ret_bool HV.out.symm, below_drewN B3.out nq⟩
          · have hd : decide (x' = x ∧ y' = y) = true := he
            have HV := Lib.hid (validM_no (L := L) (i := k) (by omega) (goodM_no4 HX.out (any_at (k := l) (by rw [List.length_take]; omega) (by rw [getD_takeM hll, ← HX'.out]; exact he))))
            rw [hd] at heq
            clear he hd
            go_wp2
            go_quiet (fail)
            go_wp2
            go_ret
            exact ⟨ret_bool HV.out.symm, below_drewN B3.out nq⟩
        · have hlk : l = k := by omega
          have HG : Hid (∀ j, j < k + 1 → goodM L j = true) := Lib.hid fun j hj => by
            rcases Nat.lt_or_eq_of_le (Nat.lt_succ_iff.1 hj) with h | rfl
            · exact GG.out j h
            · have ht : ∀ s, s < (L.take j).length → s < l ∧ (L.take j).getD s (0, 0, 0, 0) = L.getD s (0, 0, 0, 0) := fun s hs => by
                rw [List.length_take] at hs
                exact ⟨by omega, getD_takeM (by omega)⟩
              exact goodM_yes HX.out H1.out H2.out H3.out (any_none fun s hs => by rw [(ht s hs).2]; exact (NN.out s (ht s hs).1).1) (any_none fun s hs => by rw [(ht s hs).2]; exact (NN.out s (ht s hs).1).2)
          subst hlk
          go_wp2
          go_roundw
          case rel => exact ⟨l + 1, by omega, by go_num, B3.out, HG.out⟩
          case measure => simp [intOf]; omega
    · have HE := Lib.hid (validM_end (L := L) fun i hi => GG.out i (by omega))
      by_cases h10 : n ≤ 8
      · have h11 : (n : Int) ≤ 8 := by omega
        go_wp2
        go_ret
        exact ⟨ret_bool (by rw [HE.out, hn]; simp [h10]), BB.out⟩
      · have h11 : ¬ (n : Int) ≤ 8 := by omega
        go_wp2
        go_ret
        exact ⟨ret_bool (by rw [HE.out, hn]; simp [h10]), BB.out⟩

set_option maxHeartbeats 400000 in
theorem specValidTable_any (A : Option Addr) (n c : Nat) (L : List Mp) (w : World) (hn : L.length = n) (hm : n ≤ 9223372036854775807) (hr : MRow w w.heap.size A L) :
    Calls Try.prog 19 #[.slice A n c] w fun e w' => e = .returned (.bool (validM L)) ∧ Below w.heap.size w w' := by
  go_enter Try.func19, Try.ntmps19
  go_wp2_with fail
  refine (specvalidTable_any A n c L _ hn hm hr).mono ?_
  rintro e w1 ⟨rfl, b1⟩
  go_wp2
  go_ret
  exact ⟨rfl, b1⟩
end Go.Proofs.Ytogoeehkpebhaaa
