/-
  ValidContacts of the reference: the walk.
-/
import Derived.Test.YtogoeehkpebhaaaCon3
namespace Go.Proofs.Ytogoeehkpebhaaa
open Go.RowKit
attribute [local go_sem ↓] Go.wp_at_zero Go.wp_at_succ

set_option maxHeartbeats 3200000 in
theorem specvalidContacts_any (A : Option Addr) (n c : Nat) (L : List (Int × Int × Int)) (w : World) (hn : L.length = n) (hm : n ≤ 9223372036854775807) (hr : CRow w w.heap.size A L) :
    Calls Try.prog 34 #[.slice A n c] w fun e w' => e = .returned (.bool (validC L)) ∧ Below w.heap.size w w' := by
  go_enter Try.func34, Try.ntmps34
  go_wp2
  go_loopw [3] (fun i wr => ∃ k : Nat, k ≤ n ∧ i = .int .i64 k ∧ Below w.heap.size w wr ∧ ∀ j, j < k → goodC L j = true) (fun i _ => n - (intOf i).toNat)
  case atStart => exact ⟨0, Nat.zero_le _, rfl, Below.refl _ _, fun j hj => absurd hj (by omega)⟩
  case round =>
    obtain ⟨k, hk, rfl, hB, hgood⟩ := hrel
    obtain ⟨wo, rfl⟩ : ∃ wo : World, wo = wr := ⟨_, rfl⟩
    have BB := Lib.hid hB
    have GG := Lib.hid hgood
    clear hB hgood
    by_cases hlt : k < n
    · obtain ⟨b, o, rfl, hbl, hc⟩ := hr.get (by omega)
      have HC := Lib.hid hc
      obtain ⟨q0, q1, q2⟩ := hc k (by omega)
      obtain ⟨⟨p, x, y⟩, hx⟩ : ∃ q, q = L.getD k (0, 0, 0) := ⟨_, rfl⟩
      rw [← hx] at q0 q1 q2
      have HX := Lib.hid hx
      have c0 := (BB.out.cell (p := ⟨b, o + k * 3, none⟩) hbl).trans q0
      have c1 := (BB.out.cell (p := ⟨b, o + k * 3 + 1, none⟩) hbl).trans q1
      have c2 := (BB.out.cell (p := ⟨b, o + k * 3 + 2, none⟩) hbl).trans q2
      have H0 := Lib.hid q0
      have H1 := Lib.hid q1
      have H2 := Lib.hid q2
      have l1 : (k : Int) < (n : Int) := by omega
      have l2 : (0 : Int) ≤ (k : Int) := by omega
      clear hc hx q0 q1 q2
      cases hp : inR p 1000 1007
      · have HV := Lib.hid (validC_no (L := L) (i := k) (by omega) (goodC_no1 HX.out (vC_no hp)))
        go_wp2_with fail
        refine (inRange_any p 1000 1007 _).mono ?_
        rintro e w' ⟨rfl, rfl⟩
        rw [hp]
        clear hp
        go_wp2
        go_ret
        exact ⟨ret_bool HV.out.symm, BB.out⟩
      · have HP := Lib.hid hp
        go_wp2_with fail
        refine (inRange_any p 1000 1007 _).mono ?_
        rintro e w' ⟨rfl, rfl⟩
        rw [hp]
        clear hp
        go_wp2_with fail
        refine (validEnd_any x y _).mono ?_
        rintro e w2 ⟨rfl, b2⟩
        have B2 := Lib.hid (next BB.out b2)
        clear b2 c0 c1 c2
        cases hv : vE x y
        · have HV := Lib.hid (validC_no (L := L) (i := k) (by omega) (goodC_no1 HX.out (by rw [vC_yes HP.out, hv])))
          clear hv
          go_wp2
          go_ret
          exact ⟨ret_bool HV.out.symm, B2.out⟩
        · have HVC := Lib.hid (show vC p x y = true by rw [vC_yes HP.out, hv])
          clear hv
          go_wp2_with fail
          go_loopw [4] (fun i wr => ∃ l : Nat, l ≤ k ∧ i = .int .i64 l ∧ Below w.heap.size w wr ∧ ∀ j, j < l → L.getD j (0, 0, 0) ≠ (p, x, y)) (fun i _ => k - (intOf i).toNat)
          case atStart => exact ⟨0, Nat.zero_le _, rfl, B2.out, fun j hj => absurd hj (by omega)⟩
          case round =>
            obtain ⟨l, hl, rfl, hB, hno⟩ := hrel
            have B3 := Lib.hid hB
            have NN := Lib.hid hno
            clear hB hno B2
            by_cases hll : l < k
            · obtain ⟨q0, q1, q2⟩ := HC.out l (by omega)
              obtain ⟨⟨p', x', y'⟩, hx'⟩ : ∃ q, q = L.getD l (0, 0, 0) := ⟨_, rfl⟩
              rw [← hx'] at q0 q1 q2
              have HX' := Lib.hid hx'
              have c0 := (B3.out.cell (p := ⟨b, o + k * 3, none⟩) hbl).trans H0.out
              have c1 := (B3.out.cell (p := ⟨b, o + k * 3 + 1, none⟩) hbl).trans H1.out
              have c2 := (B3.out.cell (p := ⟨b, o + k * 3 + 2, none⟩) hbl).trans H2.out
              have d0 := (B3.out.cell (p := ⟨b, o + l * 3, none⟩) hbl).trans q0
              have d1 := (B3.out.cell (p := ⟨b, o + l * 3 + 1, none⟩) hbl).trans q1
              have d2 := (B3.out.cell (p := ⟨b, o + l * 3 + 2, none⟩) hbl).trans q2
              have m1 : (l : Int) < (k : Int) := by omega
              have m2 : (0 : Int) ≤ (l : Int) := by omega
              have m3 : (l : Int) < (n : Int) := by omega
              have heq := fun w => run_eql_con w p' x' y' p x y
              clear hx' q0 q1 q2
              by_cases he : (p', x', y') = (p, x, y)
              · have hd : decide ((p', x', y') = (p, x, y)) = true := by simpa using he
                have HV := Lib.hid (validC_no (L := L) (i := k) (by omega) (goodC_no2 HX.out (anyC_at (k := l) (by rw [List.length_take]; omega) (by rw [getD_takeC hll, ← HX'.out]; exact he))))
                rw [hd] at heq
                clear he hd
                go_wp2
                go_quiet (fail)
                go_wp2
                go_ret
                exact ⟨ret_bool HV.out.symm, below_drewN B3.out nq⟩
              · have hd : decide ((p', x', y') = (p, x, y)) = false := by simpa using he
                have HN : Hid (∀ j, j < l + 1 → L.getD j (0, 0, 0) ≠ (p, x, y)) := Lib.hid fun j hj => by
                  rcases Nat.lt_or_eq_of_le (Nat.lt_succ_iff.1 hj) with h | rfl
                  · exact NN.out j h
                  · rw [← HX'.out]; exact he
                rw [hd] at heq
                clear he hd
                go_wp2
                go_quiet (fail)
                go_wp2
                go_roundw
                case rel => exact ⟨l + 1, by omega, by go_num, below_drewN B3.out nq, HN.out⟩
                case measure => simp [intOf]; omega
            · have hlk : l = k := by omega
              have HG : Hid (∀ j, j < k + 1 → goodC L j = true) := Lib.hid fun j hj => by
                rcases Nat.lt_or_eq_of_le (Nat.lt_succ_iff.1 hj) with h | rfl
                · exact GG.out j h
                · exact goodC_yes HX.out HVC.out (anyC_none fun t ht => by
                    rw [List.length_take] at ht
                    rw [getD_takeC (by omega)]
                    exact NN.out t (by omega))
              subst hlk
              go_wp2
              go_roundw
              case rel => exact ⟨l + 1, by omega, by go_num, B3.out, HG.out⟩
              case measure => simp [intOf]; omega
    · have HE := Lib.hid (validC_end (L := L) fun i hi => GG.out i (by omega))
      by_cases h10 : n ≤ 10
      · have h11 : (n : Int) ≤ 10 := by omega
        go_wp2
        go_ret
        exact ⟨ret_bool (by rw [HE.out, hn]; simp [h10]), BB.out⟩
      · have h11 : ¬ (n : Int) ≤ 10 := by omega
        go_wp2
        go_ret
        exact ⟨ret_bool (by rw [HE.out, hn]; simp [h10]), BB.out⟩

set_option maxHeartbeats 400000 in
theorem specValidContacts_any (A : Option Addr) (n c : Nat) (L : List (Int × Int × Int)) (w : World) (hn : L.length = n) (hm : n ≤ 9223372036854775807) (hr : CRow w w.heap.size A L) :
    Calls Try.prog 14 #[.slice A n c] w fun e w' => e = .returned (.bool (validC L)) ∧ Below w.heap.size w w' := by
  go_enter Try.func14, Try.ntmps14
  go_wp2_with fail
  refine (specvalidContacts_any A n c L _ hn hm hr).mono ?_
  rintro e w1 ⟨rfl, b1⟩
  go_wp2
  go_ret
  exact ⟨rfl, b1⟩
end Go.Proofs.Ytogoeehkpebhaaa
