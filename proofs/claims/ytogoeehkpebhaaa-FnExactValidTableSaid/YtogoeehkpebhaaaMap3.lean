/-
  Mappings: isTime, byEnd, byPort over slices.IndexFunc and its closures: what they return, for all lists.
-/
import Derived.Test.YtogoeehkpebhaaaMap2
namespace Go.Proofs.Ytogoeehkpebhaaa
open Go.RowKit
attribute [local go_sem ↓] Go.wp_at_zero Go.wp_at_succ

set_option maxHeartbeats 400000 in
theorem isTime_any (n : Int) (w : World) : Calls Try.prog 42 #[.int .i64 n] w fun e w' => e = .returned (.bool (inR n 0 10000)) ∧ w = w' := by
  go_enter Try.func42, Try.ntmps42
  go_wp2_with (go_at_call 25; refine (in_any _ _ _ _).mono ?_; rintro e w' ⟨rfl, rfl⟩)
  go_ret
  exact ⟨rfl, rfl⟩

set_option maxHeartbeats 800000 in
theorem byEnd1_any (x y p t : Int) (g : Nat) (x' y' : Int) (w : World) (k0 : w.cell? ⟨g, 0, none⟩ = some (.int .i64 x')) (k1 : w.cell? ⟨g, 1, none⟩ = some (.int .i64 y')) (hg : g < w.heap.size) :
    Calls Try.prog 56 #[.agg #[.int .i64 x, .int .i64 y, .int .i64 p, .int .i64 t], .pointer (some ⟨g, 0, none⟩)] w fun e w' => e = .returned (.bool (sameE x' y' (x, y, p, t))) ∧ Below w.heap.size w w' := by
  have HB := Lib.hid ((Below.refl w.heap.size w).alloc (Nat.le_refl _) (.cells #[.int .i64 x, .int .i64 y, .int .i64 p, .int .i64 t] 71))
  have hne : w.heap.size ≠ g := by omega
  have hne' : g ≠ w.heap.size := by omega
  have heq := fun w => run_eql_end w x y x' y'
  go_enter Try.func56, Try.ntmps56
  go_wp2
  go_ret
  exact ⟨ret_bool (by simp [sameE]), HB.out⟩

set_option maxHeartbeats 800000 in
theorem byPort1_any (x y p t : Int) (g : Nat) (p' : Int) (w : World) (k0 : w.cell? ⟨g, 0, none⟩ = some (.int .i64 p')) (hg : g < w.heap.size) :
    Calls Try.prog 57 #[.agg #[.int .i64 x, .int .i64 y, .int .i64 p, .int .i64 t], .pointer (some ⟨g, 0, none⟩)] w fun e w' => e = .returned (.bool (sameP p' (x, y, p, t))) ∧ Below w.heap.size w w' := by
  have HB := Lib.hid ((Below.refl w.heap.size w).alloc (Nat.le_refl _) (.cells #[.int .i64 x, .int .i64 y, .int .i64 p, .int .i64 t] 71))
  have hne : w.heap.size ≠ g := by omega
  have hne' : g ≠ w.heap.size := by omega
  go_enter Try.func57, Try.ntmps57
  go_wp2
  go_ret
  exact ⟨ret_bool (by unfold sameP; rw [Bool.eq_iff_iff]; simp), HB.out⟩

/-- What slices.IndexFunc says. -/
def IdxM (w : World) (L : List Mp) (f : Mp → Bool) (e : Ending) (w' : World) : Prop := e = .returned (.int .i64 (idxF L f)) ∧ Below w.heap.size w w'

set_option maxHeartbeats 1600000 in
theorem indexFuncE_any (A : Option Addr) (n c : Nat) (L : List Mp) (g : Nat) (fp : Mp → Bool) (w : World) (hn : L.length = n) (hm : n ≤ 9223372036854775807) (hr : MRow w w.heap.size A L)
    (hcl : ∀ (x y p t : Int) (w' : World), Below w.heap.size w w' → Calls Try.prog 56 #[.agg #[.int .i64 x, .int .i64 y, .int .i64 p, .int .i64 t], .pointer (some ⟨g, 0, none⟩)] w' fun e w'' => e = .returned (.bool (fp (x, y, p, t))) ∧ Below w'.heap.size w' w'') :
    Calls Try.prog 55 #[.slice A n c, .func (.func 56) #[] #[.pointer (some ⟨g, 0, none⟩)]] w (IdxM w L fp) := by
  have HC := Lib.hid hcl
  clear hcl
  go_enter Try.func55, Try.ntmps55
  go_wp2
  go_loopw [8] (fun i wr => ∃ k : Nat, k ≤ n ∧ i = .int .i64 k ∧ Below w.heap.size w wr ∧ ∀ j, j < k → fp (L.getD j (0, 0, 0, 0)) = false) (fun i _ => n - (intOf i).toNat)
  case atStart => exact ⟨0, Nat.zero_le _, rfl, Below.refl _ _, fun j hj => absurd hj (by omega)⟩
  case round =>
    obtain ⟨k, hk, rfl, hB, hno⟩ := hrel
    have BB := Lib.hid hB
    have NN := Lib.hid hno
    clear hB hno
    by_cases hlt : k < n
    · obtain ⟨b, o, rfl, hbl, hc⟩ := hr.get (by omega)
      obtain ⟨q0, q1, q2, q3⟩ := hc k (by omega)
      obtain ⟨⟨x, y, p, t⟩, hx⟩ : ∃ q, q = L.getD k (0, 0, 0, 0) := ⟨_, rfl⟩
      rw [← hx] at q0 q1 q2 q3
      have HX := Lib.hid hx
      have c0 := (BB.out.cell (p := ⟨b, o + k * 4, none⟩) hbl).trans q0
      have c1 := (BB.out.cell (p := ⟨b, o + k * 4 + 1, none⟩) hbl).trans q1
      have c2 := (BB.out.cell (p := ⟨b, o + k * 4 + 2, none⟩) hbl).trans q2
      have c3 := (BB.out.cell (p := ⟨b, o + k * 4 + 3, none⟩) hbl).trans q3
      have l1 : (k : Int) < (n : Int) := by omega
      have l2 : (0 : Int) ≤ (k : Int) := by omega
      clear hc hx q0 q1 q2 q3
      go_wp2_with fail
      refine (HC.out x y p t _ BB.out).mono ?_
      rintro e w2 ⟨rfl, b2⟩
      have B2 := Lib.hid (next BB.out b2)
      clear b2 c0 c1 c2 c3
      cases he : fp (x, y, p, t)
      · have HN : Hid (∀ j, j < k + 1 → fp (L.getD j (0, 0, 0, 0)) = false) := Lib.hid fun j hj => by
          rcases Nat.lt_or_eq_of_le (Nat.lt_succ_iff.1 hj) with h | rfl
          · exact NN.out j h
          · rw [← HX.out]; exact he
        clear he
        go_wp2
        go_roundw
        case rel => exact ⟨k + 1, by omega, by go_num, B2.out, HN.out⟩
        case measure => simp [intOf]; omega
      · have HE := Lib.hid (idxF_at (L := L) (f := fp) (k := k) (by omega) (by rw [← HX.out]; exact he) NN.out)
        clear he
        go_wp2
        go_ret
        exact ⟨ret_int HE.out.symm, B2.out⟩
    · have HE := Lib.hid (idxF_none (L := L) (f := fp) fun j hj => NN.out j (by omega))
      go_wp2
      go_ret
      exact ⟨ret_int HE.out.symm, BB.out⟩

set_option maxHeartbeats 1600000 in
theorem indexFuncP_any (A : Option Addr) (n c : Nat) (L : List Mp) (g : Nat) (fp : Mp → Bool) (w : World) (hn : L.length = n) (hm : n ≤ 9223372036854775807) (hr : MRow w w.heap.size A L)
    (hcl : ∀ (x y p t : Int) (w' : World), Below w.heap.size w w' → Calls Try.prog 57 #[.agg #[.int .i64 x, .int .i64 y, .int .i64 p, .int .i64 t], .pointer (some ⟨g, 0, none⟩)] w' fun e w'' => e = .returned (.bool (fp (x, y, p, t))) ∧ Below w'.heap.size w' w'') :
    Calls Try.prog 55 #[.slice A n c, .func (.func 57) #[] #[.pointer (some ⟨g, 0, none⟩)]] w (IdxM w L fp) := by
  have HC := Lib.hid hcl
  clear hcl
  go_enter Try.func55, Try.ntmps55
  go_wp2
  go_loopw [8] (fun i wr => ∃ k : Nat, k ≤ n ∧ i = .int .i64 k ∧ Below w.heap.size w wr ∧ ∀ j, j < k → fp (L.getD j (0, 0, 0, 0)) = false) (fun i _ => n - (intOf i).toNat)
  case atStart => exact ⟨0, Nat.zero_le _, rfl, Below.refl _ _, fun j hj => absurd hj (by omega)⟩
  case round =>
    obtain ⟨k, hk, rfl, hB, hno⟩ := hrel
    have BB := Lib.hid hB
    have NN := Lib.hid hno
    clear hB hno
    by_cases hlt : k < n
    · obtain ⟨b, o, rfl, hbl, hc⟩ := hr.get (by omega)
      obtain ⟨q0, q1, q2, q3⟩ := hc k (by omega)
      obtain ⟨⟨x, y, p, t⟩, hx⟩ : ∃ q, q = L.getD k (0, 0, 0, 0) := ⟨_, rfl⟩
      rw [← hx] at q0 q1 q2 q3
      have HX := Lib.hid hx
      have c0 := (BB.out.cell (p := ⟨b, o + k * 4, none⟩) hbl).trans q0
      have c1 := (BB.out.cell (p := ⟨b, o + k * 4 + 1, none⟩) hbl).trans q1
      have c2 := (BB.out.cell (p := ⟨b, o + k * 4 + 2, none⟩) hbl).trans q2
      have c3 := (BB.out.cell (p := ⟨b, o + k * 4 + 3, none⟩) hbl).trans q3
      have l1 : (k : Int) < (n : Int) := by omega
      have l2 : (0 : Int) ≤ (k : Int) := by omega
      clear hc hx q0 q1 q2 q3
      go_wp2_with fail
      refine (HC.out x y p t _ BB.out).mono ?_
      rintro e w2 ⟨rfl, b2⟩
      have B2 := Lib.hid (next BB.out b2)
      clear b2 c0 c1 c2 c3
      cases he : fp (x, y, p, t)
      · have HN : Hid (∀ j, j < k + 1 → fp (L.getD j (0, 0, 0, 0)) = false) := Lib.hid fun j hj => by
          rcases Nat.lt_or_eq_of_le (Nat.lt_succ_iff.1 hj) with h | rfl
          · exact NN.out j h
          · rw [← HX.out]; exact he
        clear he
        go_wp2
        go_roundw
        case rel => exact ⟨k + 1, by omega, by go_num, B2.out, HN.out⟩
        case measure => simp [intOf]; omega
      · have HE := Lib.hid (idxF_at (L := L) (f := fp) (k := k) (by omega) (by rw [← HX.out]; exact he) NN.out)
        clear he
        go_wp2
        go_ret
        exact ⟨ret_int HE.out.symm, B2.out⟩
    · have HE := Lib.hid (idxF_none (L := L) (f := fp) fun j hj => NN.out j (by omega))
      go_wp2
      go_ret
      exact ⟨ret_int HE.out.symm, BB.out⟩

set_option maxHeartbeats 800000 in
theorem byEnd_any (A : Option Addr) (n c : Nat) (L : List Mp) (x y : Int) (w : World) (hn : L.length = n) (hm : n ≤ 9223372036854775807) (hr : MRow w w.heap.size A L) :
    Calls Try.prog 43 #[.slice A n c, .agg #[.int .i64 x, .int .i64 y]] w (IdxM w L (sameE x y)) := by
  have hb := (Below.refl w.heap.size w).alloc (Nat.le_refl _) (.cells #[.int .i64 x, .int .i64 y] 24)
  have hr1 := hr.on hb
  have K := Lib.hid (Box.new_at w w.heap.size rfl 24 #[.int .i64 x, .int .i64 y] (by simp [maxLen]))
  have HB := Lib.hid hb
  clear hb hr
  go_enter Try.func43, Try.ntmps43
  go_wp2_with fail
  refine (indexFuncE_any A n c L w.heap.size (sameE x y) _ hn hm hr1 (fun a b p t w' k => byEnd1_any a b p t w.heap.size x y w' ((K.out.below k).at_ 0 rfl) ((K.out.below k).at_ 1 rfl) (K.out.below k).lt.2)).mono ?_
  rintro e w1 ⟨rfl, b1⟩
  have B1 := Lib.hid (next HB.out b1)
  clear b1
  go_wp2
  go_ret
  exact ⟨rfl, B1.out⟩

set_option maxHeartbeats 800000 in
theorem byPort_any (A : Option Addr) (n c : Nat) (L : List Mp) (p : Int) (w : World) (hn : L.length = n) (hm : n ≤ 9223372036854775807) (hr : MRow w w.heap.size A L) :
    Calls Try.prog 44 #[.slice A n c, .int .i64 p] w (IdxM w L (sameP p)) := by
  have hb := (Below.refl w.heap.size w).alloc (Nat.le_refl _) (.cells #[.int .i64 p] 3)
  have hr1 := hr.on hb
  have K := Lib.hid (Box.new_at w w.heap.size rfl 3 #[.int .i64 p] (by simp [maxLen]))
  have HB := Lib.hid hb
  clear hb hr
  go_enter Try.func44, Try.ntmps44
  go_wp2_with fail
  refine (indexFuncP_any A n c L w.heap.size (sameP p) _ hn hm hr1 (fun a b p' t w' k => byPort1_any a b p' t w.heap.size p w' ((K.out.below k).at_ 0 rfl) (K.out.below k).lt.2)).mono ?_
  rintro e w1 ⟨rfl, b1⟩
  have B1 := Lib.hid (next HB.out b1)
  clear b1
  go_wp2
  go_ret
  exact ⟨rfl, B1.out⟩
end Go.Proofs.Ytogoeehkpebhaaa
