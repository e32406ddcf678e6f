/-
  ValidPacket, of the program and of the reference. (Written by genpkt.py.)
-/
import Derived.Test.YtogoeehkpebhaaaPkt1
namespace Go.Proofs.Ytogoeehkpebhaaa
open Go.RowKit

theorem vP_no1 {kd fa fp ta tp : Int} {xs : List Int} (h : inR kd 0 2 = false) : vP kd fa fp ta tp xs = false := by simp [vP, h]
theorem vP_no2 {kd fa fp ta tp : Int} {xs : List Int} (h : vE fa fp = false) : vP kd fa fp ta tp xs = false := by simp [vP, h]
theorem vP_no3 {kd fa fp ta tp : Int} {xs : List Int} (h : vE ta tp = false) : vP kd fa fp ta tp xs = false := by simp [vP, h]
theorem vP_no4 {kd fa fp ta tp : Int} {xs : List Int} (h : ¬ xs.length ≤ 12) : vP kd fa fp ta tp xs = false := by simp [vP, h]
theorem vP_yes {kd fa fp ta tp : Int} {xs : List Int} (h1 : inR kd 0 2 = true) (h2 : vE fa fp = true) (h3 : vE ta tp = true) (h4 : xs.length ≤ 12) : vP kd fa fp ta tp xs = areW xs := by simp [vP, h1, h2, h3, h4]
/-- The cells of a packet. -/
def pCells (kd fa fp ta tp : Int) (A : Option Addr) (n c : Nat) : List Value := [.int .i64 kd, .int .i64 fa, .int .i64 fp, .int .i64 ta, .int .i64 tp, .slice A n c]
/-- A variable that holds a packet. -/
def PBox (w : World) (H : Nat) (kd fa fp ta tp : Int) (A : Option Addr) (n c : Nat) : Prop :=
  (w.cell? ⟨H, 0, none⟩ = some (.int .i64 kd) ∧ w.cell? ⟨H, 1, none⟩ = some (.int .i64 fa) ∧ w.cell? ⟨H, 2, none⟩ = some (.int .i64 fp) ∧ w.cell? ⟨H, 3, none⟩ = some (.int .i64 ta) ∧ w.cell? ⟨H, 4, none⟩ = some (.int .i64 tp) ∧ w.cell? ⟨H, 5, none⟩ = some (.slice A n c)) ∧ H < w.heap.size
theorem PBox.of {w : World} {base H : Nat} {kd fa fp ta tp : Int} {A : Option Addr} {n c : Nat} (h : Box w base H (pCells kd fa fp ta tp A n c)) : PBox w H kd fa fp ta tp A n c :=
  ⟨⟨h.at_ 0 rfl, h.at_ 1 rfl, h.at_ 2 rfl, h.at_ 3 rfl, h.at_ 4 rfl, h.at_ 5 rfl⟩, h.lt.2⟩
theorem PBox.new_at (w : World) (H : Nat) (hH : w.heap.size = H) (t : TypeId) (kd fa fp ta tp : Int) (A : Option Addr) (n c : Nat) : PBox (w.alloc (.cells #[.int .i64 kd, .int .i64 fa, .int .i64 fp, .int .i64 ta, .int .i64 tp, .slice A n c] t)) H kd fa fp ta tp A n c :=
  .of (Box.new_at w H hH t #[.int .i64 kd, .int .i64 fa, .int .i64 fp, .int .i64 ta, .int .i64 tp, .slice A n c] (by simp [maxLen]))
theorem PBox.on {w w' : World} {H : Nat} {kd fa fp ta tp : Int} {A : Option Addr} {n c : Nat} (h : PBox w H kd fa fp ta tp A n c) (hb : Below w.heap.size w w') : PBox w' H kd fa fp ta tp A n c :=
  ⟨⟨(hb.cell (p := ⟨H, 0, none⟩) h.2).trans h.1.1, (hb.cell (p := ⟨H, 1, none⟩) h.2).trans h.1.2.1, (hb.cell (p := ⟨H, 2, none⟩) h.2).trans h.1.2.2.1, (hb.cell (p := ⟨H, 3, none⟩) h.2).trans h.1.2.2.2.1, (hb.cell (p := ⟨H, 4, none⟩) h.2).trans h.1.2.2.2.2.1, (hb.cell (p := ⟨H, 5, none⟩) h.2).trans h.1.2.2.2.2.2⟩, Nat.lt_of_lt_of_le h.2 hb.size⟩
theorem PBox.alloc {w : World} {H : Nat} {kd fa fp ta tp : Int} {A : Option Addr} {n c : Nat} (h : PBox w H kd fa fp ta tp A n c) (o : Obj) : PBox (w.alloc o) H kd fa fp ta tp A n c := h.on ((Below.refl _ _).alloc (Nat.le_refl _) o)

set_option maxHeartbeats 1600000 in
theorem ValidPacket_any (kd fa fp ta tp : Int) (A : Option Addr) (n c : Nat) (xs : List Int) (w : World) (hn : xs.length = n) (hm : n ≤ 9223372036854775807) (hr : Row .i64 w w.heap.size A xs) :
    Calls Try.prog 8 #[.agg #[.int .i64 kd, .int .i64 fa, .int .i64 fp, .int .i64 ta, .int .i64 tp, .slice A n c]] w fun e w' => e = .returned (.bool (vP kd fa fp ta tp xs)) ∧ Below w.heap.size w w' := by
  have HB := Lib.hid ((Below.refl w.heap.size w).alloc (Nat.le_refl _) (.cells #[.int .i64 kd, .int .i64 fa, .int .i64 fp, .int .i64 ta, .int .i64 tp, .slice A n c] 27))
  have K0 := Lib.hid (PBox.new_at w w.heap.size rfl 27 kd fa fp ta tp A n c)
  cases h1 : inR kd 0 2
  · have HV := Lib.hid (vP_no1 (fa := fa) (fp := fp) (ta := ta) (tp := tp) (xs := xs) h1)
    go_enter Try.func8, Try.ntmps8
    go_wp2_with fail
    refine (in_any kd 0 2 _).mono ?_
    rintro e w' ⟨rfl, rfl⟩
    rw [h1]
    clear h1
    go_wp2
    go_ret
    exact ⟨ret_bool HV.out.symm, HB.out⟩
  have H1 := Lib.hid h1
  go_enter Try.func8, Try.ntmps8
  go_wp2_with fail
  refine (in_any kd 0 2 _).mono ?_
  rintro e w' ⟨rfl, rfl⟩
  rw [h1]
  clear h1
  obtain ⟨⟨k0, k1, k2, k3, k4, k5⟩, -⟩ := K0.out
  go_wp2_with fail
  refine (endValid_any fa fp _).mono ?_
  rintro e w2 ⟨rfl, b2⟩
  have K2 := Lib.hid (K0.out.on b2)
  have B2 := Lib.hid (next HB.out b2)
  clear b2 K0 k0 k1 k2 k3 k4 k5
  cases h2 : vE fa fp
  · have HV := Lib.hid (vP_no2 (kd := kd) (ta := ta) (tp := tp) (xs := xs) h2)
    clear h2
    go_wp2
    go_ret
    exact ⟨ret_bool HV.out.symm, B2.out⟩
  have H2 := Lib.hid h2
  clear h2
  obtain ⟨⟨k0, k1, k2, k3, k4, k5⟩, -⟩ := K2.out
  go_wp2_with fail
  refine (endValid_any ta tp _).mono ?_
  rintro e w3 ⟨rfl, b3⟩
  have K3 := Lib.hid (K2.out.on b3)
  have B3 := Lib.hid (next B2.out b3)
  clear b3 K2 k0 k1 k2 k3 k4 k5
  cases h3 : vE ta tp
  · have HV := Lib.hid (vP_no3 (kd := kd) (fa := fa) (fp := fp) (xs := xs) h3)
    clear h3
    go_wp2
    go_ret
    exact ⟨ret_bool HV.out.symm, B3.out⟩
  have H3 := Lib.hid h3
  clear h3
  obtain ⟨⟨k0, k1, k2, k3, k4, k5⟩, -⟩ := K3.out
  by_cases h4 : n ≤ 12
  · have HV := Lib.hid (vP_yes H1.out H2.out H3.out (xs := xs) (by omega))
    go_wp2_with fail
    refine (areWords_any A n c _ xs _ hn (by omega) (hr.below B3.out)).mono ?_
    rintro e w' ⟨rfl, rfl⟩
    go_wp2
    go_ret
    exact ⟨ret_bool HV.out.symm, B3.out⟩
  · have HV := Lib.hid (vP_no4 (kd := kd) (fa := fa) (fp := fp) (ta := ta) (tp := tp) (xs := xs) (by omega))
    have h5 : ¬ (n : Int) ≤ 12 := by omega
    go_wp2
    go_ret
    exact ⟨ret_bool HV.out.symm, B3.out⟩

set_option maxHeartbeats 1600000 in
theorem specvalidPacket_any (kd fa fp ta tp : Int) (A : Option Addr) (n c : Nat) (xs : List Int) (w : World) (hn : xs.length = n) (hm : n ≤ 9223372036854775807) (hr : Row .i64 w w.heap.size A xs) :
    Calls Try.prog 28 #[.agg #[.int .i64 kd, .int .i64 fa, .int .i64 fp, .int .i64 ta, .int .i64 tp, .slice A n c]] w fun e w' => e = .returned (.bool (vP kd fa fp ta tp xs)) ∧ Below w.heap.size w w' := by
  have HB := Lib.hid ((Below.refl w.heap.size w).alloc (Nat.le_refl _) (.cells #[.int .i64 kd, .int .i64 fa, .int .i64 fp, .int .i64 ta, .int .i64 tp, .slice A n c] 27))
  have K0 := Lib.hid (PBox.new_at w w.heap.size rfl 27 kd fa fp ta tp A n c)
  cases h1 : inR kd 0 2
  · have HV := Lib.hid (vP_no1 (fa := fa) (fp := fp) (ta := ta) (tp := tp) (xs := xs) h1)
    go_enter Try.func28, Try.ntmps28
    go_wp2_with fail
    refine (inRange_any kd 0 2 _).mono ?_
    rintro e w' ⟨rfl, rfl⟩
    rw [h1]
    clear h1
    go_wp2
    go_ret
    exact ⟨ret_bool HV.out.symm, HB.out⟩
  have H1 := Lib.hid h1
  go_enter Try.func28, Try.ntmps28
  go_wp2_with fail
  refine (inRange_any kd 0 2 _).mono ?_
  rintro e w' ⟨rfl, rfl⟩
  rw [h1]
  clear h1
  obtain ⟨⟨k0, k1, k2, k3, k4, k5⟩, -⟩ := K0.out
  go_wp2_with fail
  refine (validEnd_any fa fp _).mono ?_
  rintro e w2 ⟨rfl, b2⟩
  have K2 := Lib.hid (K0.out.on b2)
  have B2 := Lib.hid (next HB.out b2)
  clear b2 K0 k0 k1 k2 k3 k4 k5
  cases h2 : vE fa fp
  · have HV := Lib.hid (vP_no2 (kd := kd) (ta := ta) (tp := tp) (xs := xs) h2)
    clear h2
    go_wp2
    go_ret
    exact ⟨ret_bool HV.out.symm, B2.out⟩
  have H2 := Lib.hid h2
  clear h2
  obtain ⟨⟨k0, k1, k2, k3, k4, k5⟩, -⟩ := K2.out
  go_wp2_with fail
  refine (validEnd_any ta tp _).mono ?_
  rintro e w3 ⟨rfl, b3⟩
  have K3 := Lib.hid (K2.out.on b3)
  have B3 := Lib.hid (next B2.out b3)
  clear b3 K2 k0 k1 k2 k3 k4 k5
  cases h3 : vE ta tp
  · have HV := Lib.hid (vP_no3 (kd := kd) (fa := fa) (fp := fp) (xs := xs) h3)
    clear h3
    go_wp2
    go_ret
    exact ⟨ret_bool HV.out.symm, B3.out⟩
  have H3 := Lib.hid h3
  clear h3
  obtain ⟨⟨k0, k1, k2, k3, k4, k5⟩, -⟩ := K3.out
  by_cases h4 : n ≤ 12
  · have HV := Lib.hid (vP_yes H1.out H2.out H3.out (xs := xs) (by omega))
    go_wp2_with fail
    refine (allIn_any A n c _ xs 0 65535 _ hn (by omega) (hr.below B3.out)).mono ?_
    rintro e w' ⟨rfl, rfl⟩
    go_wp2
    go_ret
    exact ⟨ret_bool HV.out.symm, B3.out⟩
  · have HV := Lib.hid (vP_no4 (kd := kd) (fa := fa) (fp := fp) (ta := ta) (tp := tp) (xs := xs) (by omega))
    have h5 : ¬ (n : Int) ≤ 12 := by omega
    go_wp2
    go_ret
    exact ⟨ret_bool HV.out.symm, B3.out⟩

set_option maxHeartbeats 400000 in
theorem specValidPacket_any (kd fa fp ta tp : Int) (A : Option Addr) (n c : Nat) (xs : List Int) (w : World) (hn : xs.length = n) (hm : n ≤ 9223372036854775807) (hr : Row .i64 w w.heap.size A xs) :
    Calls Try.prog 9 #[.agg #[.int .i64 kd, .int .i64 fa, .int .i64 fp, .int .i64 ta, .int .i64 tp, .slice A n c]] w fun e w' => e = .returned (.bool (vP kd fa fp ta tp xs)) ∧ Below w.heap.size w w' := by
  have HB := Lib.hid ((Below.refl w.heap.size w).alloc (Nat.le_refl _) (.cells #[.int .i64 kd, .int .i64 fa, .int .i64 fp, .int .i64 ta, .int .i64 tp, .slice A n c] 27))
  have hr1 := hr.on ((Below.refl w.heap.size w).alloc (Nat.le_refl _) (.cells #[.int .i64 kd, .int .i64 fa, .int .i64 fp, .int .i64 ta, .int .i64 tp, .slice A n c] 27))
  go_enter Try.func9, Try.ntmps9
  go_wp2_with fail
  refine (specvalidPacket_any kd fa fp ta tp A n c xs _ hn hm hr1).mono ?_
  rintro e w1 ⟨rfl, b1⟩
  have B1 := Lib.hid (next HB.out b1)
  go_wp2
  go_ret
  exact ⟨rfl, B1.out⟩
end Go.Proofs.Ytogoeehkpebhaaa
