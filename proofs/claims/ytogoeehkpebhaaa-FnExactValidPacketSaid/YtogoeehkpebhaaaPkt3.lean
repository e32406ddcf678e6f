/-
  The statements' helpers on packets: szPacket, toPacket, eqPacket. (Written by genpkt3.py.)
-/
import Derived.Test.YtogoeehkpebhaaaPkt2
import Derived.Test.YtogoeehkpebhaaaEnd
import Derived.Test.YtogoeehkpebhaaaInts
namespace Go.Proofs.Ytogoeehkpebhaaa
open Go.RowKit

theorem PBox.far2 {w w1 w2 : World} {H R : Nat} {kd fa fp ta tp : Int} {A : Option Addr} {n c : Nat} (h : PBox w H kd fa fp ta tp A n c) (g1 : w.grownBy w1 (some R)) (g2 : w1.grownBy w2 (some R)) (hR : R ≠ H) : PBox w2 H kd fa fp ta tp A n c := by
  have g := g1.trans g2
  have hc : ∀ o, w2.cell? ⟨H, o, none⟩ = w.cell? ⟨H, o, none⟩ := fun o => World.cell?_of_block (a := ⟨H, o, none⟩) (g.block H h.2 (fun e => by injection e with e; omega))
  exact ⟨⟨(hc _).trans h.1.1, (hc _).trans h.1.2.1, (hc _).trans h.1.2.2.1, (hc _).trans h.1.2.2.2.1, (hc _).trans h.1.2.2.2.2.1, (hc _).trans h.1.2.2.2.2.2⟩, Nat.lt_of_lt_of_le h.2 g.size⟩

/-- A copy of a packet: its data lie in new memory. -/
def CopiedP (w : World) (kd fa fp ta tp : Int) (n : Nat) (xs : List Int) (e : Ending) (w' : World) : Prop :=
  ∃ g, e = .returned (.agg #[.int .i64 kd, .int .i64 fa, .int .i64 fp, .int .i64 ta, .int .i64 tp, .slice (some ⟨g, 0, none⟩) n n]) ∧ Row .i64 w' w'.heap.size (some ⟨g, 0, none⟩) xs ∧ Below w.heap.size w w'

set_option maxHeartbeats 400000 in
theorem szPacket_any (kd fa fp ta tp : Int) (A : Option Addr) (n c : Nat) (w : World) (hn : n ≤ 9223372036854775807) :
    Calls Try.prog 10 #[.agg #[.int .i64 kd, .int .i64 fa, .int .i64 fp, .int .i64 ta, .int .i64 tp, .slice A n c], .int .i64 1048576] w fun e w' => e = .returned (.int .i64 (if (n : Int) ≤ 1048576 then 1048576 - (n : Int) else -1)) ∧ Below w.heap.size w w' := by
  have HB := Lib.hid ((Below.refl w.heap.size w).alloc (Nat.le_refl _) (.cells #[.int .i64 kd, .int .i64 fa, .int .i64 fp, .int .i64 ta, .int .i64 tp, .slice A n c] 33))
  by_cases h : (n : Int) ≤ 1048576
  · rw [if_pos h]
    have h2 : ¬ (1048576 - (n : Int) < 0) := by omega
    go_enter Try.func10, Try.ntmps10
    go_wp2_with fail
    refine (szIntS_any A n c 1048576 _ hn (by omega) (by omega)).mono ?_
    rintro e w1 ⟨rfl, rfl⟩
    rw [if_pos h]
    go_wp2
    go_ret
    exact ⟨rfl, HB.out⟩
  · rw [if_neg h]
    go_enter Try.func10, Try.ntmps10
    go_wp2_with fail
    refine (szIntS_any A n c 1048576 _ hn (by omega) (by omega)).mono ?_
    rintro e w1 ⟨rfl, rfl⟩
    rw [if_neg (by omega)]
    go_wp2
    go_ret
    exact ⟨rfl, HB.out⟩

set_option maxHeartbeats 3200000 in
theorem toPacket_any (kd fa fp ta tp : Int) (A : Option Addr) (n c : Nat) (xs : List Int) (w : World) (hn : xs.length = n) (hb : n ≤ 1048576) (hr : Row .i64 w w.heap.size A xs) :
    Calls Try.prog 11 #[.agg #[.int .i64 kd, .int .i64 fa, .int .i64 fp, .int .i64 ta, .int .i64 tp, .slice A n c]] w (CopiedP w kd fa fp ta tp n xs) := by
  have K0 := Lib.hid (((PBox.new_at w w.heap.size rfl 33 kd fa fp ta tp A n c).alloc (.cells #[.int .i64 0, .int .i64 0, .int .i64 0, .int .i64 0, .int .i64 0, .slice none 0 0] 27)).alloc (.cells #[.int .i64 kd, .int .i64 0, .int .i64 0, .int .i64 0, .int .i64 0, .slice none 0 0] 27))
  have R0 := Lib.hid ((Box.new_at (w.alloc (.cells #[.int .i64 kd, .int .i64 fa, .int .i64 fp, .int .i64 ta, .int .i64 tp, .slice A n c] 33)) (w.heap.size + 1) (by simp) 27 #[.int .i64 0, .int .i64 0, .int .i64 0, .int .i64 0, .int .i64 0, .slice none 0 0] (by simp [maxLen])).alloc (.cells #[.int .i64 kd, .int .i64 0, .int .i64 0, .int .i64 0, .int .i64 0, .slice none 0 0] 27))
  have O0 := Lib.hid (Box.new_at ((w.alloc (.cells #[.int .i64 kd, .int .i64 fa, .int .i64 fp, .int .i64 ta, .int .i64 tp, .slice A n c] 33)).alloc (.cells #[.int .i64 0, .int .i64 0, .int .i64 0, .int .i64 0, .int .i64 0, .slice none 0 0] 27)) (w.heap.size + 2) (by simp) 27 #[.int .i64 kd, .int .i64 0, .int .i64 0, .int .i64 0, .int .i64 0, .slice none 0 0] (by simp [maxLen]))
  have B0 := Lib.hid ((((Below.refl w.heap.size w).alloc (Nat.le_refl _) (.cells #[.int .i64 kd, .int .i64 fa, .int .i64 fp, .int .i64 ta, .int .i64 tp, .slice A n c] 33)).alloc (by simp) (.cells #[.int .i64 0, .int .i64 0, .int .i64 0, .int .i64 0, .int .i64 0, .slice none 0 0] 27)).alloc (by simp; omega) (.cells #[.int .i64 kd, .int .i64 0, .int .i64 0, .int .i64 0, .int .i64 0, .slice none 0 0] 27))
  obtain ⟨⟨k0, k1, k2, k3, k4, k5⟩, -⟩ := K0.out
  go_enter Try.func11, Try.ntmps11
  go_wp2_with fail
  refine (toEnd_any fa fp _).mono ?_
  rintro e w1 ⟨rfl, b1⟩
  have z1 := b1.size
  simp at z1
  have K1 := Lib.hid (K0.out.on b1)
  have R1 := Lib.hid (R0.out.below b1)
  have O1 := O0.out.below b1
  have B1 := next B0.out b1
  clear b1 K0 R0 O0 B0 k0 k1 k2 k3 k4 k5
  have v1 := O1.at_ 1 rfl
  have v2 := O1.at_ 2 rfl
  have f1 := O1.free 1 (by simp)
  have f2 := O1.free 2 (by simp)
  have ga1 := only_setCell w1 (w.heap.size + 2) 1 (.int .i64 fa)
  have gb1 := only_setCell (w1.setCell ⟨w.heap.size + 2, 1, none⟩ (.int .i64 fa)) (w.heap.size + 2) 2 (.int .i64 fp)
  have O1' := Lib.hid ((O1.set 1 (by simp) (.int .i64 fa)).set 2 (by simp) (.int .i64 fp))
  have R1' := Lib.hid ((R1.out.far ga1 (by omega)).far gb1 (by omega))
  have K1' : Hid (PBox ((w1.setCell ⟨w.heap.size + 2, 1, none⟩ (.int .i64 fa)).setCell ⟨w.heap.size + 2, 2, none⟩ (.int .i64 fp)) w.heap.size kd fa fp ta tp A n c) := Lib.hid (K1.out.far2 ga1 gb1 (by omega))
  have B1' := Lib.hid ((B1.setCell (p := ⟨w.heap.size + 2, 1, none⟩) (by simp) (.int .i64 fa)).setCell (p := ⟨w.heap.size + 2, 2, none⟩) (by simp) (.int .i64 fp))
  obtain ⟨⟨k0, k1, k2, k3, k4, k5⟩, -⟩ := K1'.out
  clear ga1 gb1 O1 R1 K1 B1
  go_wp2_with fail
  refine (toEnd_any ta tp _).mono ?_
  rintro e w2 ⟨rfl, b2⟩
  have z2 := b2.size
  simp [World.setCell] at z2
  have K2 := Lib.hid (K1'.out.on b2)
  have R2 := Lib.hid (R1'.out.below b2)
  have O2 := O1'.out.below b2
  have B2 := next B1'.out b2
  clear b2 K1' R1' O1' B1' k0 k1 k2 k3 k4 k5 f1 f2 v1 v2
  have v1 := O2.at_ 3 rfl
  have v2 := O2.at_ 4 rfl
  have f1 := O2.free 3 (by simp)
  have f2 := O2.free 4 (by simp)
  have ga2 := only_setCell w2 (w.heap.size + 2) 3 (.int .i64 ta)
  have gb2 := only_setCell (w2.setCell ⟨w.heap.size + 2, 3, none⟩ (.int .i64 ta)) (w.heap.size + 2) 4 (.int .i64 tp)
  have O2' := Lib.hid ((O2.set 3 (by simp) (.int .i64 ta)).set 4 (by simp) (.int .i64 tp))
  have R2' := Lib.hid ((R2.out.far ga2 (by omega)).far gb2 (by omega))
  have K2' : Hid (PBox ((w2.setCell ⟨w.heap.size + 2, 3, none⟩ (.int .i64 ta)).setCell ⟨w.heap.size + 2, 4, none⟩ (.int .i64 tp)) w.heap.size kd fa fp ta tp A n c) := Lib.hid (K2.out.far2 ga2 gb2 (by omega))
  have B2' := Lib.hid ((B2.setCell (p := ⟨w.heap.size + 2, 3, none⟩) (by simp) (.int .i64 ta)).setCell (p := ⟨w.heap.size + 2, 4, none⟩) (by simp) (.int .i64 tp))
  obtain ⟨⟨k0, k1, k2, k3, k4, k5⟩, -⟩ := K2'.out
  clear ga2 gb2 O2 R2 K2 B2
  have hr2 : Row .i64 ((w2.setCell ⟨w.heap.size + 2, 3, none⟩ (.int .i64 ta)).setCell ⟨w.heap.size + 2, 4, none⟩ (.int .i64 tp)) w.heap.size A xs := hr.below B2'.out
  go_wp2_with fail
  refine (toIntS_any A n c xs _ hn hb (hr2.more B2'.out.size)).mono ?_
  rintro e w3 ⟨rfl, m3, b3⟩
  have hs2 : ((w2.setCell ⟨w.heap.size + 2, 3, none⟩ (.int .i64 ta)).setCell ⟨w.heap.size + 2, 4, none⟩ (.int .i64 tp)).heap.size = w2.heap.size := by simp [World.setCell]
  rw [hs2] at m3 ⊢
  clear hs2
  have z3 := b3.size
  simp [World.setCell] at z3
  have R3 := R2'.out.below b3
  have O3 := O2'.out.below b3
  have B3 := next B2'.out b3
  have Z3 := (m3.lt rfl)
  clear b3 K2' R2' O2' B2' k0 k1 k2 k3 k4 k5 f1 f2 v1 v2
  have v5 := O3.at_ 5 rfl
  have f5 := O3.free 5 (by simp)
  have g5 := only_setCell w3 (w.heap.size + 2) 5 (.slice (some ⟨w2.heap.size, 0, none⟩) n n)
  have O4 := O3.set 5 (by simp) (.slice (some ⟨w2.heap.size, 0, none⟩) n n)
  have R4 := R3.far g5 (by omega)
  have B4 := B3.setCell (p := ⟨w.heap.size + 2, 5, none⟩) (by simp) (.slice (some ⟨w2.heap.size, 0, none⟩) n n)
  have M4 := m3.kept g5 (by intro g' e' e''; simp at e'; injection e'' with e''; omega)
  have T0 := O4.at_ 0 rfl
  have T1 := O4.at_ 1 rfl
  have T2 := O4.at_ 2 rfl
  have T3 := O4.at_ 3 rfl
  have T4 := O4.at_ 4 rfl
  have T5 := O4.at_ 5 rfl
  have u0 := R4.at_ 0 rfl
  have u1 := R4.at_ 1 rfl
  have u2 := R4.at_ 2 rfl
  have u3 := R4.at_ 3 rfl
  have u4 := R4.at_ 4 rfl
  have u5 := R4.at_ 5 rfl
  have h0 := R4.free 0 (by simp)
  have h1 := R4.free 1 (by simp)
  have h2 := R4.free 2 (by simp)
  have h3 := R4.free 3 (by simp)
  have h4 := R4.free 4 (by simp)
  have h5 := R4.free 5 (by simp)
  have RF := Lib.hid ((((((R4.set 0 (by simp) (.int .i64 kd)).set 1 (by simp) (.int .i64 fa)).set 2 (by simp) (.int .i64 fp)).set 3 (by simp) (.int .i64 ta)).set 4 (by simp) (.int .i64 tp)).set 5 (by simp) (.slice (some ⟨w2.heap.size, 0, none⟩) n n))
  have GF := (((((only_setCell (w3.setCell ⟨w.heap.size + 2, 5, none⟩ (.slice (some ⟨w2.heap.size, 0, none⟩) n n)) (w.heap.size + 1) 0 (.int .i64 kd)).trans (only_setCell _ (w.heap.size + 1) 1 (.int .i64 fa))).trans (only_setCell _ (w.heap.size + 1) 2 (.int .i64 fp))).trans (only_setCell _ (w.heap.size + 1) 3 (.int .i64 ta))).trans (only_setCell _ (w.heap.size + 1) 4 (.int .i64 tp))).trans (only_setCell _ (w.heap.size + 1) 5 (.slice (some ⟨w2.heap.size, 0, none⟩) n n))
  have BF := Lib.hid (only_below B4 GF (by simp [World.setCell]; omega) (by omega))
  have MF := (M4.kept GF (by intro g' e' e''; simp at e'; injection e'' with e''; omega)).sees.row
  have HMF := Lib.hid MF
  clear GF M4 m3 B4 R4 O4 g5 MF B3 R3 O3 hr2 hr
  go_wp2
  refine bodyPost_ret (v := .agg #[.int .i64 kd, .int .i64 fa, .int .i64 fp, .int .i64 ta, .int .i64 tp, .slice (some ⟨w2.heap.size, 0, none⟩) n n]) (results_cells (g := w.heap.size + 1) rfl _ _ [.int .i64 kd, .int .i64 fa, .int .i64 fp, .int .i64 ta, .int .i64 tp, .slice (some ⟨w2.heap.size, 0, none⟩) n n] _ rfl (fun j v hv => RF.out.at_ j hv) Try.underlying27 rfl (by kernel_rfl)) rfl ⟨_, rfl, HMF.out, BF.out⟩

set_option maxHeartbeats 800000 in
theorem eqPacket_same (kd fa fp ta tp : Int) (A A' : Option Addr) (n c c' B B' : Nat) (xs : List Int) (w : World) (hn : xs.length = n) (hb : n ≤ 1048576) (hB : B ≤ w.heap.size) (hB' : B' ≤ w.heap.size) (hr : Row .i64 w B A xs) (hr' : Row .i64 w B' A' xs) :
    Calls Try.prog 12 #[.agg #[.int .i64 kd, .int .i64 fa, .int .i64 fp, .int .i64 ta, .int .i64 tp, .slice A n c], .agg #[.int .i64 kd, .int .i64 fa, .int .i64 fp, .int .i64 ta, .int .i64 tp, .slice A' n c']] w fun e w' => e = .returned (.bool true) ∧ Below w.heap.size w w' := by
  have K0 := Lib.hid ((PBox.new_at w w.heap.size rfl 27 kd fa fp ta tp A n c).alloc (.cells #[.int .i64 kd, .int .i64 fa, .int .i64 fp, .int .i64 ta, .int .i64 tp, .slice A' n c'] 27))
  have L0 := Lib.hid (PBox.new_at (w.alloc (.cells #[.int .i64 kd, .int .i64 fa, .int .i64 fp, .int .i64 ta, .int .i64 tp, .slice A n c] 27)) (w.heap.size + 1) (by simp) 27 kd fa fp ta tp A' n c')
  have B0 := Lib.hid (((Below.refl w.heap.size w).alloc (Nat.le_refl _) (.cells #[.int .i64 kd, .int .i64 fa, .int .i64 fp, .int .i64 ta, .int .i64 tp, .slice A n c] 27)).alloc (by simp) (.cells #[.int .i64 kd, .int .i64 fa, .int .i64 fp, .int .i64 ta, .int .i64 tp, .slice A' n c'] 27))
  obtain ⟨⟨k0, k1, k2, k3, k4, k5⟩, -⟩ := K0.out
  obtain ⟨⟨l0, l1, l2, l3, l4, l5⟩, -⟩ := L0.out
  go_enter Try.func12, Try.ntmps12
  go_wp2_with fail
  refine (eqEnd_same fa fp _).mono ?_
  rintro e w1 ⟨rfl, b1⟩
  have K1 := Lib.hid (K0.out.on b1)
  have L1 := Lib.hid (L0.out.on b1)
  have B1 := Lib.hid (next B0.out b1)
  clear b1 K0 L0 B0 k0 k1 k2 k3 k4 k5 l0 l1 l2 l3 l4 l5
  obtain ⟨⟨k0, k1, k2, k3, k4, k5⟩, -⟩ := K1.out
  obtain ⟨⟨l0, l1, l2, l3, l4, l5⟩, -⟩ := L1.out
  go_wp2_with fail
  refine (eqEnd_same ta tp _).mono ?_
  rintro e w2 ⟨rfl, b2⟩
  have K2 := Lib.hid (K1.out.on b2)
  have L2 := Lib.hid (L1.out.on b2)
  have B2 := Lib.hid (next B1.out b2)
  clear b2 K1 L1 B1 k0 k1 k2 k3 k4 k5 l0 l1 l2 l3 l4 l5
  obtain ⟨⟨k0, k1, k2, k3, k4, k5⟩, -⟩ := K2.out
  obtain ⟨⟨l0, l1, l2, l3, l4, l5⟩, -⟩ := L2.out
  have q := hr.more hB
  have q' := hr'.more hB'
  go_wp2_with fail
  refine (eqIntS_same A A' n c c' _ _ xs _ hn hb (q.below B2.out) (q'.below B2.out)).mono ?_
  rintro e w3 ⟨rfl, b3⟩
  have B3 := Lib.hid (next B2.out b3)
  clear b3 K2 L2 B2 k0 k1 k2 k3 k4 k5 l0 l1 l2 l3 l4 l5
  go_wp2
  go_ret
  exact ⟨rfl, B3.out⟩
end Go.Proofs.Ytogoeehkpebhaaa
