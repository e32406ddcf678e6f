/-
  Lists of mappings: the statements' helpers toMapping, eqMapping, szMappingS, toMappingS, eqMappingS. (Written by genrow.py.)
-/
import Derived.Test.YtogoeehkpebhaaaEnd
import Derived.Test.YtogoeehkpebhaaaCls
import Derived.BigQuiet
namespace Go.Proofs.Ytogoeehkpebhaaa
open Go.RowKit

def encM (p : Int × Int × Int × Int) : List Value := [.int .i64 p.1, .int .i64 p.2.1, .int .i64 p.2.2.1, .int .i64 p.2.2.2]
theorem encM_len (p : Int × Int × Int × Int) : (encM p).length = 4 := rfl
theorem encM_one (L : List (Int × Int × Int × Int)) : ∀ u ∈ L.flatMap encM, u.oneCell' = true := by
  intro u hu
  obtain ⟨p, _, hp⟩ := List.mem_flatMap.1 hu
  simp [encM] at hp
  rcases hp with rfl | rfl | rfl | rfl <;> rfl
/-- A row that is read: its block lies below B. -/
def MRow (w : World) (B : Nat) (A : Option Addr) (L : List (Int × Int × Int × Int)) : Prop := Sees w B A (L.flatMap encM)
section
variable {w w' : World} {B B' : Nat} {A : Option Addr} {L : List (Int × Int × Int × Int)}
theorem MRow.nil_ : MRow w B A [] := Sees.nil_
theorem MRow.more (h : MRow w B A L) (hB : B ≤ B') : MRow w B' A L := Sees.more h hB
theorem MRow.below (h : MRow w B A L) (hb : Below B w w') : MRow w' B A L := Sees.below h hb
theorem MRow.on (h : MRow w w.heap.size A L) (hb : Below w.heap.size w w') : MRow w' w'.heap.size A L := Sees.on h hb
theorem MRow.get (h : MRow w B A L) (h0 : 0 < L.length) : ∃ b o, A = some ⟨b, o, none⟩ ∧ b < B ∧ ∀ i, i < L.length → w.cell? ⟨b, o + i * 4, none⟩ = some (.int .i64 (L.getD i (0, 0, 0, 0)).1) ∧ w.cell? ⟨b, o + i * 4 + 1, none⟩ = some (.int .i64 (L.getD i (0, 0, 0, 0)).2.1) ∧ w.cell? ⟨b, o + i * 4 + 2, none⟩ = some (.int .i64 (L.getD i (0, 0, 0, 0)).2.2.1) ∧ w.cell? ⟨b, o + i * 4 + 3, none⟩ = some (.int .i64 (L.getD i (0, 0, 0, 0)).2.2.2) := by
  obtain ⟨b, o, e, hb, hi⟩ := Sees.elems encM_len (by decide) h (0, 0, 0, 0) h0
  exact ⟨b, o, e, hb, fun i hil => ⟨hi i hil 0 _ rfl, hi i hil 1 _ rfl, hi i hil 2 _ rfl, hi i hil 3 _ rfl⟩⟩
end

set_option maxHeartbeats 1600000 in
theorem toMapping_any (x y p t : Int) (w : World) : Calls Try.prog 40 #[.agg #[.int .i64 x, .int .i64 y, .int .i64 p, .int .i64 t]] w fun e w' => e = .returned (.agg #[.int .i64 x, .int .i64 y, .int .i64 p, .int .i64 t]) ∧ Below w.heap.size w w' := by
  have K0 := Lib.hid (((Box.new_at w w.heap.size rfl 74 #[.int .i64 x, .int .i64 y, .int .i64 p, .int .i64 t] (by simp [maxLen])).alloc (.cells #[.int .i64 0, .int .i64 0, .int .i64 0, .int .i64 0] 71)).alloc (.cells #[.int .i64 0, .int .i64 0, .int .i64 0, .int .i64 0] 71))
  have R0 := Lib.hid ((Box.new_at (w.alloc (.cells #[.int .i64 x, .int .i64 y, .int .i64 p, .int .i64 t] 74)) (w.heap.size + 1) (by simp) 71 #[.int .i64 0, .int .i64 0, .int .i64 0, .int .i64 0] (by simp [maxLen])).alloc (.cells #[.int .i64 0, .int .i64 0, .int .i64 0, .int .i64 0] 71))
  have O0 := Lib.hid (Box.new_at ((w.alloc (.cells #[.int .i64 x, .int .i64 y, .int .i64 p, .int .i64 t] 74)).alloc (.cells #[.int .i64 0, .int .i64 0, .int .i64 0, .int .i64 0] 71)) (w.heap.size + 2) (by simp) 71 #[.int .i64 0, .int .i64 0, .int .i64 0, .int .i64 0] (by simp [maxLen]))
  have B0 := Lib.hid ((((Below.refl w.heap.size w).alloc (Nat.le_refl _) (.cells #[.int .i64 x, .int .i64 y, .int .i64 p, .int .i64 t] 74)).alloc (by simp) (.cells #[.int .i64 0, .int .i64 0, .int .i64 0, .int .i64 0] 71)).alloc (by simp; omega) (.cells #[.int .i64 0, .int .i64 0, .int .i64 0, .int .i64 0] 71))
  have k0 := K0.out.at_ 0 rfl
  have k1 := K0.out.at_ 1 rfl
  have k2 := K0.out.at_ 2 rfl
  have k3 := K0.out.at_ 3 rfl
  go_enter Try.func40, Try.ntmps40
  go_wp2_with fail
  refine (toEnd_any x y _).mono ?_
  rintro e w1 ⟨rfl, b1⟩
  have z1 := b1.size
  simp at z1
  have K1 := Lib.hid (K0.out.below b1)
  have R1 := Lib.hid (R0.out.below b1)
  have O1 := O0.out.below b1
  have B1 := next B0.out b1
  clear b1 K0 R0 O0 B0 k0 k1 k2 k3
  have v0 := O1.at_ 0 rfl
  have v1 := O1.at_ 1 rfl
  have f0 := O1.free 0 (by simp)
  have f1 := O1.free 1 (by simp)
  have ga := only_setCell w1 (w.heap.size + 2) 0 (.int .i64 x)
  have gb := only_setCell (w1.setCell ⟨w.heap.size + 2, 0, none⟩ (.int .i64 x)) (w.heap.size + 2) 1 (.int .i64 y)
  have O2 := Lib.hid ((O1.set 0 (by simp) (.int .i64 x)).set 1 (by simp) (.int .i64 y))
  have R2 := Lib.hid ((R1.out.far ga (by omega)).far gb (by omega))
  have K2 := Lib.hid ((K1.out.far ga (by omega)).far gb (by omega))
  have B2 := Lib.hid ((B1.setCell (p := ⟨w.heap.size + 2, 0, none⟩) (by simp) (.int .i64 x)).setCell (p := ⟨w.heap.size + 2, 1, none⟩) (by simp) (.int .i64 y))
  clear ga gb O1 R1 K1 B1
  have k0 := K2.out.at_ 0 rfl
  have k1 := K2.out.at_ 1 rfl
  have k2 := K2.out.at_ 2 rfl
  have k3 := K2.out.at_ 3 rfl
  have v2 := O2.out.at_ 2 rfl
  have f2 := O2.out.free 2 (by simp)
  have g2 := only_setCell ((w1.setCell ⟨w.heap.size + 2, 0, none⟩ (.int .i64 x)).setCell ⟨w.heap.size + 2, 1, none⟩ (.int .i64 y)) (w.heap.size + 2) 2 (.int .i64 p)
  have O3 := Lib.hid (O2.out.set 2 (by simp) (.int .i64 p))
  have R3 := Lib.hid (R2.out.far g2 (by omega))
  have K3 := Lib.hid (K2.out.far g2 (by omega))
  have B3 := Lib.hid (B2.out.setCell (p := ⟨w.heap.size + 2, 2, none⟩) (by simp) (.int .i64 p))
  clear O2 R2 K2 B2 g2
  have v3 := O3.out.at_ 3 rfl
  have f3 := O3.out.free 3 (by simp)
  have g3 := only_setCell (((w1.setCell ⟨w.heap.size + 2, 0, none⟩ (.int .i64 x)).setCell ⟨w.heap.size + 2, 1, none⟩ (.int .i64 y)).setCell ⟨w.heap.size + 2, 2, none⟩ (.int .i64 p)) (w.heap.size + 2) 3 (.int .i64 t)
  have O4 := Lib.hid (O3.out.set 3 (by simp) (.int .i64 t))
  have R4 := Lib.hid (R3.out.far g3 (by omega))
  have K4 := Lib.hid (K3.out.far g3 (by omega))
  have B4 := Lib.hid (B3.out.setCell (p := ⟨w.heap.size + 2, 3, none⟩) (by simp) (.int .i64 t))
  clear O3 R3 K3 B3 g3
  have T0 := O4.out.at_ 0 rfl
  have u0 := R4.out.at_ 0 rfl
  have h0 := R4.out.free 0 (by simp)
  have T1 := O4.out.at_ 1 rfl
  have u1 := R4.out.at_ 1 rfl
  have h1 := R4.out.free 1 (by simp)
  have T2 := O4.out.at_ 2 rfl
  have u2 := R4.out.at_ 2 rfl
  have h2 := R4.out.free 2 (by simp)
  have T3 := O4.out.at_ 3 rfl
  have u3 := R4.out.at_ 3 rfl
  have h3 := R4.out.free 3 (by simp)
  have RF := Lib.hid ((((R4.out.set 0 (by simp) (.int .i64 x)).set 1 (by simp) (.int .i64 y)).set 2 (by simp) (.int .i64 p)).set 3 (by simp) (.int .i64 t))
  have GF := ((((only_setCell ((((w1.setCell ⟨w.heap.size + 2, 0, none⟩ (.int .i64 x)).setCell ⟨w.heap.size + 2, 1, none⟩ (.int .i64 y)).setCell ⟨w.heap.size + 2, 2, none⟩ (.int .i64 p)).setCell ⟨w.heap.size + 2, 3, none⟩ (.int .i64 t)) (w.heap.size + 1) 0 (.int .i64 x)).trans (only_setCell _ (w.heap.size + 1) 1 (.int .i64 y))).trans (only_setCell _ (w.heap.size + 1) 2 (.int .i64 p))).trans (only_setCell _ (w.heap.size + 1) 3 (.int .i64 t)))
  have zB := B4.out.size
  have BF := Lib.hid (only_below B4.out GF zB (by omega))
  clear GF zB
  go_wp2
  refine bodyPost_ret (v := .agg #[.int .i64 x, .int .i64 y, .int .i64 p, .int .i64 t]) (results_cells (g := w.heap.size + 1) rfl _ _ [.int .i64 x, .int .i64 y, .int .i64 p, .int .i64 t] _ rfl (fun j v hv => RF.out.at_ j hv) Try.underlying71 rfl (by kernel_rfl)) rfl ⟨rfl, BF.out⟩

set_option maxHeartbeats 800000 in
theorem eqMapping_same (x y p t : Int) (w : World) : Calls Try.prog 45 #[.agg #[.int .i64 x, .int .i64 y, .int .i64 p, .int .i64 t], .agg #[.int .i64 x, .int .i64 y, .int .i64 p, .int .i64 t]] w fun e w' => e = .returned (.bool true) ∧ Below w.heap.size w w' := by
  have K0 := Lib.hid ((Box.new_at w w.heap.size rfl 71 #[.int .i64 x, .int .i64 y, .int .i64 p, .int .i64 t] (by simp [maxLen])).alloc (.cells #[.int .i64 x, .int .i64 y, .int .i64 p, .int .i64 t] 71))
  have L0 := Lib.hid (Box.new_at (w.alloc (.cells #[.int .i64 x, .int .i64 y, .int .i64 p, .int .i64 t] 71)) (w.heap.size + 1) (by simp) 71 #[.int .i64 x, .int .i64 y, .int .i64 p, .int .i64 t] (by simp [maxLen]))
  have B0 := Lib.hid (((Below.refl w.heap.size w).alloc (Nat.le_refl _) (.cells #[.int .i64 x, .int .i64 y, .int .i64 p, .int .i64 t] 71)).alloc (by simp) (.cells #[.int .i64 x, .int .i64 y, .int .i64 p, .int .i64 t] 71))
  have k0 := K0.out.at_ 0 rfl
  have l0 := L0.out.at_ 0 rfl
  have k1 := K0.out.at_ 1 rfl
  have l1 := L0.out.at_ 1 rfl
  have k2 := K0.out.at_ 2 rfl
  have l2 := L0.out.at_ 2 rfl
  have k3 := K0.out.at_ 3 rfl
  have l3 := L0.out.at_ 3 rfl
  go_enter Try.func45, Try.ntmps45
  go_wp2_with fail
  refine (eqEnd_same x y _).mono ?_
  rintro e w1 ⟨rfl, b1⟩
  have K1 := Lib.hid (K0.out.below b1)
  have L1 := Lib.hid (L0.out.below b1)
  have B1 := Lib.hid (next B0.out b1)
  clear b1 K0 L0 B0 k0 k1 k2 k3 l0 l1 l2 l3
  have k0 := K1.out.at_ 0 rfl
  have l0 := L1.out.at_ 0 rfl
  have k1 := K1.out.at_ 1 rfl
  have l1 := L1.out.at_ 1 rfl
  have k2 := K1.out.at_ 2 rfl
  have l2 := L1.out.at_ 2 rfl
  have k3 := K1.out.at_ 3 rfl
  have l3 := L1.out.at_ 3 rfl
  go_wp2
  go_ret
  exact ⟨rfl, B1.out⟩

theorem szMappingS_any (a : Option Addr) (n c : Nat) (w : World) (hn : n ≤ 9223372036854775807) : Calls Try.prog 18 #[.slice a n c, .int .i64 1048576] w fun e w' => e = .returned (.int .i64 (if n ≤ 1048576 then 1048576 - (n : Int) else -1)) ∧ w = w' := by
  by_cases h : n ≤ 1048576
  · rw [if_pos h]
    have h1 : ¬ (1048576 - (n : Int) < 0) := by omega
    go_enter Try.func18, Try.ntmps18
    go_wp2
    go_ret
    exact ⟨rfl, rfl⟩
  · rw [if_neg h]
    have h1 : (1048576 - (n : Int) < 0) := by omega
    go_enter Try.func18, Try.ntmps18
    go_wp2
    go_ret
    exact ⟨rfl, rfl⟩

theorem encM_info : (Try.prog.info? 71).map (fun i => (i.zero, i.size, i.bytes)) = some (some (.agg #[.int .i64 0, .int .i64 0, .int .i64 0, .int .i64 0]), 4, 32) := by kernel_rfl
/-- A copy in a new block. -/
def CopiedM (w : World) (n : Nat) (L : List (Int × Int × Int × Int)) (e : Ending) (w' : World) : Prop :=
  e = .returned (.slice (some ⟨w.heap.size, 0, none⟩) n n) ∧ MRow w' w'.heap.size (some ⟨w.heap.size, 0, none⟩) L ∧ Below w.heap.size w w'

set_option maxHeartbeats 1600000 in
theorem toMappingS_any (a : Option Addr) (n c : Nat) (L : List (Int × Int × Int × Int)) (w : World) (hn : L.length = n) (hb : n ≤ 1048576) (hr : MRow w w.heap.size a L) :
    Calls Try.prog 20 #[.slice a n c] w (CopiedM w n L) := by
  obtain ⟨i0, hi, hz0, hz1, hz2⟩ := info_parts encM_info
  have hbz : i0.bytes * n ≤ 281474976710656 := by rw [hz2]; omega
  have hml : n ≤ maxLen := by unfold maxLen; omega
  go_enter Try.func20, Try.ntmps20
  go_wp2_with (at_make; refine wpList_make_full _ rfl _ _ 48 rfl w.heap.size 71 i0 (.agg #[.int .i64 0, .int .i64 0, .int .i64 0, .int .i64 0]) 4 Try.underlying48 hi hz0 hz1 .i64 .i64 _ _ n rfl rfl rfl rfl hbz hml (Nat.le_refl _) ?_; intro w1 hown hg)
  have hM := Mine.of_own hown
  have hB : Below w.heap.size w w1 := (Below.refl _ _).grown hg (Nat.le_refl _) (by simp)
  clear hown hg hbz hml hi hz0 hz1 hz2
  go_loopw [4] (fun i wr => ∃ (k : Nat) (ys : List Value), k ≤ n ∧ i = .int .i64 k ∧ Mine wr w.heap.size 4 (some ⟨w.heap.size, 0, none⟩) n n ys ∧ ShowsE encM 4 (0, 0, 0, 0) ys L k ∧ Below w.heap.size w wr) (fun i _ => n - (intOf i).toNat)
  case atStart => exact ⟨0, _, Nat.zero_le _, rfl, hM, fun t h => by omega, hB⟩
  case round =>
    obtain ⟨k, ys, hk, rfl, hM1, hys, hB1⟩ := hrel
    clear hM hB
    by_cases hlt : k < n
    · obtain ⟨b, o, rfl, hbl, hc⟩ := hr.get (by omega)
      have hce := hc k (by omega)
      have hcell0 := (hB1.cell (p := ⟨b, o + k * 4, none⟩) hbl).trans (hce.1)
      have hcell1 := (hB1.cell (p := ⟨b, o + k * 4 + 1, none⟩) hbl).trans (hce.2.1)
      have hcell2 := (hB1.cell (p := ⟨b, o + k * 4 + 2, none⟩) hbl).trans (hce.2.2.1)
      have hcell3 := (hB1.cell (p := ⟨b, o + k * 4 + 3, none⟩) hbl).trans (hce.2.2.2)
      have hlen : ys.length = n * 4 := by simpa using hM1.1
      have HS := Lib.hid (hys.step encM_len (k := k) (by omega))
      obtain ⟨⟨x0, x1, x2, x3⟩, hx⟩ : ∃ p, p = L.getD k (0, 0, 0, 0) := ⟨_, rfl⟩
      rw [← hx] at HS hcell0 hcell1 hcell2 hcell3
      clear hx hc hys hce
      have l1 : (k : Int) < (n : Int) := by omega
      have l2 : (0 : Int) ≤ (k : Int) := by omega
      go_wp2_with fail
      refine (toMapping_any x0 x1 x2 x3 _).mono ?_
      rintro e w2 ⟨rfl, b2⟩
      have m0 := hM1.below b2
      obtain ⟨⟨v0, hv0⟩, hf0⟩ := m0.can0 (j := k * 4) (by omega)
      have m1 := m0.set0 (j := k * 4) (by omega) (.int .i64 x0)
      obtain ⟨⟨v1, hv1⟩, hf1⟩ := m1.can0 (j := k * 4 + 1) (by omega)
      have m2 := m1.set0 (j := k * 4 + 1) (by omega) (.int .i64 x1)
      obtain ⟨⟨v2, hv2⟩, hf2⟩ := m2.can0 (j := k * 4 + 2) (by omega)
      have m3 := m2.set0 (j := k * 4 + 2) (by omega) (.int .i64 x2)
      obtain ⟨⟨v3, hv3⟩, hf3⟩ := m3.can0 (j := k * 4 + 3) (by omega)
      have m4 := m3.set0 (j := k * 4 + 3) (by omega) (.int .i64 x3)
      have HM := Lib.hid m4
      have HB := Lib.hid (((((next hB1 b2).setCell (p := ⟨w.heap.size, k * 4, none⟩) (Nat.le_refl _) (.int .i64 x0)).setCell (p := ⟨w.heap.size, k * 4 + 1, none⟩) (Nat.le_refl _) (.int .i64 x1)).setCell (p := ⟨w.heap.size, k * 4 + 2, none⟩) (Nat.le_refl _) (.int .i64 x2)).setCell (p := ⟨w.heap.size, k * 4 + 3, none⟩) (Nat.le_refl _) (.int .i64 x3))
      clear hM1 hB1 b2 m0 m1 m2 m3 m4 hcell0 hcell1 hcell2 hcell3
      go_wp2
      refine ⟨⟨k + 1, _, by omega, by go_num, HM.out, HS.out, HB.out⟩, ?_⟩
      simp [intOf]; omega
    · obtain rfl : k = n := by omega
      go_wp2
      go_ret
      have hlen : ys.length = L.length * 4 := by rw [hn]; simpa using hM1.1
      subst hn
      refine ⟨rfl, ?_, hB1⟩
      have := hM1.sees
      rw [hys.full encM_len (by decide) hlen] at this
      exact this

set_option maxHeartbeats 1600000 in
theorem eqMappingS_same (a a' : Option Addr) (n c c' : Nat) (L : List (Int × Int × Int × Int)) (w : World) (hn : L.length = n) (hb : n ≤ 1048576) (hr : MRow w w.heap.size a L) (hr' : MRow w w.heap.size a' L) :
    Calls Try.prog 22 #[.slice a n c, .slice a' n c'] w fun e w' => e = .returned (.bool true) ∧ Below w.heap.size w w' := by
  go_enter Try.func22, Try.ntmps22
  go_wp2
  go_loopw [5] (fun i wr => ∃ (k : Nat), k ≤ n ∧ i = .int .i64 k ∧ Below w.heap.size w wr) (fun i _ => n - (intOf i).toNat)
  case atStart => exact ⟨0, Nat.zero_le _, rfl, Below.refl _ _⟩
  case round wr =>
    obtain ⟨k, hk, rfl, hbw⟩ := hrel
    by_cases hlt : k < n
    · obtain ⟨b, o, rfl, h9, hc⟩ := hr.get (by omega)
      obtain ⟨b', o', rfl, h9', hc'⟩ := hr'.get (by omega)
      have hce := hc k (by omega)
      have hce' := hc' k (by omega)
      clear hc hc' hr hr'
      obtain ⟨⟨x0, x1, x2, x3⟩, hx⟩ : ∃ p, p = L.getD k (0, 0, 0, 0) := ⟨_, rfl⟩
      rw [← hx] at hce hce'
      clear hx
      have l1 : (k : Int) < (n : Int) := by omega
      have l2 : (0 : Int) ≤ (k : Int) := by omega
      have H0 := Lib.hid hbw.drew
      obtain ⟨S, f, hne, HF, HI⟩ := cls_of (fun w' => Below w.heap.size w w') hbw
      have k0 : ∀ z, (f z).cell? ⟨b, o + k * 4, none⟩ = some (.int .i64 x0) := fun z => ((HF.out z).cell (p := ⟨b, o + k * 4, none⟩) h9).trans (hce.1)
      have k1 : ∀ z, (f z).cell? ⟨b, o + k * 4 + 1, none⟩ = some (.int .i64 x1) := fun z => ((HF.out z).cell (p := ⟨b, o + k * 4 + 1, none⟩) h9).trans (hce.2.1)
      have k2 : ∀ z, (f z).cell? ⟨b, o + k * 4 + 2, none⟩ = some (.int .i64 x2) := fun z => ((HF.out z).cell (p := ⟨b, o + k * 4 + 2, none⟩) h9).trans (hce.2.2.1)
      have k3 : ∀ z, (f z).cell? ⟨b, o + k * 4 + 3, none⟩ = some (.int .i64 x3) := fun z => ((HF.out z).cell (p := ⟨b, o + k * 4 + 3, none⟩) h9).trans (hce.2.2.2)
      have l0 : ∀ z, (f z).cell? ⟨b', o' + k * 4, none⟩ = some (.int .i64 x0) := fun z => ((HF.out z).cell (p := ⟨b', o' + k * 4, none⟩) h9').trans (hce'.1)
      have l1 : ∀ z, (f z).cell? ⟨b', o' + k * 4 + 1, none⟩ = some (.int .i64 x1) := fun z => ((HF.out z).cell (p := ⟨b', o' + k * 4 + 1, none⟩) h9').trans (hce'.2.1)
      have l2 : ∀ z, (f z).cell? ⟨b', o' + k * 4 + 2, none⟩ = some (.int .i64 x2) := fun z => ((HF.out z).cell (p := ⟨b', o' + k * 4 + 2, none⟩) h9').trans (hce'.2.2.1)
      have l3 : ∀ z, (f z).cell? ⟨b', o' + k * 4 + 3, none⟩ = some (.int .i64 x3) := fun z => ((HF.out z).cell (p := ⟨b', o' + k * 4 + 3, none⟩) h9').trans (hce'.2.2.2)
      have c1 := Lib.hid (fun z => cls_call (x := z) HI (fun w' => next (HF.out z)) (eqMapping_same x0 x1 x2 x3 (f z)))
      clear hce hce'
      go_wp2
      refine wp_region_cls f (by kernel_rfl) (by kernel_rfl) (HI.out _ H0.out) ?_
      repeat (go_big_quiet_step ((first | (go_at_call 45; exact c1.out _))))
      refine wpQuiet_nil ?_
      rintro _ ⟨z, rfl⟩
      have hb2 := HF.out z
      clear k0 k1 k2 k3 l0 l1 l2 l3
      go_wp2
      go_roundw
      case rel => exact ⟨k + 1, by omega, by go_num, hb2⟩
      case measure => simp [intOf]; omega
    · go_wp2
      go_ret
      exact ⟨rfl, hbw⟩
end Go.Proofs.Ytogoeehkpebhaaa
