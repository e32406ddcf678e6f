/-
  The generator's reader, over the contracts of pick's four ways: pick, one, newReader, someWord.
-/
import Derived.Test.YtabapkbfolncoaaDraw1
namespace Go.Proofs.Ytabapkbfolncoaa
open Go.RowKit

theorem pick_any (B R P : Nat) (n : Int) (w : World) (h : Rd w B R P) (hP : P ≤ 1000000) :
    Calls Try.prog 69 #[.pointer (some ⟨R, 0, none⟩), .int .i64 n] w (Picked w B R (P + 1) fun m => 0 ≤ m ∧ (1 ≤ n → m < n)) := by
  obtain ⟨hBR, hR, a, len, c, p, hh, hp, hlm, hbytes⟩ := h
  have hst := rd_step hBR hR hh hp hlm hbytes
  have hc0 : w.cell? ⟨R, 0, none⟩ = some (.slice a len c) := by rw [cell_of_row w R 0 _ _ _ hh]; rfl
  have hc1 : w.cell? ⟨R, 1, none⟩ = some (.int .i64 p) := by rw [cell_of_row w R 1 _ _ _ hh]; rfl
  have hf1 : w.frozen? ⟨R, 1, none⟩ = false := by simp [World.frozen?, hh]
  have hg := only_setCell w R 1 (.int .i64 ((p : Int) + 1))
  by_cases hn : n < 1
  · refine (pick_a R n p w hc1 hf1 (by omega) hn).mono fun e w' ⟨he, hw⟩ => ?_
    subst hw
    exact .mk 0 he ⟨by omega, by omega⟩ hst hg
  · rcases Nat.eq_zero_or_pos len with rfl | hl
    · refine (pick_b R n a c p w hc0 hc1 hf1 (by omega) (by omega)).mono fun e w' ⟨he, hw⟩ => ?_
      subst hw
      exact .mk 0 he ⟨by omega, by omega⟩ hst hg
    · obtain ⟨b, o, rfl, hb, hz⟩ := hbytes hl
      by_cases hlt : p < len
      · obtain ⟨z, z0, z1, hz⟩ := hz p hlt
        refine (pick_c R n len c p w b o z hc0 hc1 hf1 (by omega) (by omega) hlt (by omega) hz z0 z1).mono fun e w' ⟨he, hw⟩ => ?_
        subst hw
        exact .mk _ he ⟨Int.emod_nonneg _ (by omega), fun _ => Int.emod_lt_of_pos _ (by omega)⟩ hst hg
      · obtain ⟨u, u0, u1, hu⟩ := hz (p % len) (Nat.mod_lt _ hl)
        obtain ⟨v, v0, v1, hv⟩ := hz ((p * 7 + 3) % len) (Nat.mod_lt _ hl)
        have hd := Nat.div_le_self p len
        have e1 : (p : Int).tmod len = ((p % len : Nat) : Int) := by rw [Int.tmod_eq_emod_of_nonneg (by omega)]; omega
        have e2 : ((p : Int) * 7 + 3).tmod len = (((p * 7 + 3) % len : Nat) : Int) := by rw [Int.tmod_eq_emod_of_nonneg (by omega), Int.natCast_emod]; rfl
        have e3 : (p : Int).tdiv len = ((p / len : Nat) : Int) := by rw [Int.tdiv_eq_ediv_of_nonneg (by omega), Int.natCast_ediv]
        refine (pick_d R n len c p w b o (p % len) ((p * 7 + 3) % len) (p / len) u v hc0 hc1 hf1 (by omega) (by omega) (by omega) hl (by omega) (Nat.mod_lt _ hl) (Nat.mod_lt _ hl) hd e1 e2 e3 hu hv u0 u1 v0 v1).mono fun e w' ⟨he, nq, hw⟩ => ?_
        subst hw
        exact .mk _ he ⟨Int.emod_nonneg _ (by omega), fun _ => Int.emod_lt_of_pos _ (by omega)⟩ hst (only_drewN hg nq)

set_option maxHeartbeats 400000 in
theorem one_any (B R P g o n c : Nat) (xs : List Int) (w : World) (h : Rd w B R P) (hg : g ≠ R) (hgs : g < w.heap.size) (hn : xs.length = n) (h0 : 0 < n) (hnm : n ≤ 1000000) (hP : P ≤ 1000000)
    (hc : ∀ i, i < xs.length → w.cell? ⟨g, o + i, none⟩ = some (.int .i64 (xs.getD i 0))) :
    Calls Try.prog 58 #[.pointer (some ⟨R, 0, none⟩), .slice (some ⟨g, o, none⟩) n c] w (Picked w B R (P + 1) fun m => m ∈ xs) := by
  go_enter Try.func58, Try.ntmps58
  go_wp2_with fail
  refine (pick_any B R P n _ h hP).mono ?_
  rintro e w1 ⟨m, rfl, ⟨m0, m1⟩, hr1, hg1⟩
  have hm := m1 (by omega)
  clear m1
  obtain ⟨j, rfl⟩ := Int.eq_ofNat_of_zero_le m0
  have hj : j < n := by omega
  have hcell : w1.cell? ⟨g, o + j, none⟩ = some (.int .i64 (xs.getD j 0)) := by
    exact (World.cell?_of_block (a := ⟨g, o + j, none⟩) (hg1.block g hgs (fun e => hg (by injection e)))).trans (hc j (by omega))
  obtain ⟨x, hx⟩ : ∃ x, x = xs.getD j 0 := ⟨_, rfl⟩
  rw [← hx] at hcell
  have HX := Lib.hid hx
  clear hx hc
  go_wp2
  go_ret
  refine .mk x rfl ?_ hr1 hg1
  rw [HX.out, List.getD_eq_getElem?_getD, List.getElem?_eq_getElem (by omega)]
  exact List.getElem_mem _

/-- What newReader leaves: a reader in a new block. -/
def NewRd (w : World) (e : Ending) (w' : World) : Prop :=
  e = .returned (.pointer (some ⟨w.heap.size, 0, none⟩)) ∧ Rd w' w.heap.size w.heap.size 0 ∧ Below w.heap.size w w' ∧ w'.heap.size = w.heap.size + 1

theorem newRd_mk (w : World) (a : Option Addr) (n c : Nat) (hn : n ≤ 2000)
    (hc : 0 < n → ∃ b o, a = some ⟨b, o, none⟩ ∧ b < w.heap.size ∧ ∀ i, i < n → ∃ z : Int, 0 ≤ z ∧ z ≤ 255 ∧ w.cell? ⟨b, o + i, none⟩ = some (.int .u8 z)) :
    NewRd w (.returned (.pointer (some ⟨w.heap.size, 0, none⟩))) (w.alloc (.cells #[.slice a n c, .int .i64 0] 70)) := by
  refine ⟨rfl, ⟨Nat.le_refl _, by simp, a, n, c, 0, heap_alloc_new w _, Nat.le_refl _, hn, fun h0 => ?_⟩, (Below.refl _ _).alloc (Nat.le_refl _) _, by simp⟩
  obtain ⟨b, o, e, hb, hi⟩ := hc h0
  refine ⟨b, o, e, hb, fun i hl => ?_⟩
  obtain ⟨z, z0, z1, hz⟩ := hi i hl
  exact ⟨z, z0, z1, (World.cell?_alloc_lt w _ ⟨b, o + i, none⟩ hb).trans hz⟩

/-- The bytes that came in. -/
def Bytes (w : World) (a : Option Addr) (n : Nat) : Prop :=
  0 < n → ∃ b o, a = some ⟨b, o, none⟩ ∧ b < w.heap.size ∧ ∀ i, i < n → ∃ z : Int, 0 ≤ z ∧ z ≤ 255 ∧ w.cell? ⟨b, o + i, none⟩ = some (.int .u8 z)

set_option maxHeartbeats 400000 in
theorem newReader_any (a : Option Addr) (n c : Nat) (w : World) (hb : Bytes w a n) (hnc : n ≤ c) (hc : c ≤ 9223372036854775807) :
    Calls Try.prog 49 #[.slice a n c] w (NewRd w) := by
  by_cases hn : n ≤ 2000
  · have H := Lib.hid (newRd_mk w a n c hn hb)
    clear hb
    go_enter Try.func49, Try.ntmps49
    go_wp2
    go_ret
    exact H.out
  · obtain ⟨b, o, rfl, hlt, hi⟩ := hb (by omega)
    have H := Lib.hid (newRd_mk w (some ⟨b, o, none⟩) 2000 c (Nat.le_refl _) (fun _ => ⟨b, o, rfl, hlt, fun i hl => hi i (by omega)⟩))
    clear hi hb
    go_enter Try.func49, Try.ntmps49
    go_wp2
    go_ret
    exact H.out


end Go.Proofs.Ytabapkbfolncoaa
