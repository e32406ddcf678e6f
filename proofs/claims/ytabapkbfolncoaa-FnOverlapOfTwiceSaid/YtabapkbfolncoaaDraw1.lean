/-
  The generator's reader: what newReader, pick, one and someWord return, for all bytes.
-/
import Derived.Test.YtabapkbfolncoaaMem
import Derived.Test.YtabapkbfolncoaaPlain
import Derived.Deep.QuietTactic
import Derived.BigQuiet
namespace Go.Proofs.Ytabapkbfolncoaa
open Go.RowKit

/-- The reader's place moved on. -/
theorem rd_step {w : World} {B R P p n c : Nat} {a : Option Addr} (hBR : B ≤ R) (hR : R < w.heap.size) (hh : w.heap[R]? = some (.cells #[.slice a n c, .int .i64 p] 70 (0, 0))) (hp : p ≤ P) (hn : n ≤ 2000)
    (hc : 0 < n → ∃ b o, a = some ⟨b, o, none⟩ ∧ b < B ∧ ∀ i, i < n → ∃ z : Int, 0 ≤ z ∧ z ≤ 255 ∧ w.cell? ⟨b, o + i, none⟩ = some (.int .u8 z)) :
    Rd (w.setCell ⟨R, 1, none⟩ (.int .i64 ((p : Int) + 1))) B R (P + 1) := by
  refine ⟨hBR, by simpa [World.setCell] using hR, a, n, c, p + 1, ?_, by omega, hn, fun h0 => ?_⟩
  · simp [World.setCell, Array.getElem?_modify, hh]
  · obtain ⟨b, o, e, hb, hi⟩ := hc h0
    refine ⟨b, o, e, hb, fun i hl => ?_⟩
    obtain ⟨z, z0, z1, hz⟩ := hi i hl
    exact ⟨z, z0, z1, (World.cell?_of_block (a := ⟨b, o + i, none⟩) (Below.heap_setCell w ⟨R, 1, none⟩ _ b (by simp; omega))).trans hz⟩

def pickX (u v p d : Int) : Int := bits .xor .i64 (u * 131 + v * 1117 + p * 29 + d * 53) ((u * 131 + v * 1117 + p * 29 + d * 53) / 64)
theorem pickX_nonneg {u v p d : Int} (hu : 0 ≤ u) (hu' : u ≤ 255) (hv : 0 ≤ v) (hv' : v ≤ 255) (hp : 0 ≤ p) (hp' : p ≤ 1000000) (hd : 0 ≤ d) (hd' : d ≤ p) : 0 ≤ pickX u v p d :=
  xor_nonneg _ _ (by omega) (by omega) (by omega) (by omega)

section
variable (R : Nat) (n : Int) (a : Option Addr) (len c p : Nat) (w : World)

set_option maxHeartbeats 400000 in
theorem pick_a (hc1 : w.cell? ⟨R, 1, none⟩ = some (.int .i64 p)) (hf1 : w.frozen? ⟨R, 1, none⟩ = false) (hp : p ≤ 1000000) (hn : n < 1) :
    Calls Try.prog 69 #[.pointer (some ⟨R, 0, none⟩), .int .i64 n] w fun e w' => e = .returned (.int .i64 0) ∧ w.setCell ⟨R, 1, none⟩ (.int .i64 ((p : Int) + 1)) = w' := by
  go_enter Try.func69, Try.ntmps69
  go_wp2
  go_ret
  exact ⟨rfl, rfl⟩

set_option maxHeartbeats 400000 in
theorem pick_b (hc0 : w.cell? ⟨R, 0, none⟩ = some (.slice a 0 c)) (hc1 : w.cell? ⟨R, 1, none⟩ = some (.int .i64 p)) (hf1 : w.frozen? ⟨R, 1, none⟩ = false) (hp : p ≤ 1000000) (hn : 1 ≤ n) :
    Calls Try.prog 69 #[.pointer (some ⟨R, 0, none⟩), .int .i64 n] w fun e w' => e = .returned (.int .i64 0) ∧ w.setCell ⟨R, 1, none⟩ (.int .i64 ((p : Int) + 1)) = w' := by
  go_enter Try.func69, Try.ntmps69
  go_wp2
  go_ret
  exact ⟨rfl, rfl⟩

set_option maxHeartbeats 400000 in
theorem pick_c (b o : Nat) (z : Int) (hc0 : w.cell? ⟨R, 0, none⟩ = some (.slice (some ⟨b, o, none⟩) len c)) (hc1 : w.cell? ⟨R, 1, none⟩ = some (.int .i64 p)) (hf1 : w.frozen? ⟨R, 1, none⟩ = false) (hp : p ≤ 1000000) (hn : 1 ≤ n)
    (hlen : p < len) (hbR : b < R) (hz : w.cell? ⟨b, o + p, none⟩ = some (.int .u8 z)) (hz0 : 0 ≤ z) (hz1 : z ≤ 255) :
    Calls Try.prog 69 #[.pointer (some ⟨R, 0, none⟩), .int .i64 n] w fun e w' => e = .returned (.int .i64 (z % n)) ∧ w.setCell ⟨R, 1, none⟩ (.int .i64 ((p : Int) + 1)) = w' := by
  have hl0 : ((len : Int) == 0) = false := by simp; omega
  go_enter Try.func69, Try.ntmps69
  go_wp2
  go_ret
  exact ⟨rfl, rfl⟩

set_option maxHeartbeats 800000 in
theorem pick_d (b o i1 i2 d : Nat) (u v : Int) (hc0 : w.cell? ⟨R, 0, none⟩ = some (.slice (some ⟨b, o, none⟩) len c)) (hc1 : w.cell? ⟨R, 1, none⟩ = some (.int .i64 p)) (hf1 : w.frozen? ⟨R, 1, none⟩ = false) (hp : p ≤ 1000000) (hn : 1 ≤ n)
    (hlen : len ≤ p) (hl1 : 0 < len) (hbR : b < R) (hi1 : i1 < len) (hi2 : i2 < len) (hd : d ≤ p)
    (e1 : (p : Int).tmod len = (i1 : Int)) (e2 : ((p : Int) * 7 + 3).tmod len = (i2 : Int)) (e3 : (p : Int).tdiv len = (d : Int))
    (hu : w.cell? ⟨b, o + i1, none⟩ = some (.int .u8 u)) (hv : w.cell? ⟨b, o + i2, none⟩ = some (.int .u8 v)) (hu0 : 0 ≤ u) (hu1 : u ≤ 255) (hv0 : 0 ≤ v) (hv1 : v ≤ 255) :
    Calls Try.prog 69 #[.pointer (some ⟨R, 0, none⟩), .int .i64 n] w fun e w' => e = .returned (.int .i64 (pickX u v p d % n)) ∧ ∃ nq, (w.setCell ⟨R, 1, none⟩ (.int .i64 ((p : Int) + 1))).drewN nq = w' := by
  have hl0 : ((len : Int) == 0) = false := by simp; omega
  have hl2 : ¬ len = 0 := by omega
  have hl3 : (len == 0) = false := by simp; omega
  have hx := pickX_nonneg (p := p) (d := d) hu0 hu1 hv0 hv1 (by omega) (by omega) (by omega) (by omega)
  have w1 : IntKind.i64.wrap ((p : Int) * 7) = (p : Int) * 7 := wrap_in (by omega)
  have w2 : IntKind.i64.wrap ((p : Int) * 7 + 3) = (p : Int) * 7 + 3 := wrap_in (by omega)
  have w3 : IntKind.i64.wrap (u * 131) = u * 131 := wrap_in (by omega)
  have w4 : IntKind.i64.wrap (v * 1117) = v * 1117 := wrap_in (by omega)
  have w5 : IntKind.i64.wrap (u * 131 + v * 1117) = u * 131 + v * 1117 := wrap_in (by omega)
  have w6 : IntKind.i64.wrap ((p : Int) * 29) = (p : Int) * 29 := wrap_in (by omega)
  have w7 : IntKind.i64.wrap (u * 131 + v * 1117 + (p : Int) * 29) = u * 131 + v * 1117 + (p : Int) * 29 := wrap_in (by omega)
  have w8 : IntKind.i64.wrap ((d : Int) * 53) = (d : Int) * 53 := wrap_in (by omega)
  have w9 : IntKind.i64.wrap (u * 131 + v * 1117 + (p : Int) * 29 + (d : Int) * 53) = u * 131 + v * 1117 + (p : Int) * 29 + (d : Int) * 53 := wrap_in (by omega)
  have j1 : (i1 : Int) < (len : Int) := by omega
  have j2 : (i2 : Int) < (len : Int) := by omega
  have j3 : (0 : Int) ≤ (i1 : Int) := by omega
  have j4 : (0 : Int) ≤ (i2 : Int) := by omega
  go_enter Try.func69, Try.ntmps69
  go_wp2
  go_quiet (fail)
  go_wp2
  go_ret
  exact ⟨ret_int (Int.tmod_eq_emod_of_nonneg hx), nq, rfl⟩
end

end Go.Proofs.Ytabapkbfolncoaa
