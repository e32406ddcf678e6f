/-
  SplitNet, of the program and of the reference.
-/
import Derived.Test.YtmaecadflilbgaaNet1
import Derived.Test.YtmaecadflilbgaaOwn
namespace Go.Proofs.Ytmaecadflilbgaa
open Go.RowKit
attribute [local go_sem ↓] Go.wp_at_zero Go.wp_at_succ

/-- Whether a net has halves. -/
def twoN (b s : Int) : Bool := vN b s && !(s == 16)
/-- The halves' cells. -/
def halvesN (b s : Int) : List Value := [.int .i64 b, .int .i64 (s + 1), .int .i64 (b + szN s / 2), .int .i64 (s + 1)]
/-- What SplitNet leaves for a net with halves: a new list. -/
def Split2 (w : World) (b s : Int) (e : Ending) (w' : World) : Prop :=
  ∃ g, e = .returned (.slice (some ⟨g, 0, none⟩) 2 2) ∧ Mine w' w.heap.size 2 (some ⟨g, 0, none⟩) 2 2 (halvesN b s) ∧ Below w.heap.size w w'
theorem szN_half {s : Int} (h0 : 0 ≤ s) (h : s < 16) : szN s = 2 * szN (s + 1) := by
  unfold szN; rw [← p2_succ]; congr 1; omega
theorem twoN_vN {b s : Int} (h : twoN b s = true) : vN b s = true := by simp [twoN] at h; exact h.1
theorem twoN_ne {b s : Int} (h : twoN b s = true) : s ≠ 16 := by simp [twoN] at h; exact h.2
theorem twoN_lt {b s : Int} (h : twoN b s = true) : 0 ≤ s ∧ s < 16 := by
  have := inR_iff.1 (vN_bits (twoN_vN h)); have := twoN_ne h; omega
theorem split_mk {w w6 : World} {b s hf : Int} {t : TypeId} (hb : Below w.heap.size w w6) (hh : hf = szN s / 2) :
    Split2 w b s (.returned (.slice (some ⟨w6.heap.size, 0, none⟩) 2 2)) (w6.alloc (.cells #[.int .i64 b, .int .i64 (s + 1), .int .i64 (b + hf), .int .i64 (s + 1)] t)) := by
  subst hh
  exact ⟨_, rfl, (Mine.new w6 t 2 2 #[.int .i64 b, .int .i64 (s + 1), .int .i64 (b + szN s / 2), .int .i64 (s + 1)] rfl (by decide)).mono hb.size, hb.alloc hb.size _⟩

set_option maxHeartbeats 1600000 in
theorem SplitNet_no (b s : Int) (w : World) (h : twoN b s = false) : Calls Try.prog 18 #[.agg #[.int .i64 b, .int .i64 s]] w fun e w' => e = .returned (.slice none 0 0) ∧ Below w.heap.size w w' := by
  have HB := Lib.hid ((Below.refl w.heap.size w).alloc (Nat.le_refl _) (.cells #[.int .i64 b, .int .i64 s] 24))
  by_cases h1 : vN b s = true
  · have hs : s = 16 := by simp [twoN, h1] at h; exact h
    subst hs
    go_enter Try.func18, Try.ntmps18
    go_wp2_with fail
    refine (ValidNet_any b 16 _).mono ?_
    rintro e w1 ⟨rfl, b1⟩
    have k1 : w1.cell? ⟨w.heap.size, 1, none⟩ = some (.int .i64 16) := (b1.cell (p := ⟨w.heap.size, 1, none⟩) (by simp)).trans (box2 w _ _ _).2
    have B1 := next HB.out b1
    go_wp2
    go_ret
    exact ⟨rfl, B1⟩
  · have h1' : vN b s = false := by simpa using h1
    go_enter Try.func18, Try.ntmps18
    go_wp2_with fail
    refine (ValidNet_any b s _).mono ?_
    rintro e w1 ⟨rfl, b1⟩
    have B1 := next HB.out b1
    go_wp2
    go_ret
    exact ⟨rfl, B1⟩

set_option maxHeartbeats 1600000 in
theorem SplitNet_yes (b s : Int) (w : World) (h : twoN b s = true) : Calls Try.prog 18 #[.agg #[.int .i64 b, .int .i64 s]] w (Split2 w b s) := by
  have HB := Lib.hid ((Below.refl w.heap.size w).alloc (Nat.le_refl _) (.cells #[.int .i64 b, .int .i64 s] 24))
  have h1 := twoN_vN h
  have h2 := twoN_ne h
  have ⟨s0, s1⟩ := twoN_lt h
  have ⟨b0, b9⟩ := inR_iff.1 (vN_word h1)
  have hz := szN_le s0
  have hp := szN_pos s
  obtain ⟨hf, hhf⟩ : ∃ x, x = szN s / 2 := ⟨_, rfl⟩
  have e1 : (szN s).tdiv 2 = hf := by rw [Int.tdiv_eq_ediv_of_nonneg (by omega), hhf]
  have e2 : IntKind.i64.wrap hf = hf := wrap_in (by omega)
  have e3 : IntKind.i64.wrap (b + hf) = b + hf := wrap_in (by omega)
  have e4 : IntKind.i64.wrap (s + 1) = s + 1 := wrap_in (by omega)
  have HH := Lib.hid hhf
  clear hhf h
  go_enter Try.func18, Try.ntmps18
  go_wp2_with fail
  refine (ValidNet_any b s _).mono ?_
  rintro e w1 ⟨rfl, b1⟩
  have k0 : w1.cell? ⟨w.heap.size, 0, none⟩ = some (.int .i64 b) := (b1.cell (p := ⟨w.heap.size, 0, none⟩) (by simp)).trans (box2 w _ _ _).1
  have k1 : w1.cell? ⟨w.heap.size, 1, none⟩ = some (.int .i64 s) := (b1.cell (p := ⟨w.heap.size, 1, none⟩) (by simp)).trans (box2 w _ _ _).2
  have hw1 := b1.size
  simp at hw1
  have B1 := Lib.hid (next HB.out b1)
  clear b1
  go_wp2
  go_region_held3 (fun w' => w'.cell? ⟨w.heap.size, 0, none⟩ = some (.int .i64 b) ∧ w'.cell? ⟨w.heap.size, 1, none⟩ = some (.int .i64 s)) (go_keep)
    (first
    | (go_at_call 32; refine (size_any b s _ (by omega) (by omega)).mono ?_; rintro e w6 ⟨rfl, b6⟩; have k1' : w6.cell? ⟨w.heap.size, 0, none⟩ = some (.int .i64 b) := (b6.cell (p := ⟨w.heap.size, 0, none⟩) (by simp; omega)).trans k0; have k2' : w6.cell? ⟨w.heap.size, 1, none⟩ = some (.int .i64 s) := (b6.cell (p := ⟨w.heap.size, 1, none⟩) (by simp; omega)).trans k1))
  all_goals go_wp2
  all_goals go_ret
  all_goals exact split_mk (next B1.out.drew b6) HH.out

set_option maxHeartbeats 1600000 in
theorem specSplitNet_no (b s : Int) (w : World) (h : twoN b s = false) : Calls Try.prog 22 #[.agg #[.int .i64 b, .int .i64 s]] w fun e w' => e = .returned (.slice none 0 0) ∧ Below w.heap.size w w' := by
  have HB := Lib.hid ((Below.refl w.heap.size w).alloc (Nat.le_refl _) (.cells #[.int .i64 b, .int .i64 s] 24))
  by_cases h1 : vN b s = true
  · have hs : s = 16 := by simp [twoN, h1] at h; exact h
    subst hs
    go_enter Try.func22, Try.ntmps22
    go_wp2_with fail
    refine (specvalidNet_any b 16 _).mono ?_
    rintro e w1 ⟨rfl, b1⟩
    have k1 : w1.cell? ⟨w.heap.size, 1, none⟩ = some (.int .i64 16) := (b1.cell (p := ⟨w.heap.size, 1, none⟩) (by simp)).trans (box2 w _ _ _).2
    have B1 := next HB.out b1
    go_wp2
    go_ret
    exact ⟨rfl, B1⟩
  · have h1' : vN b s = false := by simpa using h1
    go_enter Try.func22, Try.ntmps22
    go_wp2_with fail
    refine (specvalidNet_any b s _).mono ?_
    rintro e w1 ⟨rfl, b1⟩
    have B1 := next HB.out b1
    go_wp2
    go_ret
    exact ⟨rfl, B1⟩

set_option maxHeartbeats 1600000 in
theorem specSplitNet_yes (b s : Int) (w : World) (h : twoN b s = true) : Calls Try.prog 22 #[.agg #[.int .i64 b, .int .i64 s]] w (Split2 w b s) := by
  have HB := Lib.hid ((Below.refl w.heap.size w).alloc (Nat.le_refl _) (.cells #[.int .i64 b, .int .i64 s] 24))
  have h1 := twoN_vN h
  have h2 := twoN_ne h
  have ⟨s0, s1⟩ := twoN_lt h
  have ⟨b0, b9⟩ := inR_iff.1 (vN_word h1)
  have hz := szN_le s0
  have hp := szN_pos s
  obtain ⟨hf, hhf⟩ : ∃ x, x = szN s / 2 := ⟨_, rfl⟩
  have e1 : (szN s).tdiv 2 = hf := by rw [Int.tdiv_eq_ediv_of_nonneg (by omega), hhf]
  have e2 : IntKind.i64.wrap hf = hf := wrap_in (by omega)
  have e3 : IntKind.i64.wrap (b + hf) = b + hf := wrap_in (by omega)
  have e4 : IntKind.i64.wrap (s + 1) = s + 1 := wrap_in (by omega)
  have HH := Lib.hid hhf
  clear hhf h
  go_enter Try.func22, Try.ntmps22
  go_wp2_with fail
  refine (specvalidNet_any b s _).mono ?_
  rintro e w1 ⟨rfl, b1⟩
  have k0 : w1.cell? ⟨w.heap.size, 0, none⟩ = some (.int .i64 b) := (b1.cell (p := ⟨w.heap.size, 0, none⟩) (by simp)).trans (box2 w _ _ _).1
  have k1 : w1.cell? ⟨w.heap.size, 1, none⟩ = some (.int .i64 s) := (b1.cell (p := ⟨w.heap.size, 1, none⟩) (by simp)).trans (box2 w _ _ _).2
  have hw1 := b1.size
  simp at hw1
  have B1 := Lib.hid (next HB.out b1)
  clear b1
  go_wp2_with fail
  refine (specsize_any b s _ (by omega) (by omega)).mono ?_
  rintro e w6 ⟨rfl, b6⟩
  have k1' : w6.cell? ⟨w.heap.size, 0, none⟩ = some (.int .i64 b) := (b6.cell (p := ⟨w.heap.size, 0, none⟩) (by simp; omega)).trans k0
  have k2' : w6.cell? ⟨w.heap.size, 1, none⟩ = some (.int .i64 s) := (b6.cell (p := ⟨w.heap.size, 1, none⟩) (by simp; omega)).trans k1
  clear k0 k1
  go_wp2
  go_ret
  exact split_mk (next B1.out b6) HH.out

end Go.Proofs.Ytmaecadflilbgaa
