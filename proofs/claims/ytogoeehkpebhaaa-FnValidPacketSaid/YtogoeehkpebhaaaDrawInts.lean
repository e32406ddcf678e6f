/-
  The generator's lists of ints: copyInts, spoil, someWords.
-/
import Derived.Test.YtogoeehkpebhaaaDraw2
import Derived.Test.YtogoeehkpebhaaaInts
namespace Go.Proofs.Ytogoeehkpebhaaa
open Go.RowKit

/-- A list of ints in a slice of our own making; the reader moved on; nothing else was written. -/
def GaveInts (w : World) (B R P M : Nat) (Q : Int → Prop) (e : Ending) (w' : World) : Prop :=
  ∃ (g o n cap : Nat) (xs : List Int), e = .returned (.slice (some ⟨g, o, none⟩) n cap) ∧ xs.length = n ∧ n ≤ M ∧ (∀ z ∈ xs, Q z) ∧ Mine w' w.heap.size 1 (some ⟨g, o, none⟩) n cap (xs.map (Value.int .i64)) ∧ Rd w' B R P ∧ w.grownBy w' (some R)
theorem GaveInts.mk {w w' : World} {B R P M : Nat} {Q : Int → Prop} {e : Ending} {g o n cap : Nat} (xs : List Int) (he : e = .returned (.slice (some ⟨g, o, none⟩) n cap)) (hn : xs.length = n) (hM : n ≤ M) (hQ : ∀ z ∈ xs, Q z)
    (hm : Mine w' w.heap.size 1 (some ⟨g, o, none⟩) n cap (xs.map (Value.int .i64))) (hr : Rd w' B R P) (hg : w.grownBy w' (some R)) : GaveInts w B R P M Q e w' := ⟨g, o, n, cap, xs, he, hn, hM, hQ, hm, hr, hg⟩

/-- A copy, somewhere new. -/
def CopyOf (w : World) (n : Nat) (xs : List Int) (e : Ending) (w' : World) : Prop :=
  ∃ (g o cap : Nat), e = .returned (.slice (some ⟨g, o, none⟩) n cap) ∧ Mine w' w.heap.size 1 (some ⟨g, o, none⟩) n cap (xs.map (Value.int .i64)) ∧ Below w.heap.size w w'
theorem CopyOf.mk {w w' : World} {n : Nat} {xs : List Int} {e : Ending} {g o cap : Nat} (he : e = .returned (.slice (some ⟨g, o, none⟩) n cap)) (hm : Mine w' w.heap.size 1 (some ⟨g, o, none⟩) n cap (xs.map (Value.int .i64))) (hb : Below w.heap.size w w') : CopyOf w n xs e w' := ⟨g, o, cap, he, hm, hb⟩

theorem one_ints (xs : List Int) : ∀ u ∈ xs.map (Value.int .i64), u.oneCell' = true := by
  intro u hu; obtain ⟨z, _, rfl⟩ := List.mem_map.1 hu; rfl
theorem some_of {A' : Option Addr} {g : Nat} {H : Nat} (h : A'.map (·.block) = some g ∨ ∃ g', A'.map (·.block) = some g' ∧ H ≤ g') {w : World} {base size n cap : Nat} {xs : List Value} (hm : Mine w base size A' n cap xs) : ∃ g o, A' = some ⟨g, o, none⟩ := by
  obtain ⟨_, _, _, ⟨rfl, _⟩ | ⟨g', o', rfl, _⟩⟩ := hm
  · rcases h with h | ⟨_, h, _⟩ <;> cases h
  · exact ⟨g', o', rfl⟩

set_option maxHeartbeats 800000 in
theorem copyInts_any (a : Option Addr) (n c B : Nat) (xs : List Int) (w : World) (hn : xs.length = n) (hb : n ≤ 1048576) (hB : B ≤ w.heap.size) (hr : Row .i64 w B a xs) :
    Calls Try.prog 49 #[.slice a n c] w (CopyOf w n xs) := by
  obtain ⟨i0, hi, hz0, hz1, hz2⟩ := info_parts int_info
  have hM := Mine.new w 3 1 0 #[] rfl (by simp [maxLen])
  have hS := (hr.sees).alloc hB (.cells #[] 3)
  go_enter Try.func49, Try.ntmps49
  go_wp2_with (at_builtin; refine wpList_append_mine _ rfl _ _ 25 rfl w.heap.size 3 i0 (.int .i64 0) 1 8 Try.underlying25 hi hz0 hz1 hz2 rfl (by omega) _ 0 0 [] rfl hM B _ n c (xs.map (Value.int .i64)) rfl (by simpa using hn) hS (one_ints xs) (by unfold maxLen; omega) (by omega) (by simp) ?_; intro A' cap' w1 m1 g1 at1)
  obtain ⟨g, o, rfl⟩ := some_of at1 m1
  have HB := Lib.hid (((Below.refl w.heap.size w).alloc (Nat.le_refl _) (.cells #[] 3)).grown g1 (by simp) (by simp))
  simp only [Nat.zero_add, List.nil_append] at m1
  clear g1 at1 hM hS hi hz0 hz1 hz2
  go_wp2
  go_ret
  exact .mk rfl m1 HB.out


end Go.Proofs.Ytogoeehkpebhaaa
