/-
  The generator's lists of ints: copyInts, spoil, someWords.
-/
import Derived.Test.YtabapkbfolncoaaDraw2
import Derived.Test.YtabapkbfolncoaaInts
namespace Go.Proofs.Ytabapkbfolncoaa
open Go.RowKit

/-- A list of ints in a slice of our own making; the reader moved on; nothing else was written. -/
def GaveInts (w : World) (B R P M : Nat) (Q : Int → Prop) (e : Ending) (w' : World) : Prop :=
  ∃ (g o n cap : Nat) (xs : List Int), e = .returned (.slice (some ⟨g, o, none⟩) n cap) ∧ xs.length = n ∧ n ≤ M ∧ (∀ z ∈ xs, Q z) ∧ Mine w' w.heap.size 1 (some ⟨g, o, none⟩) n cap (xs.map (Value.int .i64)) ∧ Rd w' B R P ∧ w.grownBy w' (some R)
theorem GaveInts.mk {w w' : World} {B R P M : Nat} {Q : Int → Prop} {e : Ending} {g o n cap : Nat} (xs : List Int) (he : e = .returned (.slice (some ⟨g, o, none⟩) n cap)) (hn : xs.length = n) (hM : n ≤ M) (hQ : ∀ z ∈ xs, Q z)
    (hm : Mine w' w.heap.size 1 (some ⟨g, o, none⟩) n cap (xs.map (Value.int .i64))) (hr : Rd w' B R P) (hg : w.grownBy w' (some R)) : GaveInts w B R P M Q e w' := ⟨g, o, n, cap, xs, he, hn, hM, hQ, hm, hr, hg⟩

/-- A copy, somewhere new. -/
def CopyOf (w : World) (n : Nat) (xs : List Int) (e : Ending) (w' : World) : Prop :=
  ∃ (g o cap : Nat), e = .returned (.slice (some ⟨g, o, none⟩) n cap) ∧ Mine w' w.heap.size 1 (some ⟨g, o, none⟩) n cap (xs.map (Value.int .i64)) ∧ Below w.heap.size w w'
theorem CopyOf.mk {w w' : World} {n : Nat} {xs : List Int} {e : Ending} {g o cap : Nat} (he : e = .returned (.slice (some ⟨g, o, none⟩) n cap)) (hm : Mine w' w.heap.size 1 (some ⟨g, o, none⟩) n cap (xs.map (Value.int .i64))) (hb : Below w.heap.size w w') : CopyOf w n xs e w' := ⟨g, o, cap, he, hm, hb⟩

theorem one_ints (xs : List Int) : ∀ u ∈ xs.map (Value.int .i64), u.oneCell' = true := by
  intro u hu; obtain ⟨z, _, rfl⟩ := List.mem_map.1 hu; rfl
theorem some_of {A' : Option Addr} {g : Nat} {H : Nat} (h : A'.map (·.block) = some g ∨ ∃ g', A'.map (·.block) = some g' ∧ H ≤ g') {w : World} {base size n cap : Nat} {xs : List Value} (hm : Mine w base size A' n cap xs) : ∃ g o, A' = some ⟨g, o, none⟩ := by
  obtain ⟨_, _, _, ⟨rfl, _⟩ | ⟨g', o', rfl, _⟩⟩ := hm
  · rcases h with h | ⟨_, h, _⟩ <;> cases h
  · exact ⟨g', o', rfl⟩

set_option maxHeartbeats 800000 in
theorem copyInts_any (a : Option Addr) (n c B : Nat) (xs : List Int) (w : World) (hn : xs.length = n) (hb : n ≤ 1048576) (hB : B ≤ w.heap.size) (hr : Row .i64 w B a xs) :
    Calls Try.prog 61 #[.slice a n c] w (CopyOf w n xs) := by
  obtain ⟨i0, hi, hz0, hz1, hz2⟩ := info_parts int_info
  have hM := Mine.new w 3 1 0 #[] rfl (by simp [maxLen])
  have hS := (hr.sees).alloc hB (.cells #[] 3)
  go_enter Try.func61, Try.ntmps61
  go_wp2_with (at_builtin; refine wpList_append_mine _ rfl _ _ 24 rfl w.heap.size 3 i0 (.int .i64 0) 1 8 Try.underlying24 hi hz0 hz1 hz2 rfl (by omega) _ 0 0 [] rfl hM B _ n c (xs.map (Value.int .i64)) rfl (by simpa using hn) hS (one_ints xs) (by unfold maxLen; omega) (by omega) (by simp) ?_; intro A' cap' w1 m1 g1 at1)
  obtain ⟨g, o, rfl⟩ := some_of at1 m1
  have HB := Lib.hid (((Below.refl w.heap.size w).alloc (Nat.le_refl _) (.cells #[] 3)).grown g1 (by simp) (by simp))
  simp only [Nat.zero_add, List.nil_append] at m1
  clear g1 at1 hM hS hi hz0 hz1 hz2
  go_wp2
  go_ret
  exact .mk rfl m1 HB.out

section
variable (B R P : Nat) (a : Option Addr) (n c Bl : Nat) (xs : List Int) (q : Int) (Q : Int → Prop)
set_option maxHeartbeats 1600000 in
theorem spoil_any (w : World) (h : Rd w B R P) (hP : P ≤ 900000) (hn : xs.length = n) (hb : n ≤ 100000) (hB : Bl ≤ w.heap.size) (hr : Row .i64 w Bl a xs) (hq : Q q) (hq1 : Q (-1)) (hq2 : Q 0) (hq3 : Q 1) (hx : ∀ z ∈ xs, Q z) :
    Calls Try.prog 73 #[.pointer (some ⟨R, 0, none⟩), .slice a n c, .int .i64 q] w (GaveInts w B R (P + 3) (n + 1) Q) := by
  obtain ⟨i0, hi, hz0, hz1, hz2⟩ := info_parts int_info
  have HI := Lib.hid hi
  have HZ := Lib.hid hz0
  have HS := Lib.hid hz1
  have HY := Lib.hid hz2
  have HX := Lib.hid hx
  have HQ := Lib.hid hq
  have HQ1 := Lib.hid hq1
  have HQ2 := Lib.hid hq2
  have HQ3 := Lib.hid hq3
  clear hi hz0 hz1 hz2 hx hq hq1 hq2 hq3
  have hRl := h.lt
  go_enter Try.func73, Try.ntmps73
  go_wp2_with fail
  refine (copyInts_any a n c Bl xs _ hn (by omega) hB hr).mono ?_
  rintro e w1 ⟨g, o, cap, rfl, m1, b1⟩
  have r1 := h.below b1
  have hs1 := b1.size
  clear h hr
  go_wp2_with fail
  refine (pick_any B R P 20 _ r1 (by omega)).mono ?_
  rintro e w2 ⟨m, rfl, ⟨p0, p1⟩, r2, g2⟩
  have hm20 := p1 (by omega)
  have m2 := m1.far g2 (by omega)
  have G2 := Lib.hid ((only_of_below b1 R).trans g2)
  have hs2 := g2.size
  have hnc := m2.2.1
  have hcm := m2.2.2.1
  have hlen : (xs.map (Value.int .i64)).length = n := by simpa using hn
  unfold maxLen at hcm
  clear p1 r1 m1 b1 g2
  by_cases h0 : m = 0
  · subst h0
    go_wp2_with (at_builtin; refine wpList_append_mine _ rfl _ _ 24 rfl w.heap.size 3 i0 (.int .i64 0) 1 8 Try.underlying24 HI.out HZ.out HS.out HY.out rfl (by omega) _ n cap (xs.map (Value.int .i64)) rfl (m2.alloc _) _ _ 1 1 [.int .i64 q] rfl rfl (Mine.new w2 3 1 1 #[.int .i64 q] rfl (by simp [maxLen])).sees (by simp [Value.oneCell']) (by unfold maxLen; omega) (by omega) (by simp; omega) ?_; intro A' cap' w3 m3 g3 at3)
    obtain ⟨g', o', rfl⟩ := some_of at3 m3
    have hgl : w.heap.size ≤ g := (m2.lt rfl).1
    have r3 : Rd w3 B R (P + 1) := Rd.far (g := g) (r2.alloc _) g3 (by have := r2.low; omega) (by omega)
    have G3 : w.grownBy w3 (some R) := (G2.out.trans (World.grownBy_alloc w2 _ _)).andThen g3 (by intro j hj; simp at hj; omega)
    have HG3 := Lib.hid G3
    clear G3 g3 at3 m2 r2 hlen hnc
    go_wp2
    go_ret
    exact .mk (xs ++ [q]) rfl (by simp [hn]) (Nat.le_refl _) (by intro z hz; rcases List.mem_append.1 hz with hz | hz; exact HX.out z hz; simp at hz; subst hz; exact HQ.out) (by simpa using m3) (r3.mono (by omega)) HG3.out
  · have q0 : (m == 0) = false := by simpa using h0
    by_cases h1 : m = 1
    · subst h1
      clear h0
      rcases Nat.eq_zero_or_pos n with rfl | hpos
      · go_wp2
        go_ret
        exact .mk xs rfl hn (by omega) HX.out m2 (r2.mono (by omega)) G2.out
      · have q1 : (0 : Int) < (n : Int) := by omega
        by_cases hc1 : cap = 1
        · subst hc1
          have hn1 : n = 1 := by omega
          subst hn1
          have hM : Mine w2 w.heap.size 1 (some ⟨g, o, none⟩) 0 0 [] := by
            obtain ⟨_, _, _, ⟨h, _⟩ | ⟨g', o', e, e1, e2, _, _⟩⟩ := m2
            · cases h
            · exact ⟨by simp, by omega, by simp [maxLen], .inr ⟨g', o', e, e1, e2, by simp, by simp⟩⟩
          go_wp2
          go_ret
          exact .mk [] rfl rfl (by omega) (by simp) hM (r2.mono (by omega)) G2.out
        · have hM := m2.drop (k := 1) (by omega)
          go_wp2
          go_ret
          exact .mk (xs.drop 1) rfl (by simp [hn]) (by omega) (fun z hz => HX.out z (List.mem_of_mem_drop hz)) (by simpa using hM) (r2.mono (by omega)) G2.out
    · have q1 : (m == 1) = false := by simpa using h1
      by_cases h2 : m = 2
      · subst h2
        clear h0 h1
        rcases Nat.eq_zero_or_pos n with rfl | hpos
        · go_wp2
          go_ret
          exact .mk xs rfl hn (by omega) HX.out m2 (r2.mono (by omega)) G2.out
        · have q3 : (0 : Int) < (n : Int) := by omega
          have hgl : w.heap.size ≤ g := (m2.lt rfl).1
          go_wp2_with fail
          refine (pick_any B R (P + 1) n _ r2 (by omega)).mono ?_
          rintro e w3 ⟨m', rfl, ⟨p0', p1'⟩, r3, g3⟩
          have hm' := p1' (by omega)
          have m3 := m2.far g3 (by omega)
          have G3 := Lib.hid (G2.out.trans g3)
          have hs3 := g3.size
          obtain ⟨j, rfl⟩ := Int.eq_ofNat_of_zero_le p0'
          clear p1' r2 m2 g3
          have hrl3 := r3.lt
          go_wp2_with fail
          refine (one_any B R (P + 2) w3.heap.size 0 4 4 [-1, q, 0, 1] _ (r3.alloc _) (by omega) (by simp) rfl (by omega) (by omega) (by omega) (lit_cells w3 3 _)).mono ?_
          rintro e w4 ⟨y, rfl, hy, r4, g4⟩
          have hQy : Q y := by
            simp only [List.mem_cons, List.not_mem_nil, or_false] at hy
            rcases hy with rfl | rfl | rfl | rfl
            · exact HQ1.out
            · exact HQ.out
            · exact HQ2.out
            · exact HQ3.out
          have HQy := Lib.hid hQy
          have m4 := (m3.alloc _).far g4 (by omega)
          have G4 := Lib.hid ((G3.out.trans (World.grownBy_alloc w3 _ _)).trans g4)
          clear hy hQy r3 m3 g4
          have hjn : j < n := by omega
          obtain ⟨⟨v0, hv0⟩, hf0⟩ := m4.can (j := j) (by omega)
          have HM := Lib.hid (m4.set_ (j := j) (by omega) (.int .i64 y))
          have HR := Lib.hid (r4.far (only_setCell w4 g (o + j) (.int .i64 y)) (by have := r4.low; omega) (by omega))
          have HG := Lib.hid (G4.out.andThen (only_setCell w4 g (o + j) (.int .i64 y)) (by intro i hi; simp at hi; omega))
          have hb1 : (j : Int) < (n : Int) := by omega
          clear m4 r4
          go_wp2
          go_ret
          refine .mk (xs.set j y) rfl (by simpa using hn) (by omega) ?_ ?_ HR.out HG.out
          · intro z hz
            rcases List.mem_or_eq_of_mem_set hz with hz | rfl
            · exact HX.out z hz
            · exact HQy.out
          · rw [List.map_set]; exact HM.out
      · have q2 : (m == 2) = false := by simpa using h2
        clear h0 h1 h2
        go_wp2
        go_ret
        exact .mk xs rfl hn (by omega) HX.out m2 (r2.mono (by omega)) G2.out
end

end Go.Proofs.Ytabapkbfolncoaa
