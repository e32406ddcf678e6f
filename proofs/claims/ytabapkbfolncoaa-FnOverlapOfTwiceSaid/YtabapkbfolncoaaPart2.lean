/-
  Parts of our own making: their memory. The statements' helpers szPart, szPartS, toPart, toPartS, eqPart, eqPartS.
-/
import Derived.Test.YtabapkbfolncoaaPart1
import Derived.Test.YtabapkbfolncoaaEnd
import Derived.Test.YtabapkbfolncoaaInts
namespace Go.Proofs.Ytabapkbfolncoaa
open Go.RowKit

/-- A part with the place of its data. -/
structure PV where
  pos : Int
  more : Bool
  blk : Nat
  off : Nat
  cap : Nat
  xs : List Int
instance : Inhabited PV := ⟨⟨0, false, 0, 0, 0, []⟩⟩
def PV.pt (p : PV) : Pt := (p.pos, p.more, p.xs)
def encV (p : PV) : List Value := [.int .i64 p.pos, .bool p.more, .slice (some ⟨p.blk, p.off, none⟩) p.xs.length p.cap]
theorem encV_len (p : PV) : (encV p).length = 3 := rfl
theorem encV_one (V : List PV) : ∀ u ∈ V.flatMap encV, u.oneCell' = true := by
  intro u hu
  obtain ⟨p, _, hp⟩ := List.mem_flatMap.1 hu
  simp [encV] at hp
  rcases hp with rfl | rfl | rfl <;> rfl
/-- The data of a part are our own. -/
def DMine (w : World) (base : Nat) (p : PV) : Prop := Mine w base 1 (some ⟨p.blk, p.off, none⟩) p.xs.length p.cap (p.xs.map (Value.int .i64))
/-- A list of parts of our own, each with data of its own. -/
def PMine (w : World) (base : Nat) (A : Option Addr) (n c : Nat) (V : List PV) : Prop :=
  V.length = n ∧ Mine w base 3 A n c (V.flatMap encV) ∧ (∀ p ∈ V, DMine w base p ∧ A.map (·.block) ≠ some p.blk) ∧ V.Pairwise fun p q => p.blk ≠ q.blk
section
variable {w w' : World} {base base' n c : Nat} {A : Option Addr} {V : List PV} {p : PV}
theorem DMine.lt (h : DMine w base p) : base ≤ p.blk ∧ p.blk < w.heap.size := Mine.lt h rfl
theorem DMine.keep (h : DMine w base p) (hs : w.heap.size ≤ w'.heap.size) (hb : w'.heap[p.blk]? = w.heap[p.blk]?) : DMine w' base p := Mine.keep h hs (fun g hg => by simp at hg; subst hg; exact hb)
theorem DMine.below (h : DMine w base p) (hb : Below w.heap.size w w') : DMine w' base p := Mine.below h hb
theorem DMine.mono (h : DMine w base p) (hb : base' ≤ base) : DMine w base' p := Mine.mono h hb
theorem DMine.far {R : Nat} (h : DMine w base p) (hg : w.grownBy w' (some R)) (hR : R ≠ p.blk) : DMine w' base p := Mine.kept h hg (fun g' e e' => by simp at e; injection e' with e'; omega)
theorem DMine.row (h : DMine w base p) : Row .i64 w w.heap.size (some ⟨p.blk, p.off, none⟩) p.xs := (Mine.sees h).row
theorem PMine.below (h : PMine w base A n c V) (hb : Below w.heap.size w w') : PMine w' base A n c V := ⟨h.1, h.2.1.below hb, fun p hp => ⟨(h.2.2.1 p hp).1.below hb, (h.2.2.1 p hp).2⟩, h.2.2.2⟩
theorem PMine.alloc (h : PMine w base A n c V) (o : Obj) : PMine (w.alloc o) base A n c V := h.below ((Below.refl _ _).alloc (Nat.le_refl _) o)
theorem PMine.drewN (h : PMine w base A n c V) (k : Nat) : PMine (w.drewN k) base A n c V := h
theorem PMine.mono (h : PMine w base A n c V) (hb : base' ≤ base) : PMine w base' A n c V := ⟨h.1, h.2.1.mono hb, fun p hp => ⟨(h.2.2.1 p hp).1.mono hb, (h.2.2.1 p hp).2⟩, h.2.2.2⟩
theorem PMine.far {R : Nat} (h : PMine w base A n c V) (hg : w.grownBy w' (some R)) (hR : R < base) : PMine w' base A n c V :=
  ⟨h.1, h.2.1.far hg hR, fun p hp => ⟨(h.2.2.1 p hp).1.far hg (by have := (h.2.2.1 p hp).1.lt.1; omega), (h.2.2.1 p hp).2⟩, h.2.2.2⟩
theorem PMine.nil_ : PMine w base none 0 0 [] := ⟨rfl, Mine.nil_, by simp, .nil⟩
theorem PMine.row (h : PMine w base A n c V) : PRow w w.heap.size A (V.map PV.pt) := fun h0 => by
  obtain ⟨hn, hm, hd, _⟩ := h
  rw [List.length_map] at h0
  obtain ⟨b, o, e, hb, hi⟩ := Sees.elems encV_len (by decide) hm.sees (default : PV) h0
  refine ⟨b, o, e, hb, fun i hil => ?_⟩
  rw [List.length_map] at hil
  have hg : (V.map PV.pt).getD i dP = (V.getD i default).pt := by
    rw [List.getD_eq_getElem?_getD, List.getElem?_map, List.getD_eq_getElem?_getD, List.getElem?_eq_getElem hil]; rfl
  have hmem : V.getD i default ∈ V := by rw [List.getD_eq_getElem?_getD, List.getElem?_eq_getElem hil]; exact List.getElem_mem _
  rw [hg]
  have hd' := (hd _ hmem).1
  have hc := hd'.2.2.1
  unfold maxLen at hc
  exact ⟨_, _, hi i hil 0 _ rfl, hi i hil 1 _ rfl, hi i hil 2 _ rfl, hd'.row, hd'.2.1, hc⟩
end

theorem part_info : (Try.prog.info? 41).map (fun i => (i.zero, i.size, i.bytes)) = some (some (.agg #[.int .i64 0, .bool false, .slice none 0 0]), 3, 40) := by kernel_rfl

set_option maxHeartbeats 400000 in
theorem szPart_any (t : Int) (m : Bool) (a : Option Addr) (len c : Nat) (l : Int) (w : World) (hn : len ≤ 9223372036854775807) (h0 : 0 ≤ l) (h1 : l ≤ 1048576) :
    Calls Try.prog 37 #[.agg #[.int .i64 t, .bool m, .slice a len c], .int .i64 l] w fun e w' => e = .returned (.int .i64 (if (len : Int) ≤ l then l - (len : Int) else -1)) ∧ Below w.heap.size w w' := by
  have HB := Lib.hid ((Below.refl w.heap.size w).alloc (Nat.le_refl _) (.cells #[.int .i64 t, .bool m, .slice a len c] 45))
  by_cases h : (len : Int) ≤ l
  · rw [if_pos h]
    have h2 : ¬ (l - (len : Int) < 0) := by omega
    go_enter Try.func37, Try.ntmps37
    go_wp2_with fail
    refine (szIntS_any a len c l _ hn h0 h1).mono ?_
    rintro e w1 ⟨rfl, rfl⟩
    rw [if_pos h]
    go_wp2
    go_ret
    exact ⟨rfl, HB.out⟩
  · rw [if_neg h]
    go_enter Try.func37, Try.ntmps37
    go_wp2_with fail
    refine (szIntS_any a len c l _ hn h0 h1).mono ?_
    rintro e w1 ⟨rfl, rfl⟩
    rw [if_neg (by omega)]
    go_wp2
    go_ret
    exact ⟨rfl, HB.out⟩

/-- What szPartS says: if it is not negative, all is small. -/
def SzP (w : World) (L : List Pt) (e : Ending) (w' : World) : Prop :=
  ∃ l : Int, e = .returned (.int .i64 l) ∧ (0 ≤ l → L.length ≤ 1048576 ∧ ∀ i, i < L.length → (L.getD i dP).2.2.length ≤ 1048576) ∧ Below w.heap.size w w'

set_option maxHeartbeats 1600000 in
theorem szPartS_any (A : Option Addr) (n c : Nat) (L : List Pt) (w : World) (hn : L.length = n) (hm : n ≤ 9223372036854775807) (hr : PRow w w.heap.size A L) :
    Calls Try.prog 15 #[.slice A n c, .int .i64 1048576] w (SzP w L) := by
  by_cases hl : n ≤ 1048576
  · have h1 : ¬ (1048576 - (n : Int) < 0) := by omega
    go_enter Try.func15, Try.ntmps15
    go_wp2
    go_loopw [1, 5] (fun v i wr => ∃ (l : Int) (k : Nat), v = .int .i64 l ∧ i = .int .i64 k ∧ 0 ≤ l ∧ l ≤ 1048576 ∧ k ≤ n ∧ Below w.heap.size w wr ∧ ∀ j, j < k → (L.getD j dP).2.2.length ≤ 1048576) (fun _ i _ => n - (intOf i).toNat)
    case atStart => exact ⟨_, 0, rfl, rfl, by omega, by omega, Nat.zero_le _, Below.refl _ _, fun j hj => absurd hj (by omega)⟩
    case round =>
      obtain ⟨l, k, rfl, rfl, l0, l9, hk, hB, hall⟩ := hrel
      have BB := Lib.hid hB
      have NN := Lib.hid hall
      clear hB hall
      by_cases hlt : k < n
      · obtain ⟨b, o, rfl, hbl, hc⟩ := hr (by omega)
        obtain ⟨a', c', q0, q1, q2, hrow, hlc, hcm⟩ := hc k (by omega)
        obtain ⟨⟨t, m, xs⟩, hx⟩ : ∃ q, q = L.getD k dP := ⟨_, rfl⟩
        rw [← hx] at q0 q1 q2 hlc
        simp only at q0 q1 q2 hlc
        have HX := Lib.hid hx
        have c0 := (BB.out.cell (p := ⟨b, o + k * 3, none⟩) hbl).trans q0
        have c1 := (BB.out.cell (p := ⟨b, o + k * 3 + 1, none⟩) hbl).trans q1
        have c2 := (BB.out.cell (p := ⟨b, o + k * 3 + 2, none⟩) hbl).trans q2
        have m1 : (k : Int) < (n : Int) := by omega
        have m2 : (0 : Int) ≤ (k : Int) := by omega
        clear hc hx q0 q1 q2 hrow
        go_wp2_with fail
        refine (szPart_any t m a' xs.length c' l _ (by omega) l0 l9).mono ?_
        rintro e w2 ⟨rfl, b2⟩
        have B2 := Lib.hid (next BB.out b2)
        clear b2 c0 c1 c2
        by_cases hle : (xs.length : Int) ≤ l
        · rw [if_pos hle]
          have HN : Hid (∀ j, j < k + 1 → (L.getD j dP).2.2.length ≤ 1048576) := Lib.hid fun j hj => by
            rcases Nat.lt_or_eq_of_le (Nat.lt_succ_iff.1 hj) with h | rfl
            · exact NN.out j h
            · rw [← HX.out]; show xs.length ≤ 1048576; omega
          obtain ⟨d, hd⟩ : ∃ d, d = l - (xs.length : Int) := ⟨_, rfl⟩
          have hd0 : 0 ≤ d := by omega
          have hd9 : d ≤ 1048576 := by omega
          have hd1 : ¬ d < 0 := by omega
          rw [← hd]
          clear hd hle
          go_wp2
          go_roundw
          case rel => exact ⟨d, k + 1, rfl, by go_num, hd0, hd9, by omega, B2.out, HN.out⟩
          case measure => simp [intOf]; omega
        · rw [if_neg hle]
          go_wp2
          go_ret
          exact ⟨-1, rfl, fun h => absurd h (by omega), B2.out⟩
      · go_wp2
        go_ret
        exact ⟨l, rfl, fun _ => ⟨by omega, fun i hi => NN.out i (by omega)⟩, BB.out⟩
  · have h1 : (1048576 - (n : Int) < 0) := by omega
    go_enter Try.func15, Try.ntmps15
    go_wp2
    go_ret
    exact ⟨-1, rfl, fun h => absurd h (by omega), Below.refl _ _⟩

/-- A copy of a part: its data lie in new memory. -/
def CopiedPt (w : World) (t : Int) (m : Bool) (xs : List Int) (e : Ending) (w' : World) : Prop :=
  ∃ p : PV, e = .returned (.agg #[.int .i64 t, .bool m, .slice (some ⟨p.blk, p.off, none⟩) xs.length p.cap]) ∧ p.pos = t ∧ p.more = m ∧ p.xs = xs ∧ DMine w' w.heap.size p ∧ Below w.heap.size w w'

set_option maxHeartbeats 1600000 in
theorem toPart_any (t : Int) (m : Bool) (a : Option Addr) (len c : Nat) (xs : List Int) (w : World) (hn : xs.length = len) (hb : len ≤ 1048576) (hr : Row .i64 w w.heap.size a xs) :
    Calls Try.prog 40 #[.agg #[.int .i64 t, .bool m, .slice a len c]] w (CopiedPt w t m xs) := by
  have K0 := Lib.hid (((Box.new_at w w.heap.size rfl 45 #[.int .i64 t, .bool m, .slice a len c] (by simp [maxLen])).alloc (.cells #[.int .i64 0, .bool false, .slice none 0 0] 41)).alloc (.cells #[.int .i64 t, .bool m, .slice none 0 0] 41))
  have R0 := Lib.hid ((Box.new_at (w.alloc (.cells #[.int .i64 t, .bool m, .slice a len c] 45)) (w.heap.size + 1) (by simp) 41 #[.int .i64 0, .bool false, .slice none 0 0] (by simp [maxLen])).alloc (.cells #[.int .i64 t, .bool m, .slice none 0 0] 41))
  have O0 := Lib.hid (Box.new_at ((w.alloc (.cells #[.int .i64 t, .bool m, .slice a len c] 45)).alloc (.cells #[.int .i64 0, .bool false, .slice none 0 0] 41)) (w.heap.size + 2) (by simp) 41 #[.int .i64 t, .bool m, .slice none 0 0] (by simp [maxLen]))
  have hb0 := (((Below.refl w.heap.size w).alloc (Nat.le_refl _) (.cells #[.int .i64 t, .bool m, .slice a len c] 45)).alloc (by simp) (.cells #[.int .i64 0, .bool false, .slice none 0 0] 41)).alloc (by simp; omega) (.cells #[.int .i64 t, .bool m, .slice none 0 0] 41)
  have B0 := Lib.hid hb0
  have Q0 := Lib.hid (hr.on hb0)
  clear hb0 hr
  go_enter Try.func40, Try.ntmps40
  go_wp2_with fail
  refine (toIntS_any a len c xs _ hn hb Q0.out).mono ?_
  rintro e w3 ⟨rfl, m3, b3⟩
  have hs2 : (((w.alloc (.cells #[.int .i64 t, .bool m, .slice a len c] 45)).alloc (.cells #[.int .i64 0, .bool false, .slice none 0 0] 41)).alloc (.cells #[.int .i64 t, .bool m, .slice none 0 0] 41)).heap.size = w.heap.size + 1 + 1 + 1 := by simp
  rw [hs2] at m3 ⊢
  clear hs2
  have R3 := R0.out.below b3
  have O3 := O0.out.below b3
  have B3 := next B0.out b3
  clear b3 R0 O0 B0 K0 Q0
  have v5 := O3.at_ 2 rfl
  have f5 := O3.free 2 (by simp)
  have g5 := only_setCell w3 (w.heap.size + 2) 2 (.slice (some ⟨w.heap.size + 1 + 1 + 1, 0, none⟩) len len)
  have O4 := O3.set 2 (by simp) (.slice (some ⟨w.heap.size + 1 + 1 + 1, 0, none⟩) len len)
  have R4 := R3.far g5 (by omega)
  have B4 := B3.setCell (p := ⟨w.heap.size + 2, 2, none⟩) (by simp) (.slice (some ⟨w.heap.size + 1 + 1 + 1, 0, none⟩) len len)
  have M4 := m3.kept g5 (by intro g' e' e''; simp at e'; injection e'' with e''; omega)
  have T0 := O4.at_ 0 rfl
  have T1 := O4.at_ 1 rfl
  have T2 := O4.at_ 2 rfl
  have u0 := R4.at_ 0 rfl
  have u1 := R4.at_ 1 rfl
  have u2 := R4.at_ 2 rfl
  have h0 := R4.free 0 (by simp)
  have h1 := R4.free 1 (by simp)
  have h2 := R4.free 2 (by simp)
  have RF := Lib.hid (((R4.set 0 (by simp) (.int .i64 t)).set 1 (by simp) (.bool m)).set 2 (by simp) (.slice (some ⟨w.heap.size + 1 + 1 + 1, 0, none⟩) len len))
  have GF := ((only_setCell (w3.setCell ⟨w.heap.size + 2, 2, none⟩ (.slice (some ⟨w.heap.size + 1 + 1 + 1, 0, none⟩) len len)) (w.heap.size + 1) 0 (.int .i64 t)).trans (only_setCell _ (w.heap.size + 1) 1 (.bool m))).trans (only_setCell _ (w.heap.size + 1) 2 (.slice (some ⟨w.heap.size + 1 + 1 + 1, 0, none⟩) len len))
  have zB := B4.size
  have BF := Lib.hid (only_below B4 GF zB (by omega))
  have MF := (M4.kept GF (by intro g' e' e''; simp at e'; injection e'' with e''; omega)).mono (base' := w.heap.size) (by omega)
  have HMF := Lib.hid MF
  have HN := Lib.hid hn
  clear GF M4 m3 B4 R4 O4 g5 MF B3 R3 O3 zB hn
  go_wp2
  refine bodyPost_ret (v := .agg #[.int .i64 t, .bool m, .slice (some ⟨w.heap.size + 1 + 1 + 1, 0, none⟩) len len]) (results_cells (g := w.heap.size + 1) rfl _ _ [.int .i64 t, .bool m, .slice (some ⟨w.heap.size + 1 + 1 + 1, 0, none⟩) len len] _ rfl (fun j v hv => RF.out.at_ j hv) Try.underlying41 rfl (by kernel_rfl)) rfl ?_
  refine ⟨⟨t, m, w.heap.size + 1 + 1 + 1, 0, len, xs⟩, by rw [HN.out], rfl, rfl, rfl, ?_, BF.out⟩
  unfold DMine
  rw [show (PV.mk t m (w.heap.size + 1 + 1 + 1) 0 len xs).xs.length = len from HN.out]
  exact HMF.out

set_option maxHeartbeats 800000 in
theorem eqPart_same (t : Int) (m : Bool) (a a' : Option Addr) (len c c' B B' : Nat) (xs : List Int) (w : World) (hn : xs.length = len) (hb : len ≤ 1048576) (hB : B ≤ w.heap.size) (hB' : B' ≤ w.heap.size) (hr : Row .i64 w B a xs) (hr' : Row .i64 w B' a' xs) :
    Calls Try.prog 47 #[.agg #[.int .i64 t, .bool m, .slice a len c], .agg #[.int .i64 t, .bool m, .slice a' len c']] w fun e w' => e = .returned (.bool true) ∧ Below w.heap.size w w' := by
  have hb0 := ((Below.refl w.heap.size w).alloc (Nat.le_refl _) (.cells #[.int .i64 t, .bool m, .slice a len c] 41)).alloc (by simp) (.cells #[.int .i64 t, .bool m, .slice a' len c'] 41)
  have B0 := Lib.hid hb0
  have q := Lib.hid ((hr.more hB).below hb0)
  have q' := Lib.hid ((hr'.more hB').below hb0)
  clear hb0 hr hr'
  have hmm : (m == m) = true := by simp
  go_enter Try.func47, Try.ntmps47
  go_wp2_with fail
  refine (eqIntS_same a a' len c c' _ _ xs _ hn hb q.out q'.out).mono ?_
  rintro e w3 ⟨rfl, b3⟩
  have B3 := Lib.hid (next B0.out b3)
  clear b3
  go_wp2
  go_ret
  exact ⟨rfl, B3.out⟩
end Go.Proofs.Ytabapkbfolncoaa
