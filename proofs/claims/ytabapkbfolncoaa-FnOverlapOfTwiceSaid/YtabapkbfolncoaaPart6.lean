/-
  CutData, of the program and of the reference: what it returns, for all arguments.
-/
import Derived.Test.YtabapkbfolncoaaPart4
import Derived.Test.YtabapkbfolncoaaPart3
import Derived.Test.YtabapkbfolncoaaDrawInts
namespace Go.Proofs.Ytabapkbfolncoaa
open Go.RowKit
attribute [local go_sem ↓] Go.wp_at_zero Go.wp_at_succ

/-- The part of data from place s on, at most m long. Not reducible. -/
def cutP (xs : List Int) (m s : Nat) : Pt := ((s : Int), decide (s + m < xs.length), (xs.drop s).take m)
def cutK (xs : List Int) (m k : Nat) : List Pt := (List.range k).map fun j => cutP xs m (j * m)
def cutN (xs : List Int) (m : Nat) : Nat := (xs.length + m - 1) / m
/-- The arguments can be cut. Not reducible. -/
def okCut (xs : List Int) (m : Int) : Bool := inR xs.length 1 12 && (areW xs && inR m 1 12)
/-- What CutData gives. Not reducible. -/
def cutOf (xs : List Int) (m : Int) : List Pt := if okCut xs m && decide (cutN xs m.toNat ≤ 6) then cutK xs m.toNat (cutN xs m.toNat) else []
section
variable {xs : List Int} {m : Int}
theorem cutK_succ (m k : Nat) : cutK xs m (k + 1) = cutK xs m k ++ [cutP xs m (k * m)] := by
  simp [cutK, List.range_succ]
theorem cutK_len (m k : Nat) : (cutK xs m k).length = k := by simp [cutK]
theorem cutN_eq {m k : Nat} (hm : 0 < m) (h1 : xs.length ≤ k * m) (h2 : k * m < xs.length + m) : cutN xs m = k := by
  unfold cutN
  refine Nat.div_eq_of_lt_le ?_ ?_
  · omega
  · rw [Nat.add_mul]; omega
theorem cutN_int (m : Nat) (hm : 1 ≤ m) : ((cutN xs m : Nat) : Int) = ((xs.length : Int) + (m : Int) - 1) / (m : Int) := by
  unfold cutN
  rw [Int.natCast_ediv]
  congr 1
  omega
theorem cutOf_no (h : okCut xs m = false) : cutOf xs m = [] := by simp [cutOf, h]
theorem cutOf_many (h : ¬ cutN xs m.toNat ≤ 6) : cutOf xs m = [] := by simp [cutOf, h]
theorem cutOf_yes (h : okCut xs m = true) (h6 : cutN xs m.toNat ≤ 6) : cutOf xs m = cutK xs m.toNat (cutN xs m.toNat) := by simp [cutOf, h, h6]
theorem okCut_1 (h : inR xs.length 1 12 = false) : okCut xs m = false := by simp [okCut, h]
theorem okCut_2 (h : areW xs = false) : okCut xs m = false := by simp [okCut, h]
theorem okCut_3 (h : inR m 1 12 = false) : okCut xs m = false := by simp [okCut, h]
theorem okCut_yes (h : inR xs.length 1 12 = true) (h' : areW xs = true) (h2 : inR m 1 12 = true) : okCut xs m = true := by simp [okCut, h, h', h2]
end

theorem Row.cut {k : IntKind} {w : World} {B b o : Nat} {xs : List Int} (h : Row k w B (some ⟨b, o, none⟩) xs) (s m : Nat) : Row k w B (some ⟨b, o + s, none⟩) ((xs.drop s).take m) := fun h0 => by
  rw [List.length_take, List.length_drop] at h0
  obtain ⟨b', o', e, hb, hi⟩ := h (by omega)
  injection e with e; injection e with e1 e2; subst e1; subst e2
  refine ⟨b, o + s, rfl, hb, fun i hil => ?_⟩
  rw [List.length_take, List.length_drop] at hil
  rw [Nat.add_assoc, hi (s + i) (by omega)]
  simp only [List.getD_eq_getElem?_getD]
  rw [List.getElem?_take, if_pos (by omega), List.getElem?_drop]

/-- Cut data, in new memory. -/
def CutTo (w : World) (L : List Pt) (e : Ending) (w' : World) : Prop :=
  ∃ (A : Option Addr) (k cap : Nat) (V : List PV), e = .returned (.slice A k cap) ∧ V.map PV.pt = L ∧ PMine w' w.heap.size A k cap V ∧ Below w.heap.size w w'
theorem CutTo.none_ {w w' : World} (hb : Below w.heap.size w w') : CutTo w [] (.returned (.slice none 0 0)) w' := ⟨none, 0, 0, [], rfl, rfl, PMine.nil_, hb⟩

theorem Mine.clip {w : World} {base size n cap : Nat} {A : Option Addr} {xs : List Value} (h : Mine w base size A n cap xs) : Mine w base size A n n xs := by
  obtain ⟨h1, h2, h3, h4⟩ := h
  refine ⟨h1, Nat.le_refl _, by omega, ?_⟩
  rcases h4 with ⟨e, h4⟩ | ⟨g, o, e, hg, hl, hc, hf⟩
  · exact .inl ⟨e, by omega⟩
  · exact .inr ⟨g, o, e, hg, hl, hc, fun j hj => hf j (Nat.lt_of_lt_of_le hj (Nat.mul_le_mul_right _ h2))⟩
theorem PMine.clip {w : World} {base n cap : Nat} {A : Option Addr} {V : List PV} (h : PMine w base A n cap V) : PMine w base A n n V := ⟨h.1, h.2.1.clip, h.2.2⟩
/-- One part more, appended. -/
theorem PMine.snoc {w w' : World} {base n cap cap' : Nat} {A A' : Option Addr} {V : List PV} {p : PV} (h : PMine w base A n cap V) (hp : DMine w base p) (hA : A.map (·.block) ≠ some p.blk) (hV : ∀ q ∈ V, q.blk ≠ p.blk)
    (m9 : Mine w' base 3 A' (n + 1) cap' (V.flatMap encV ++ encV p)) (g9 : w.grownBy w' (A.map (·.block))) (at9 : A'.map (·.block) = A.map (·.block) ∨ ∃ g', A'.map (·.block) = some g' ∧ w.heap.size ≤ g') :
    PMine w' base A' (n + 1) cap' (V ++ [p]) := by
  obtain ⟨h1, h2, h3, h4⟩ := h
  have hs := g9.size
  have far : ∀ q, DMine w base q → A.map (·.block) ≠ some q.blk → DMine w' base q ∧ A'.map (·.block) ≠ some q.blk := fun q hd hn => by
    have hl := hd.lt
    refine ⟨hd.keep hs (g9.block _ hl.2 (fun e => hn e.symm)), ?_⟩
    rcases at9 with e | ⟨g', e, hg'⟩
    · rw [e]; exact hn
    · rw [e]; intro e'; injection e' with e'; omega
  refine ⟨by simp [h1], by simpa using m9, fun q hq => ?_, List.pairwise_append.2 ⟨h4, List.pairwise_singleton _ _, fun q hq q' hq' => ?_⟩⟩
  · rcases List.mem_append.1 hq with hq | hq
    · exact far q (h3 q hq).1 (h3 q hq).2
    · simp at hq; subst hq; exact far _ hp hA
  · simp at hq'; subst hq'; exact hV q hq

theorem ClipInts_any (A : Option Addr) (n c : Nat) (w : World) (h : n ≤ c) (_hc : c ≤ 9223372036854775807) :
    Calls Try.prog 46 #[.slice A n c] w fun e w' => e = .returned (.slice A n n) ∧ w = w' := by
  go_enter Try.func46, Try.ntmps46
  go_wp2
  go_ret
  exact ⟨rfl, rfl⟩

theorem ClipParts_any (A : Option Addr) (n c : Nat) (w : World) (h : n ≤ c) (_hc : c ≤ 9223372036854775807) :
    Calls Try.prog 53 #[.slice A n c] w fun e w' => e = .returned (.slice A n n) ∧ w = w' := by
  go_enter Try.func53, Try.ntmps53
  go_wp2
  go_ret
  exact ⟨rfl, rfl⟩

set_option maxHeartbeats 800000 in
theorem CloneInts_any (b o : Nat) (n c B : Nat) (xs : List Int) (w : World) (hn : xs.length = n) (hb : n ≤ 1048576) (hB : B ≤ w.heap.size) (hr : Row .i64 w B (some ⟨b, o, none⟩) xs) :
    Calls Try.prog 71 #[.slice (some ⟨b, o, none⟩) n c] w (CopyOf w n xs) := by
  obtain ⟨i0, hi, hz0, hz1, hz2⟩ := info_parts int_info
  have hM := Mine.new w 3 1 0 #[] rfl (by simp [maxLen])
  have hS := (hr.sees).alloc hB (.cells #[] 3)
  have heq : ∀ W : World, (binOp .eql 24 (.slice (some ⟨b, o, none⟩) n c) (.slice none 0 0)).run Try.prog W = .ok (.bool false) W := fun W => by kernel_rfl
  go_enter Try.func71, Try.ntmps71
  go_wp2_with (at_builtin; refine wpList_append_mine _ rfl _ _ 24 rfl w.heap.size 3 i0 (.int .i64 0) 1 8 Try.underlying24 hi hz0 hz1 hz2 rfl (by omega) _ 0 0 [] rfl hM B _ n c (xs.map (Value.int .i64)) rfl (by simpa using hn) hS (one_ints xs) (by unfold maxLen; omega) (by omega) (by simp) ?_; intro A' cap' w1 m1 g1 at1)
  obtain ⟨g, o, rfl⟩ := some_of at1 m1
  have HB := Lib.hid (((Below.refl w.heap.size w).alloc (Nat.le_refl _) (.cells #[] 3)).grown g1 (by simp) (by simp))
  simp only [Nat.zero_add, List.nil_append] at m1
  clear g1 at1 hM hS hi hz0 hz1 hz2
  go_wp2
  go_ret
  exact .mk rfl m1 HB.out

set_option maxHeartbeats 800000 in
theorem clone_any (b o : Nat) (n c B : Nat) (xs : List Int) (w : World) (hn : xs.length = n) (hb : n ≤ 1048576) (hB : B ≤ w.heap.size) (hr : Row .i64 w B (some ⟨b, o, none⟩) xs) :
    Calls Try.prog 52 #[.slice (some ⟨b, o, none⟩) n c] w (CopyOf w n xs) := by
  go_enter Try.func52, Try.ntmps52
  go_wp2_with fail
  refine (CloneInts_any b o n c B xs _ hn hb hB hr).mono ?_
  rintro e w1 ⟨g, o1, cap, rfl, m1, b1⟩
  have h1 := m1.2.1
  have h2 := m1.2.2.1
  unfold maxLen at h2
  have M1 := Lib.hid m1.clip
  have B1 := Lib.hid b1
  clear m1 b1
  go_wp2_with fail
  refine (ClipInts_any _ n cap _ h1 (by omega)).mono ?_
  rintro e w2 ⟨rfl, rfl⟩
  go_wp2
  go_ret
  exact .mk rfl M1.out B1.out

set_option maxHeartbeats 3200000 in
theorem CutData_any (a : Option Addr) (n c : Nat) (xs : List Int) (m : Int) (w : World) (hn : xs.length = n) (hc : n ≤ c) (_hm : c ≤ 9223372036854775807) (hr : Row .i64 w w.heap.size a xs) :
    Calls Try.prog 26 #[.slice a n c, .int .i64 m] w (CutTo w (cutOf xs m)) := by
  cases h1 : inR n 1 12
  · have HC := Lib.hid (cutOf_no (okCut_1 (m := m) (by rw [hn]; exact h1)))
    have H1 := Lib.hid h1
    clear h1
    go_enter Try.func26, Try.ntmps26
    go_wp2_with fail
    refine (in_any n 1 12 _).mono ?_
    rintro e w' ⟨rfl, rfl⟩
    rw [H1.out]
    go_wp2
    go_ret
    rw [HC.out]; exact .none_ (Below.refl _ _)
  have HR := Lib.hid hr
  have H1 := Lib.hid h1
  have ⟨n1, n2⟩ := inR_iff.1 h1
  clear h1
  cases h2 : areW xs
  · have HC := Lib.hid (cutOf_no (okCut_2 (m := m) h2))
    have H2 := Lib.hid h2
    clear h2
    go_enter Try.func26, Try.ntmps26
    go_wp2_with fail
    refine (in_any n 1 12 _).mono ?_
    rintro e w' ⟨rfl, rfl⟩
    rw [H1.out]
    go_wp2_with fail
    refine (areWords_any a n c _ xs _ hn (by omega) HR.out).mono ?_
    rintro e w' ⟨rfl, rfl⟩
    rw [H2.out]
    go_wp2
    go_ret
    rw [HC.out]; exact .none_ (Below.refl _ _)
  have H2 := Lib.hid h2
  clear h2
  cases h3 : inR m 1 12
  · have HC := Lib.hid (cutOf_no (okCut_3 (xs := xs) h3))
    have H3 := Lib.hid h3
    clear h3
    go_enter Try.func26, Try.ntmps26
    go_wp2_with fail
    refine (in_any n 1 12 _).mono ?_
    rintro e w' ⟨rfl, rfl⟩
    rw [H1.out]
    go_wp2_with fail
    refine (areWords_any a n c _ xs _ hn (by omega) HR.out).mono ?_
    rintro e w' ⟨rfl, rfl⟩
    rw [H2.out]
    go_wp2_with fail
    refine (in_any m 1 12 _).mono ?_
    rintro e w' ⟨rfl, rfl⟩
    rw [H3.out]
    go_wp2
    go_ret
    rw [HC.out]; exact .none_ (Below.refl _ _)
  have H3 := Lib.hid h3
  have ⟨m1, m2⟩ := inR_iff.1 h3
  have HK := Lib.hid (okCut_yes (by rw [hn]; exact H1.out) H2.out h3)
  clear h3
  go_enter Try.func26, Try.ntmps26
  go_wp2_with fail
  refine (in_any n 1 12 _).mono ?_
  rintro e w' ⟨rfl, rfl⟩
  rw [H1.out]
  go_wp2_with fail
  refine (areWords_any a n c _ xs _ hn (by omega) HR.out).mono ?_
  rintro e w' ⟨rfl, rfl⟩
  rw [H2.out]
  go_wp2_with fail
  refine (in_any m 1 12 _).mono ?_
  rintro e w' ⟨rfl, rfl⟩
  rw [H3.out]
  obtain ⟨mN, rfl⟩ : ∃ k : Nat, m = (k : Int) := ⟨m.toNat, by omega⟩
  have hci := cutN_int (xs := xs) mN (by omega)
  rw [hn] at hci
  by_cases h4 : ((n : Int) + (mN : Int) - 1) / (mN : Int) ≤ 6
  · have HC := Lib.hid (cutOf_yes HK.out (by rw [Int.toNat_natCast]; omega))
    rw [Int.toNat_natCast] at HC
    obtain ⟨q, hq⟩ : ∃ q, q = ((n : Int) + (mN : Int) - 1) / (mN : Int) := ⟨_, rfl⟩
    have h5 : ¬ (6 < ((n : Int) + (mN : Int) - 1) / (mN : Int)) := by omega
    clear hq
    obtain ⟨i0, hi, hz0, hz1, hz2⟩ := info_parts part_info
    have HI := Lib.hid hi
    have HZ := Lib.hid hz0
    have HS := Lib.hid hz1
    have HY := Lib.hid hz2
    clear hi hz0 hz1 hz2
    go_wp2
    go_loopw [5, 6] (fun vo va wr => ∃ (A : Option Addr) (k cap s : Nat) (V : List PV), vo = .slice A k cap ∧ va = .int .i64 s ∧ s = k * mN ∧ s < n + mN ∧ V.map PV.pt = cutK xs mN k ∧ PMine wr w.heap.size A k cap V ∧ Below w.heap.size w wr) (fun _ va _ => n - (intOf va).toNat)
    case atStart => exact ⟨none, 0, 0, 0, [], rfl, rfl, by omega, by omega, rfl, PMine.nil_, Below.refl _ _⟩
    case round =>
      obtain ⟨A, k, cap, s, V, rfl, rfl, hs, hs9, hpt, hM, hB⟩ := hrel
      have MM := Lib.hid hM
      have BB := Lib.hid hB
      have PP := Lib.hid hpt
      have SS := Lib.hid hs
      clear hM hB hpt hs
      by_cases hlt : s < n
      · have l1 : (s : Int) < (n : Int) := by omega
        have hk : k ≤ s := by rw [SS.out]; exact Nat.le_mul_of_pos_right _ (by omega)
        obtain ⟨b, o, rfl, _⟩ := HR.out (by omega)
        by_cases hl : s + mN < n
        · have l2 : (s : Int) + (mN : Int) < (n : Int) := by omega
          have hys : ((xs.drop s).take mN).length = mN := by rw [List.length_take, List.length_drop]; omega
          have HPt : Hid (cutP xs mN s = ((s : Int), true, (xs.drop s).take mN)) := Lib.hid (by simp [cutP, hn, hl])
          have hrow := Lib.hid ((((HR.out).below BB.out).more BB.out.size).cut s mN)
          go_wp2_with fail
          refine (clone_any b (o + s) (mN) (c - s) wr.heap.size _ wr hys (by omega) (Nat.le_refl _) hrow.out).mono ?_
          rintro e w1 ⟨g, o1, cp, rfl, m1, b1⟩
          have hcp := m1.2.1
          have HP : Hid (DMine w1 wr.heap.size ⟨s, true, g, o1, cp, (xs.drop s).take mN⟩) := Lib.hid (by
            unfold DMine
            show Mine w1 _ 1 _ ((xs.drop s).take mN).length cp _
            rw [hys]; exact m1)
          have HEn : Hid (encV ⟨s, true, g, o1, cp, (xs.drop s).take mN⟩ = [.int .i64 s, .bool true, .slice (some ⟨g, o1, none⟩) (mN) cp]) := Lib.hid (by unfold encV; rw [hys])
          have M1 := Lib.hid (MM.out.below b1)
          have B1 := Lib.hid (next BB.out b1)
          have z1 := b1.size
          have zB := BB.out.size
          clear m1 hys b1 hrow
          go_wp2_with (at_builtin; refine wpList_append_mine _ rfl _ _ 27 rfl w.heap.size 41 i0 (.agg #[.int .i64 0, .bool false, .slice none 0 0]) 3 40 Try.underlying27 HI.out HZ.out HS.out HY.out rfl (by omega) _ k cap (V.flatMap encV) rfl (M1.out.2.1.alloc _) _ _ 1 1 [.int .i64 s, .bool true, .slice (some ⟨g, o1, none⟩) (mN) cp] rfl rfl (Mine.new_at w1 w1.heap.size rfl 41 3 1 #[.int .i64 s, .bool true, .slice (some ⟨g, o1, none⟩) (mN) cp] rfl (by simp [maxLen])).sees (by simp [Value.oneCell']) (by unfold maxLen; omega) (by omega) (by simp; omega) ?_; intro A' cap' w9 m9 g9 at9)
          have HP9 : Hid (PMine w9 w.heap.size A' (k + 1) cap' (V ++ [⟨s, true, g, o1, cp, (xs.drop s).take mN⟩])) := Lib.hid (by
            have hd := HP.out.lt
            refine (M1.out.alloc _).snoc ((HP.out.mono (by omega)).below ((Below.refl _ _).alloc (Nat.le_refl _) _)) (fun e => ?_) (fun q hq => ?_) (by rw [HEn.out]; exact m9) g9 at9
            · have := (MM.out.2.1.lt e).2
              simp at hd; simp at this; omega
            · have := (MM.out.2.2.1 q hq).1.lt.2
              simp at hd ⊢; omega)
          have HB9 := Lib.hid ((B1.out.alloc (by omega) (.cells #[.int .i64 s, .bool true, .slice (some ⟨g, o1, none⟩) (mN) cp] 41)).grown g9 (by simp; omega) (fun j e => (MM.out.2.1.lt e).1))
          have HT : Hid ((V ++ [PV.mk s true g o1 cp ((xs.drop s).take mN)]).map PV.pt = cutK xs mN (k + 1)) := Lib.hid (by
            rw [List.map_append, PP.out, cutK_succ, ← SS.out, HPt.out]; rfl)
          have HS9 : Hid (s + mN = (k + 1) * mN) := Lib.hid (by rw [Nat.add_mul, ← SS.out]; omega)
          clear m9 g9 at9
          go_wp2
          go_roundw
          case rel => exact ⟨A', k + 1, cap', s + mN, _, rfl, by go_num, HS9.out, by omega, HT.out, HP9.out, HB9.out⟩
          case measure => simp [intOf]; omega
        · have l2 : ¬ ((s : Int) + (mN : Int) < (n : Int)) := by omega
          by_cases hq : s + mN = n
          · have l3 : (s : Int) + (mN : Int) ≤ (n : Int) := by omega
            have hys : ((xs.drop s).take mN).length = n - s := by rw [List.length_take, List.length_drop]; omega
            have HPt : Hid (cutP xs mN s = ((s : Int), false, (xs.drop s).take mN)) := Lib.hid (by simp [cutP, hn, hl])
            have hrow := Lib.hid ((((HR.out).below BB.out).more BB.out.size).cut s mN)
            go_wp2_with fail
            refine (clone_any b (o + s) (n - s) (c - s) wr.heap.size _ wr hys (by omega) (Nat.le_refl _) hrow.out).mono ?_
            rintro e w1 ⟨g, o1, cp, rfl, m1, b1⟩
            have hcp := m1.2.1
            have HP : Hid (DMine w1 wr.heap.size ⟨s, false, g, o1, cp, (xs.drop s).take mN⟩) := Lib.hid (by
              unfold DMine
              show Mine w1 _ 1 _ ((xs.drop s).take mN).length cp _
              rw [hys]; exact m1)
            have HEn : Hid (encV ⟨s, false, g, o1, cp, (xs.drop s).take mN⟩ = [.int .i64 s, .bool false, .slice (some ⟨g, o1, none⟩) (n - s) cp]) := Lib.hid (by unfold encV; rw [hys])
            have M1 := Lib.hid (MM.out.below b1)
            have B1 := Lib.hid (next BB.out b1)
            have z1 := b1.size
            have zB := BB.out.size
            clear m1 hys b1 hrow
            go_wp2_with (at_builtin; refine wpList_append_mine _ rfl _ _ 27 rfl w.heap.size 41 i0 (.agg #[.int .i64 0, .bool false, .slice none 0 0]) 3 40 Try.underlying27 HI.out HZ.out HS.out HY.out rfl (by omega) _ k cap (V.flatMap encV) rfl (M1.out.2.1.alloc _) _ _ 1 1 [.int .i64 s, .bool false, .slice (some ⟨g, o1, none⟩) (n - s) cp] rfl rfl (Mine.new_at w1 w1.heap.size rfl 41 3 1 #[.int .i64 s, .bool false, .slice (some ⟨g, o1, none⟩) (n - s) cp] rfl (by simp [maxLen])).sees (by simp [Value.oneCell']) (by unfold maxLen; omega) (by omega) (by simp; omega) ?_; intro A' cap' w9 m9 g9 at9)
            have HP9 : Hid (PMine w9 w.heap.size A' (k + 1) cap' (V ++ [⟨s, false, g, o1, cp, (xs.drop s).take mN⟩])) := Lib.hid (by
              have hd := HP.out.lt
              refine (M1.out.alloc _).snoc ((HP.out.mono (by omega)).below ((Below.refl _ _).alloc (Nat.le_refl _) _)) (fun e => ?_) (fun q hq => ?_) (by rw [HEn.out]; exact m9) g9 at9
              · have := (MM.out.2.1.lt e).2
                simp at hd; simp at this; omega
              · have := (MM.out.2.2.1 q hq).1.lt.2
                simp at hd ⊢; omega)
            have HB9 := Lib.hid ((B1.out.alloc (by omega) (.cells #[.int .i64 s, .bool false, .slice (some ⟨g, o1, none⟩) (n - s) cp] 41)).grown g9 (by simp; omega) (fun j e => (MM.out.2.1.lt e).1))
            have HT : Hid ((V ++ [PV.mk s false g o1 cp ((xs.drop s).take mN)]).map PV.pt = cutK xs mN (k + 1)) := Lib.hid (by
              rw [List.map_append, PP.out, cutK_succ, ← SS.out, HPt.out]; rfl)
            have HS9 : Hid (s + mN = (k + 1) * mN) := Lib.hid (by rw [Nat.add_mul, ← SS.out]; omega)
            clear m9 g9 at9
            go_wp2
            go_roundw
            case rel => exact ⟨A', k + 1, cap', s + mN, _, rfl, by go_num, HS9.out, by omega, HT.out, HP9.out, HB9.out⟩
            case measure => simp [intOf]; omega
          · have l3 : ¬ ((s : Int) + (mN : Int) ≤ (n : Int)) := by omega
            have hd : (n : Int) - (s : Int) = ((n - s : Nat) : Int) := by omega
            have hys : ((xs.drop s).take mN).length = n - s := by rw [List.length_take, List.length_drop]; omega
            have HPt : Hid (cutP xs mN s = ((s : Int), false, (xs.drop s).take mN)) := Lib.hid (by simp [cutP, hn, hl])
            have hrow := Lib.hid ((((HR.out).below BB.out).more BB.out.size).cut s mN)
            go_wp2_with fail
            refine (clone_any b (o + s) (n - s) (c - s) wr.heap.size _ wr hys (by omega) (Nat.le_refl _) hrow.out).mono ?_
            rintro e w1 ⟨g, o1, cp, rfl, m1, b1⟩
            have hcp := m1.2.1
            have HP : Hid (DMine w1 wr.heap.size ⟨s, false, g, o1, cp, (xs.drop s).take mN⟩) := Lib.hid (by
              unfold DMine
              show Mine w1 _ 1 _ ((xs.drop s).take mN).length cp _
              rw [hys]; exact m1)
            have HEn : Hid (encV ⟨s, false, g, o1, cp, (xs.drop s).take mN⟩ = [.int .i64 s, .bool false, .slice (some ⟨g, o1, none⟩) (n - s) cp]) := Lib.hid (by unfold encV; rw [hys])
            have M1 := Lib.hid (MM.out.below b1)
            have B1 := Lib.hid (next BB.out b1)
            have z1 := b1.size
            have zB := BB.out.size
            clear m1 hys b1 hrow
            go_wp2_with (at_builtin; refine wpList_append_mine _ rfl _ _ 27 rfl w.heap.size 41 i0 (.agg #[.int .i64 0, .bool false, .slice none 0 0]) 3 40 Try.underlying27 HI.out HZ.out HS.out HY.out rfl (by omega) _ k cap (V.flatMap encV) rfl (M1.out.2.1.alloc _) _ _ 1 1 [.int .i64 s, .bool false, .slice (some ⟨g, o1, none⟩) (n - s) cp] rfl rfl (Mine.new_at w1 w1.heap.size rfl 41 3 1 #[.int .i64 s, .bool false, .slice (some ⟨g, o1, none⟩) (n - s) cp] rfl (by simp [maxLen])).sees (by simp [Value.oneCell']) (by unfold maxLen; omega) (by omega) (by simp; omega) ?_; intro A' cap' w9 m9 g9 at9)
            have HP9 : Hid (PMine w9 w.heap.size A' (k + 1) cap' (V ++ [⟨s, false, g, o1, cp, (xs.drop s).take mN⟩])) := Lib.hid (by
              have hd := HP.out.lt
              refine (M1.out.alloc _).snoc ((HP.out.mono (by omega)).below ((Below.refl _ _).alloc (Nat.le_refl _) _)) (fun e => ?_) (fun q hq => ?_) (by rw [HEn.out]; exact m9) g9 at9
              · have := (MM.out.2.1.lt e).2
                simp at hd; simp at this; omega
              · have := (MM.out.2.2.1 q hq).1.lt.2
                simp at hd ⊢; omega)
            have HB9 := Lib.hid ((B1.out.alloc (by omega) (.cells #[.int .i64 s, .bool false, .slice (some ⟨g, o1, none⟩) (n - s) cp] 41)).grown g9 (by simp; omega) (fun j e => (MM.out.2.1.lt e).1))
            have HT : Hid ((V ++ [PV.mk s false g o1 cp ((xs.drop s).take mN)]).map PV.pt = cutK xs mN (k + 1)) := Lib.hid (by
              rw [List.map_append, PP.out, cutK_succ, ← SS.out, HPt.out]; rfl)
            have HS9 : Hid (s + mN = (k + 1) * mN) := Lib.hid (by rw [Nat.add_mul, ← SS.out]; omega)
            clear m9 g9 at9
            go_wp2
            go_roundw
            case rel => exact ⟨A', k + 1, cap', s + mN, _, rfl, by go_num, HS9.out, by omega, HT.out, HP9.out, HB9.out⟩
            case measure => simp [intOf]; omega
      · have HF := Lib.hid (cutN_eq (xs := xs) (m := mN) (k := k) (by omega) (by rw [← SS.out]; omega) (by rw [← SS.out]; omega))
        have hk := MM.out.2.1.2.1
        have hk2 := MM.out.2.1.2.2.1
        unfold maxLen at hk2
        go_wp2_with fail
        refine (ClipParts_any A k cap _ hk (by omega)).mono ?_
        rintro e w2 ⟨rfl, rfl⟩
        go_wp2
        go_ret
        exact ⟨A, k, k, V, rfl, by rw [PP.out, HC.out, HF.out], MM.out.clip, BB.out⟩
  · have HC := Lib.hid (cutOf_many (xs := xs) (m := (mN : Int)) (by rw [Int.toNat_natCast]; omega))
    have h5 : (6 < ((n : Int) + (mN : Int) - 1) / (mN : Int)) := by omega
    go_wp2
    go_ret
    rw [HC.out]; exact .none_ (Below.refl _ _)
set_option maxHeartbeats 3200000 in
theorem specCutData_any (a : Option Addr) (n c : Nat) (xs : List Int) (m : Int) (w : World) (hn : xs.length = n) (hc : n ≤ c) (_hm : c ≤ 9223372036854775807) (hr : Row .i64 w w.heap.size a xs) :
    Calls Try.prog 33 #[.slice a n c, .int .i64 m] w (CutTo w (cutOf xs m)) := by
  have B0 := Lib.hid ((Below.refl w.heap.size w).alloc (Nat.le_refl _) (.cells #[] 41))
  cases h1 : inR n 1 12
  · have HC := Lib.hid (cutOf_no (okCut_1 (m := m) (by rw [hn]; exact h1)))
    have H1 := Lib.hid h1
    clear h1
    go_enter Try.func33, Try.ntmps33
    go_wp2_with fail
    refine (inRange_any n 1 12 _).mono ?_
    rintro e w' ⟨rfl, rfl⟩
    rw [H1.out]
    go_wp2
    go_ret
    rw [HC.out]; exact .none_ B0.out
  have HR0 := Lib.hid hr
  have HR := Lib.hid (hr.alloc (Nat.le_refl _) (.cells #[] 41))
  have H1 := Lib.hid h1
  have ⟨n1, n2⟩ := inR_iff.1 h1
  clear h1
  cases h2 : areW xs
  · have HC := Lib.hid (cutOf_no (okCut_2 (m := m) h2))
    have H2 := Lib.hid h2
    clear h2
    go_enter Try.func33, Try.ntmps33
    go_wp2_with fail
    refine (inRange_any n 1 12 _).mono ?_
    rintro e w' ⟨rfl, rfl⟩
    rw [H1.out]
    go_wp2_with fail
    refine (allIn_any a n c _ xs 0 65535 _ hn (by omega) HR.out).mono ?_
    rintro e w' ⟨rfl, rfl⟩
    rw [show allR xs 0 65535 = _ from H2.out]
    go_wp2
    go_ret
    rw [HC.out]; exact .none_ B0.out
  have H2 := Lib.hid h2
  clear h2
  cases h3 : inR m 1 12
  · have HC := Lib.hid (cutOf_no (okCut_3 (xs := xs) h3))
    have H3 := Lib.hid h3
    clear h3
    go_enter Try.func33, Try.ntmps33
    go_wp2_with fail
    refine (inRange_any n 1 12 _).mono ?_
    rintro e w' ⟨rfl, rfl⟩
    rw [H1.out]
    go_wp2_with fail
    refine (allIn_any a n c _ xs 0 65535 _ hn (by omega) HR.out).mono ?_
    rintro e w' ⟨rfl, rfl⟩
    rw [show allR xs 0 65535 = _ from H2.out]
    go_wp2_with fail
    refine (inRange_any m 1 12 _).mono ?_
    rintro e w' ⟨rfl, rfl⟩
    rw [H3.out]
    go_wp2
    go_ret
    rw [HC.out]; exact .none_ B0.out
  have H3 := Lib.hid h3
  have ⟨m1, m2⟩ := inR_iff.1 h3
  have HK := Lib.hid (okCut_yes (by rw [hn]; exact H1.out) H2.out h3)
  clear h3
  go_enter Try.func33, Try.ntmps33
  go_wp2_with fail
  refine (inRange_any n 1 12 _).mono ?_
  rintro e w' ⟨rfl, rfl⟩
  rw [H1.out]
  go_wp2_with fail
  refine (allIn_any a n c _ xs 0 65535 _ hn (by omega) HR.out).mono ?_
  rintro e w' ⟨rfl, rfl⟩
  rw [show allR xs 0 65535 = _ from H2.out]
  go_wp2_with fail
  refine (inRange_any m 1 12 _).mono ?_
  rintro e w' ⟨rfl, rfl⟩
  rw [H3.out]
  obtain ⟨mN, rfl⟩ : ∃ k : Nat, m = (k : Int) := ⟨m.toNat, by omega⟩
  have hci := cutN_int (xs := xs) mN (by omega)
  rw [hn] at hci
  clear hci
  obtain ⟨i0, hi, hz0, hz1, hz2⟩ := info_parts part_info
  have HI := Lib.hid hi
  have HZ := Lib.hid hz0
  have HS := Lib.hid hz1
  have HY := Lib.hid hz2
  clear hi hz0 hz1 hz2
  go_wp2
  go_loopw [5, 6] (fun vo va wr => ∃ (A : Option Addr) (k cap s : Nat) (V : List PV), vo = .slice A k cap ∧ va = .int .i64 s ∧ s = k * mN ∧ s < n + mN ∧ V.map PV.pt = cutK xs mN k ∧ PMine wr w.heap.size A k cap V ∧ Below w.heap.size w wr) (fun _ va _ => n - (intOf va).toNat)
  case atStart => exact ⟨some ⟨w.heap.size, 0, none⟩, 0, 0, 0, [], rfl, rfl, by omega, by omega, rfl, ⟨rfl, Mine.new w 41 3 0 #[] rfl (by simp [maxLen]), by simp, .nil⟩, B0.out⟩
  case round =>
    obtain ⟨A, k, cap, s, V, rfl, rfl, hs, hs9, hpt, hM, hB⟩ := hrel
    have MM := Lib.hid hM
    have BB := Lib.hid hB
    have PP := Lib.hid hpt
    have SS := Lib.hid hs
    clear hM hB hpt hs
    by_cases hlt : s < n
    · have l1 : (s : Int) < (n : Int) := by omega
      have hk : k ≤ s := by rw [SS.out]; exact Nat.le_mul_of_pos_right _ (by omega)
      obtain ⟨b, o, rfl, _⟩ := HR0.out (by omega)
      by_cases hl : s + mN < n
      · have l2 : (s : Int) + (mN : Int) < (n : Int) := by omega
        have hys : ((xs.drop s).take mN).length = mN := by rw [List.length_take, List.length_drop]; omega
        have HPt : Hid (cutP xs mN s = ((s : Int), true, (xs.drop s).take mN)) := Lib.hid (by simp [cutP, hn, hl])
        have hrow := Lib.hid ((((HR0.out).below BB.out).more BB.out.size).cut s mN)
        go_wp2_with fail
        refine (copyInts_any (some ⟨b, o + s, none⟩) (mN) (c - s) wr.heap.size _ wr hys (by omega) (Nat.le_refl _) hrow.out).mono ?_
        rintro e w1 ⟨g, o1, cp, rfl, m1, b1⟩
        have hcp := m1.2.1
        have HP : Hid (DMine w1 wr.heap.size ⟨s, true, g, o1, cp, (xs.drop s).take mN⟩) := Lib.hid (by
          unfold DMine
          show Mine w1 _ 1 _ ((xs.drop s).take mN).length cp _
          rw [hys]; exact m1)
        have HEn : Hid (encV ⟨s, true, g, o1, cp, (xs.drop s).take mN⟩ = [.int .i64 s, .bool true, .slice (some ⟨g, o1, none⟩) (mN) cp]) := Lib.hid (by unfold encV; rw [hys])
        have M1 := Lib.hid (MM.out.below b1)
        have B1 := Lib.hid (next BB.out b1)
        have z1 := b1.size
        have zB := BB.out.size
        clear m1 hys b1 hrow
        go_wp2_with (at_builtin; refine wpList_append_mine _ rfl _ _ 27 rfl w.heap.size 41 i0 (.agg #[.int .i64 0, .bool false, .slice none 0 0]) 3 40 Try.underlying27 HI.out HZ.out HS.out HY.out rfl (by omega) _ k cap (V.flatMap encV) rfl (M1.out.2.1.alloc _) _ _ 1 1 [.int .i64 s, .bool true, .slice (some ⟨g, o1, none⟩) (mN) cp] rfl rfl (Mine.new_at w1 w1.heap.size rfl 41 3 1 #[.int .i64 s, .bool true, .slice (some ⟨g, o1, none⟩) (mN) cp] rfl (by simp [maxLen])).sees (by simp [Value.oneCell']) (by unfold maxLen; omega) (by omega) (by simp; omega) ?_; intro A' cap' w9 m9 g9 at9)
        have HP9 : Hid (PMine w9 w.heap.size A' (k + 1) cap' (V ++ [⟨s, true, g, o1, cp, (xs.drop s).take mN⟩])) := Lib.hid (by
          have hd := HP.out.lt
          refine (M1.out.alloc _).snoc ((HP.out.mono (by omega)).below ((Below.refl _ _).alloc (Nat.le_refl _) _)) (fun e => ?_) (fun q hq => ?_) (by rw [HEn.out]; exact m9) g9 at9
          · have := (MM.out.2.1.lt e).2
            simp at hd; simp at this; omega
          · have := (MM.out.2.2.1 q hq).1.lt.2
            simp at hd ⊢; omega)
        have HB9 := Lib.hid ((B1.out.alloc (by omega) (.cells #[.int .i64 s, .bool true, .slice (some ⟨g, o1, none⟩) (mN) cp] 41)).grown g9 (by simp; omega) (fun j e => (MM.out.2.1.lt e).1))
        have HT : Hid ((V ++ [PV.mk s true g o1 cp ((xs.drop s).take mN)]).map PV.pt = cutK xs mN (k + 1)) := Lib.hid (by
          rw [List.map_append, PP.out, cutK_succ, ← SS.out, HPt.out]; rfl)
        have HS9 : Hid (s + mN = (k + 1) * mN) := Lib.hid (by rw [Nat.add_mul, ← SS.out]; omega)
        clear m9 g9 at9
        go_wp2
        go_roundw
        case rel => exact ⟨A', k + 1, cap', s + mN, _, rfl, by go_num, HS9.out, by omega, HT.out, HP9.out, HB9.out⟩
        case measure => simp [intOf]; omega
      · have l2 : ¬ ((s : Int) + (mN : Int) < (n : Int)) := by omega
        by_cases hq : s + mN = n
        · have l3 : (s : Int) + (mN : Int) ≤ (n : Int) := by omega
          have hys : ((xs.drop s).take mN).length = n - s := by rw [List.length_take, List.length_drop]; omega
          have HPt : Hid (cutP xs mN s = ((s : Int), false, (xs.drop s).take mN)) := Lib.hid (by simp [cutP, hn, hl])
          have hrow := Lib.hid ((((HR0.out).below BB.out).more BB.out.size).cut s mN)
          go_wp2_with fail
          refine (copyInts_any (some ⟨b, o + s, none⟩) (n - s) (c - s) wr.heap.size _ wr hys (by omega) (Nat.le_refl _) hrow.out).mono ?_
          rintro e w1 ⟨g, o1, cp, rfl, m1, b1⟩
          have hcp := m1.2.1
          have HP : Hid (DMine w1 wr.heap.size ⟨s, false, g, o1, cp, (xs.drop s).take mN⟩) := Lib.hid (by
            unfold DMine
            show Mine w1 _ 1 _ ((xs.drop s).take mN).length cp _
            rw [hys]; exact m1)
          have HEn : Hid (encV ⟨s, false, g, o1, cp, (xs.drop s).take mN⟩ = [.int .i64 s, .bool false, .slice (some ⟨g, o1, none⟩) (n - s) cp]) := Lib.hid (by unfold encV; rw [hys])
          have M1 := Lib.hid (MM.out.below b1)
          have B1 := Lib.hid (next BB.out b1)
          have z1 := b1.size
          have zB := BB.out.size
          clear m1 hys b1 hrow
          go_wp2_with (at_builtin; refine wpList_append_mine _ rfl _ _ 27 rfl w.heap.size 41 i0 (.agg #[.int .i64 0, .bool false, .slice none 0 0]) 3 40 Try.underlying27 HI.out HZ.out HS.out HY.out rfl (by omega) _ k cap (V.flatMap encV) rfl (M1.out.2.1.alloc _) _ _ 1 1 [.int .i64 s, .bool false, .slice (some ⟨g, o1, none⟩) (n - s) cp] rfl rfl (Mine.new_at w1 w1.heap.size rfl 41 3 1 #[.int .i64 s, .bool false, .slice (some ⟨g, o1, none⟩) (n - s) cp] rfl (by simp [maxLen])).sees (by simp [Value.oneCell']) (by unfold maxLen; omega) (by omega) (by simp; omega) ?_; intro A' cap' w9 m9 g9 at9)
          have HP9 : Hid (PMine w9 w.heap.size A' (k + 1) cap' (V ++ [⟨s, false, g, o1, cp, (xs.drop s).take mN⟩])) := Lib.hid (by
            have hd := HP.out.lt
            refine (M1.out.alloc _).snoc ((HP.out.mono (by omega)).below ((Below.refl _ _).alloc (Nat.le_refl _) _)) (fun e => ?_) (fun q hq => ?_) (by rw [HEn.out]; exact m9) g9 at9
            · have := (MM.out.2.1.lt e).2
              simp at hd; simp at this; omega
            · have := (MM.out.2.2.1 q hq).1.lt.2
              simp at hd ⊢; omega)
          have HB9 := Lib.hid ((B1.out.alloc (by omega) (.cells #[.int .i64 s, .bool false, .slice (some ⟨g, o1, none⟩) (n - s) cp] 41)).grown g9 (by simp; omega) (fun j e => (MM.out.2.1.lt e).1))
          have HT : Hid ((V ++ [PV.mk s false g o1 cp ((xs.drop s).take mN)]).map PV.pt = cutK xs mN (k + 1)) := Lib.hid (by
            rw [List.map_append, PP.out, cutK_succ, ← SS.out, HPt.out]; rfl)
          have HS9 : Hid (s + mN = (k + 1) * mN) := Lib.hid (by rw [Nat.add_mul, ← SS.out]; omega)
          clear m9 g9 at9
          go_wp2
          go_roundw
          case rel => exact ⟨A', k + 1, cap', s + mN, _, rfl, by go_num, HS9.out, by omega, HT.out, HP9.out, HB9.out⟩
          case measure => simp [intOf]; omega
        · have l3 : ¬ ((s : Int) + (mN : Int) ≤ (n : Int)) := by omega
          have hd : (n : Int) - (s : Int) = ((n - s : Nat) : Int) := by omega
          have hys : ((xs.drop s).take mN).length = n - s := by rw [List.length_take, List.length_drop]; omega
          have HPt : Hid (cutP xs mN s = ((s : Int), false, (xs.drop s).take mN)) := Lib.hid (by simp [cutP, hn, hl])
          have hrow := Lib.hid ((((HR0.out).below BB.out).more BB.out.size).cut s mN)
          go_wp2_with fail
          refine (copyInts_any (some ⟨b, o + s, none⟩) (n - s) (c - s) wr.heap.size _ wr hys (by omega) (Nat.le_refl _) hrow.out).mono ?_
          rintro e w1 ⟨g, o1, cp, rfl, m1, b1⟩
          have hcp := m1.2.1
          have HP : Hid (DMine w1 wr.heap.size ⟨s, false, g, o1, cp, (xs.drop s).take mN⟩) := Lib.hid (by
            unfold DMine
            show Mine w1 _ 1 _ ((xs.drop s).take mN).length cp _
            rw [hys]; exact m1)
          have HEn : Hid (encV ⟨s, false, g, o1, cp, (xs.drop s).take mN⟩ = [.int .i64 s, .bool false, .slice (some ⟨g, o1, none⟩) (n - s) cp]) := Lib.hid (by unfold encV; rw [hys])
          have M1 := Lib.hid (MM.out.below b1)
          have B1 := Lib.hid (next BB.out b1)
          have z1 := b1.size
          have zB := BB.out.size
          clear m1 hys b1 hrow
          go_wp2_with (at_builtin; refine wpList_append_mine _ rfl _ _ 27 rfl w.heap.size 41 i0 (.agg #[.int .i64 0, .bool false, .slice none 0 0]) 3 40 Try.underlying27 HI.out HZ.out HS.out HY.out rfl (by omega) _ k cap (V.flatMap encV) rfl (M1.out.2.1.alloc _) _ _ 1 1 [.int .i64 s, .bool false, .slice (some ⟨g, o1, none⟩) (n - s) cp] rfl rfl (Mine.new_at w1 w1.heap.size rfl 41 3 1 #[.int .i64 s, .bool false, .slice (some ⟨g, o1, none⟩) (n - s) cp] rfl (by simp [maxLen])).sees (by simp [Value.oneCell']) (by unfold maxLen; omega) (by omega) (by simp; omega) ?_; intro A' cap' w9 m9 g9 at9)
          have HP9 : Hid (PMine w9 w.heap.size A' (k + 1) cap' (V ++ [⟨s, false, g, o1, cp, (xs.drop s).take mN⟩])) := Lib.hid (by
            have hd := HP.out.lt
            refine (M1.out.alloc _).snoc ((HP.out.mono (by omega)).below ((Below.refl _ _).alloc (Nat.le_refl _) _)) (fun e => ?_) (fun q hq => ?_) (by rw [HEn.out]; exact m9) g9 at9
            · have := (MM.out.2.1.lt e).2
              simp at hd; simp at this; omega
            · have := (MM.out.2.2.1 q hq).1.lt.2
              simp at hd ⊢; omega)
          have HB9 := Lib.hid ((B1.out.alloc (by omega) (.cells #[.int .i64 s, .bool false, .slice (some ⟨g, o1, none⟩) (n - s) cp] 41)).grown g9 (by simp; omega) (fun j e => (MM.out.2.1.lt e).1))
          have HT : Hid ((V ++ [PV.mk s false g o1 cp ((xs.drop s).take mN)]).map PV.pt = cutK xs mN (k + 1)) := Lib.hid (by
            rw [List.map_append, PP.out, cutK_succ, ← SS.out, HPt.out]; rfl)
          have HS9 : Hid (s + mN = (k + 1) * mN) := Lib.hid (by rw [Nat.add_mul, ← SS.out]; omega)
          clear m9 g9 at9
          go_wp2
          go_roundw
          case rel => exact ⟨A', k + 1, cap', s + mN, _, rfl, by go_num, HS9.out, by omega, HT.out, HP9.out, HB9.out⟩
          case measure => simp [intOf]; omega
    · have HF := Lib.hid (cutN_eq (xs := xs) (m := mN) (k := k) (by omega) (by rw [← SS.out]; omega) (by rw [← SS.out]; omega))
      by_cases h6 : k ≤ 6
      · have HC := Lib.hid (cutOf_yes HK.out (by rw [Int.toNat_natCast, HF.out]; exact h6))
        rw [Int.toNat_natCast] at HC
        go_wp2
        go_ret
        exact ⟨A, k, cap, V, rfl, by rw [PP.out, HC.out, HF.out], MM.out, BB.out⟩
      · have HC := Lib.hid (cutOf_many (xs := xs) (m := (mN : Int)) (by rw [Int.toNat_natCast, HF.out]; exact h6))
        go_wp2
        go_ret
        rw [HC.out]; exact .none_ BB.out
end Go.Proofs.Ytabapkbfolncoaa
