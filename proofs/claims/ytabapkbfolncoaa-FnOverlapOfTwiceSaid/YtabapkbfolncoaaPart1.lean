/-
  Parts: rows of parts; what is valid, plainly; ValidParts, of the program and of the reference: what they return, for all lists.
-/
import Derived.Test.YtabapkbfolncoaaSum1
import Derived.Test.YtabapkbfolncoaaSums0
import Derived.Test.YtabapkbfolncoaaBox
import Derived.Test.YtabapkbfolncoaaCls
import Derived.BigQuiet
namespace Go.Proofs.Ytabapkbfolncoaa
open Go.RowKit
attribute [local go_sem ↓] Go.wp_at_zero Go.wp_at_succ

/-- A part, plainly: At, More, Data. -/
abbrev Pt := Int × Bool × List Int
abbrev dP : Pt := (0, false, [])
/-- A row of parts that is read, with its data: all blocks lie below B. -/
def PRow (w : World) (B : Nat) (A : Option Addr) (L : List Pt) : Prop :=
  0 < L.length → ∃ b o, A = some ⟨b, o, none⟩ ∧ b < B ∧ ∀ i, i < L.length → ∃ (a : Option Addr) (c : Nat), w.cell? ⟨b, o + i * 3, none⟩ = some (.int .i64 (L.getD i dP).1) ∧ w.cell? ⟨b, o + i * 3 + 1, none⟩ = some (.bool (L.getD i dP).2.1) ∧
    w.cell? ⟨b, o + i * 3 + 2, none⟩ = some (.slice a (L.getD i dP).2.2.length c) ∧ Row .i64 w B a (L.getD i dP).2.2 ∧ (L.getD i dP).2.2.length ≤ c ∧ c ≤ 9223372036854775807
section
variable {w w' : World} {B B' : Nat} {A : Option Addr} {L : List Pt}
theorem PRow.nil_ : PRow w B A [] := fun h => absurd h (by simp)
theorem PRow.keep (h : PRow w B A L) (hc : ∀ b o, b < B → w'.cell? ⟨b, o, none⟩ = w.cell? ⟨b, o, none⟩) : PRow w' B A L := fun h0 => by
  obtain ⟨b, o, e, hb, hi⟩ := h h0
  refine ⟨b, o, e, hb, fun i hil => ?_⟩
  obtain ⟨a, c, h1, h2, h3, h4, h5, h6⟩ := hi i hil
  exact ⟨a, c, (hc b _ hb).trans h1, (hc b _ hb).trans h2, (hc b _ hb).trans h3, h4.keep hc, h5, h6⟩
theorem PRow.more (h : PRow w B A L) (hB : B ≤ B') : PRow w B' A L := fun h0 => by
  obtain ⟨b, o, e, hb, hi⟩ := h h0
  refine ⟨b, o, e, by omega, fun i hil => ?_⟩
  obtain ⟨a, c, h1, h2, h3, h4, h5, h6⟩ := hi i hil
  exact ⟨a, c, h1, h2, h3, h4.more hB, h5, h6⟩
theorem PRow.below (h : PRow w B A L) (hb : Below B w w') : PRow w' B A L := h.keep fun b o hlt => hb.cell (p := ⟨b, o, none⟩) hlt
theorem PRow.on (h : PRow w w.heap.size A L) (hb : Below w.heap.size w w') : PRow w' w'.heap.size A L := (h.below hb).more hb.size
theorem getD_takeP {k i : Nat} (h : i < k) : (L.take k).getD i dP = L.getD i dP := by simp [List.getD_eq_getElem?_getD, h]
theorem PRow.take (h : PRow w B A L) (k : Nat) : PRow w B A (L.take k) := fun h0 => by
  have hlen : (L.take k).length = min k L.length := by simp
  obtain ⟨b, o, e, hb, hi⟩ := h (by omega)
  refine ⟨b, o, e, hb, fun i hil => ?_⟩
  rw [getD_takeP (by omega)]
  exact hi i (by omega)
end

/-- A part is valid. Not reducible. -/
def goodP (p : Pt) : Bool := inR p.1 0 11 && (inR p.2.2.length 1 (12 - p.1) && areW p.2.2)
def validP (L : List Pt) : Bool := L.all goodP && decide (L.length ≤ 6)
section
variable {L : List Pt} {i : Nat}
theorem getP_mem (hi : i < L.length) : L.getD i dP ∈ L := by rw [List.getD_eq_getElem?_getD, List.getElem?_eq_getElem hi]; exact List.getElem_mem _
theorem validP_no (hi : i < L.length) (h : goodP (L.getD i dP) = false) : validP L = false := by
  rw [← Bool.not_eq_true]
  intro ha
  simp only [validP, Bool.and_eq_true] at ha
  have := List.all_eq_true.1 ha.1 _ (getP_mem hi)
  rw [h] at this; cases this
theorem validP_end (h : ∀ i, i < L.length → goodP (L.getD i dP) = true) : validP L = decide (L.length ≤ 6) := by
  have : L.all goodP = true := List.all_eq_true.2 fun p hp => by
    obtain ⟨k, hk, rfl⟩ := List.getElem_of_mem hp
    have := h k hk
    rwa [List.getD_eq_getElem?_getD, List.getElem?_eq_getElem hk] at this
  simp [validP, this]
end
theorem goodP_no1 {t : Int} {m : Bool} {xs : List Int} (h : inR t 0 11 = false) : goodP (t, m, xs) = false := by simp [goodP, h]
theorem goodP_no2 {t : Int} {m : Bool} {xs : List Int} (h : inR xs.length 1 (12 - t) = false) : goodP (t, m, xs) = false := by simp [goodP, h]
theorem goodP_yes {t : Int} {m : Bool} {xs : List Int} (h : inR t 0 11 = true) (h' : inR xs.length 1 (12 - t) = true) : goodP (t, m, xs) = areW xs := by simp [goodP, h, h']

set_option maxHeartbeats 3200000 in
theorem ValidParts_any (A : Option Addr) (n c : Nat) (L : List Pt) (w : World) (hn : L.length = n) (hm : n ≤ 9223372036854775807) (hr : PRow w w.heap.size A L) :
    Calls Try.prog 29 #[.slice A n c] w fun e w' => e = .returned (.bool (validP L)) ∧ Below w.heap.size w w' := by
  go_enter Try.func29, Try.ntmps29
  go_wp2
  go_loopw [7] (fun i wr => ∃ k : Nat, k ≤ n ∧ i = .int .i64 k ∧ Below w.heap.size w wr ∧ ∀ j, j < k → goodP (L.getD j dP) = true) (fun i _ => n - (intOf i).toNat)
  case atStart => exact ⟨0, Nat.zero_le _, rfl, Below.refl _ _, fun j hj => absurd hj (by omega)⟩
  case round =>
    obtain ⟨k, hk, rfl, hB, hgood⟩ := hrel
    have BB := Lib.hid hB
    have GG := Lib.hid hgood
    clear hB hgood
    by_cases hlt : k < n
    · obtain ⟨b, o, rfl, hbl, hc⟩ := hr (by omega)
      obtain ⟨a', c', q0, q1, q2, hrow, hlc, hcm⟩ := hc k (by omega)
      obtain ⟨⟨t, m, xs⟩, hx⟩ : ∃ q, q = L.getD k dP := ⟨_, rfl⟩
      rw [← hx] at q0 q1 q2 hrow hlc
      simp only at q0 q1 q2 hrow hlc
      have HX := Lib.hid hx
      have c0 := (BB.out.cell (p := ⟨b, o + k * 3, none⟩) hbl).trans q0
      have c1 := (BB.out.cell (p := ⟨b, o + k * 3 + 1, none⟩) hbl).trans q1
      have c2 := (BB.out.cell (p := ⟨b, o + k * 3 + 2, none⟩) hbl).trans q2
      have B2 := Lib.hid (next BB.out ((Below.refl wr.heap.size wr).alloc (Nat.le_refl _) (.cells #[.int .i64 t, .bool m, .slice a' xs.length c'] 41)))
      have hrow2 := Lib.hid (hrow.below B2.out)
      obtain ⟨len, hlen⟩ : ∃ len, len = xs.length := ⟨_, rfl⟩
      have HL := Lib.hid hlen
      rw [← hlen] at c2 hlc
      have l1 : (k : Int) < (n : Int) := by omega
      have l2 : (0 : Int) ≤ (k : Int) := by omega
      clear hc hx q0 q1 q2 hrow hlen
      cases h1 : inR t 0 11
      · have HV := Lib.hid (validP_no (L := L) (i := k) (by omega) (by rw [← HX.out]; exact goodP_no1 h1))
        have H1 := Lib.hid h1
        clear h1
        go_wp2_with fail
        refine (in_any t 0 11 _).mono ?_
        rintro e w' ⟨rfl, rfl⟩
        rw [H1.out]
        rw [← HL.out] at B2
        go_wp2
        go_ret
        exact ⟨ret_bool HV.out.symm, B2.out⟩
      have H1 := Lib.hid h1
      have ⟨t0, t9⟩ := inR_iff.1 h1
      clear h1
      go_wp2_with fail
      refine (in_any t 0 11 _).mono ?_
      rintro e w' ⟨rfl, rfl⟩
      rw [H1.out]
      rw [← HL.out] at B2 hrow2
      cases h2 : inR (len : Int) 1 (12 - t)
      · have HV := Lib.hid (validP_no (L := L) (i := k) (by omega) (by rw [← HX.out]; exact goodP_no2 (by rw [← HL.out]; exact h2)))
        have H2 := Lib.hid h2
        clear h2
        go_wp2_with fail
        refine (in_any _ 1 (12 - t) _).mono ?_
        rintro e w' ⟨rfl, rfl⟩
        rw [H2.out]
        go_wp2
        go_ret
        exact ⟨ret_bool HV.out.symm, B2.out⟩
      have H2 := Lib.hid h2
      clear h2
      go_wp2_with fail
      refine (in_any _ 1 (12 - t) _).mono ?_
      rintro e w' ⟨rfl, rfl⟩
      rw [H2.out]
      go_wp2_with fail
      refine (areWords_any a' len c' _ xs _ HL.out.symm (by omega) hrow2.out).mono ?_
      rintro e w' ⟨rfl, rfl⟩
      cases h3 : areW xs
      · have HV := Lib.hid (validP_no (L := L) (i := k) (by omega) (by rw [← HX.out, goodP_yes H1.out (by rw [← HL.out]; exact H2.out)]; exact h3))
        clear h3
        go_wp2
        go_ret
        exact ⟨ret_bool HV.out.symm, B2.out⟩
      · have HG : Hid (∀ j, j < k + 1 → goodP (L.getD j dP) = true) := Lib.hid fun j hj => by
          rcases Nat.lt_or_eq_of_le (Nat.lt_succ_iff.1 hj) with h | rfl
          · exact GG.out j h
          · rw [← HX.out, goodP_yes H1.out (by rw [← HL.out]; exact H2.out)]; exact h3
        clear h3
        go_wp2
        go_roundw
        case rel => exact ⟨k + 1, by omega, by go_num, B2.out, HG.out⟩
        case measure => simp [intOf]; omega
    · have HE := Lib.hid (validP_end (L := L) fun i hi => GG.out i (by omega))
      by_cases h10 : n ≤ 6
      · have h11 : (n : Int) ≤ 6 := by omega
        go_wp2
        go_ret
        exact ⟨ret_bool (by rw [HE.out, hn]; simp [h10]), BB.out⟩
      · have h11 : ¬ (n : Int) ≤ 6 := by omega
        go_wp2
        go_ret
        exact ⟨ret_bool (by rw [HE.out, hn]; simp [h10]), BB.out⟩

set_option maxHeartbeats 1600000 in
theorem specvalidPart_any (t : Int) (m : Bool) (a : Option Addr) (len c : Nat) (xs : List Int) (w : World) (hn : xs.length = len) (hm : len ≤ 9223372036854775807) (hr : Row .i64 w w.heap.size a xs) :
    Calls Try.prog 64 #[.agg #[.int .i64 t, .bool m, .slice a len c]] w fun e w' => e = .returned (.bool (goodP (t, m, xs))) ∧ Below w.heap.size w w' := by
  have hb := (Below.refl w.heap.size w).alloc (Nat.le_refl _) (.cells #[.int .i64 t, .bool m, .slice a len c] 41)
  have HB := Lib.hid hb
  have hr1 := hr.on hb
  have HN := Lib.hid hn
  clear hb hr hn
  cases h1 : inR t 0 11
  · have HV := Lib.hid (goodP_no1 (m := m) (xs := xs) h1)
    have H1 := Lib.hid h1
    clear h1
    go_enter Try.func64, Try.ntmps64
    go_wp2_with fail
    refine (inRange_any t 0 11 _).mono ?_
    rintro e w' ⟨rfl, rfl⟩
    rw [H1.out]
    go_wp2
    go_ret
    exact ⟨ret_bool HV.out.symm, HB.out⟩
  have H1 := Lib.hid h1
  have ⟨t0, t9⟩ := inR_iff.1 h1
  clear h1
  cases h2 : inR (len : Int) 1 (12 - t)
  · have HV := Lib.hid (goodP_no2 (t := t) (m := m) (xs := xs) (by rw [HN.out]; exact h2))
    have H2 := Lib.hid h2
    clear h2
    go_enter Try.func64, Try.ntmps64
    go_wp2_with fail
    refine (inRange_any t 0 11 _).mono ?_
    rintro e w' ⟨rfl, rfl⟩
    rw [H1.out]
    go_wp2_with fail
    refine (inRange_any _ 1 (12 - t) _).mono ?_
    rintro e w' ⟨rfl, rfl⟩
    rw [H2.out]
    go_wp2
    go_ret
    exact ⟨ret_bool HV.out.symm, HB.out⟩
  have HV := Lib.hid (goodP_yes (t := t) (m := m) (xs := xs) H1.out (by rw [HN.out]; exact h2))
  have H2 := Lib.hid h2
  clear h2
  go_enter Try.func64, Try.ntmps64
  go_wp2_with fail
  refine (inRange_any t 0 11 _).mono ?_
  rintro e w' ⟨rfl, rfl⟩
  rw [H1.out]
  go_wp2_with fail
  refine (inRange_any _ 1 (12 - t) _).mono ?_
  rintro e w' ⟨rfl, rfl⟩
  rw [H2.out]
  go_wp2_with fail
  refine (allIn_any a len c _ xs 0 65535 _ HN.out hm hr1).mono ?_
  rintro e w' ⟨rfl, rfl⟩
  go_wp2
  go_ret
  exact ⟨ret_bool (by rw [HV.out]; rfl), HB.out⟩

set_option maxHeartbeats 1600000 in
theorem specvalidParts_any (A : Option Addr) (n c : Nat) (L : List Pt) (w : World) (hn : L.length = n) (hm : n ≤ 9223372036854775807) (hr : PRow w w.heap.size A L) :
    Calls Try.prog 38 #[.slice A n c] w fun e w' => e = .returned (.bool (validP L)) ∧ Below w.heap.size w w' := by
  go_enter Try.func38, Try.ntmps38
  go_wp2
  go_loopw [3] (fun i wr => ∃ k : Nat, k ≤ n ∧ i = .int .i64 k ∧ Below w.heap.size w wr ∧ ∀ j, j < k → goodP (L.getD j dP) = true) (fun i _ => n - (intOf i).toNat)
  case atStart => exact ⟨0, Nat.zero_le _, rfl, Below.refl _ _, fun j hj => absurd hj (by omega)⟩
  case round =>
    obtain ⟨k, hk, rfl, hB, hgood⟩ := hrel
    have BB := Lib.hid hB
    have GG := Lib.hid hgood
    clear hB hgood
    by_cases hlt : k < n
    · obtain ⟨b, o, rfl, hbl, hc⟩ := hr (by omega)
      obtain ⟨a', c', q0, q1, q2, hrow, hlc, hcm⟩ := hc k (by omega)
      obtain ⟨⟨t, m, xs⟩, hx⟩ : ∃ q, q = L.getD k dP := ⟨_, rfl⟩
      rw [← hx] at q0 q1 q2 hrow hlc
      simp only at q0 q1 q2 hrow hlc
      have HX := Lib.hid hx
      have c0 := (BB.out.cell (p := ⟨b, o + k * 3, none⟩) hbl).trans q0
      have c1 := (BB.out.cell (p := ⟨b, o + k * 3 + 1, none⟩) hbl).trans q1
      have c2 := (BB.out.cell (p := ⟨b, o + k * 3 + 2, none⟩) hbl).trans q2
      have hrow2 := Lib.hid ((hrow.below BB.out).more BB.out.size)
      have l1 : (k : Int) < (n : Int) := by omega
      have l2 : (0 : Int) ≤ (k : Int) := by omega
      clear hc hx q0 q1 q2 hrow
      go_wp2_with fail
      refine (specvalidPart_any t m a' xs.length c' xs _ rfl (by omega) hrow2.out).mono ?_
      rintro e w2 ⟨rfl, b2⟩
      have B2 := Lib.hid (next BB.out b2)
      clear b2 c0 c1 c2
      cases h1 : goodP (t, m, xs)
      · have HV := Lib.hid (validP_no (L := L) (i := k) (by omega) (by rw [← HX.out]; exact h1))
        clear h1
        go_wp2
        go_ret
        exact ⟨ret_bool HV.out.symm, B2.out⟩
      · have HG : Hid (∀ j, j < k + 1 → goodP (L.getD j dP) = true) := Lib.hid fun j hj => by
          rcases Nat.lt_or_eq_of_le (Nat.lt_succ_iff.1 hj) with h | rfl
          · exact GG.out j h
          · rw [← HX.out]; exact h1
        clear h1
        go_wp2
        go_roundw
        case rel => exact ⟨k + 1, by omega, by go_num, B2.out, HG.out⟩
        case measure => simp [intOf]; omega
    · have HE := Lib.hid (validP_end (L := L) fun i hi => GG.out i (by omega))
      by_cases h10 : n ≤ 6
      · have h11 : (n : Int) ≤ 6 := by omega
        go_wp2
        go_ret
        exact ⟨ret_bool (by rw [HE.out, hn]; simp [h10]), BB.out⟩
      · have h11 : ¬ (n : Int) ≤ 6 := by omega
        go_wp2
        go_ret
        exact ⟨ret_bool (by rw [HE.out, hn]; simp [h10]), BB.out⟩

set_option maxHeartbeats 400000 in
theorem specValidParts_any (A : Option Addr) (n c : Nat) (L : List Pt) (w : World) (hn : L.length = n) (hm : n ≤ 9223372036854775807) (hr : PRow w w.heap.size A L) :
    Calls Try.prog 30 #[.slice A n c] w fun e w' => e = .returned (.bool (validP L)) ∧ Below w.heap.size w w' := by
  go_enter Try.func30, Try.ntmps30
  go_wp2_with fail
  refine (specvalidParts_any A n c L _ hn hm hr).mono ?_
  rintro e w1 ⟨rfl, b1⟩
  go_wp2
  go_ret
  exact ⟨rfl, b1⟩
end Go.Proofs.Ytabapkbfolncoaa
