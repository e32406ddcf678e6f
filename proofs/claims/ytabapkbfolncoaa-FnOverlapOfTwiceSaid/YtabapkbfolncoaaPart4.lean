/-
  OverlapOf, of the program and of the reference: what it returns, for all lists.
-/
import Derived.Test.YtabapkbfolncoaaPart1
namespace Go.Proofs.Ytabapkbfolncoaa
open Go.RowKit
attribute [local go_sem ↓] Go.wp_at_zero Go.wp_at_succ

/-- Two parts have a place in common. Not reducible. -/
def meetP (p q : Pt) : Bool := decide (p.1 < q.1 + (q.2.2.length : Int)) && decide (q.1 < p.1 + (p.2.2.length : Int))
def hitP (L : List Pt) (i : Nat) : Bool := (L.take i).any fun q => meetP (L.getD i dP) q
/-- The first part with a place in common with one before it, or -1. Not reducible. -/
def overL (L : List Pt) : Int := if (List.range L.length).any (hitP L) then ((List.range L.length).findIdx (hitP L) : Int) else -1
def overOf (L : List Pt) : Int := if validP L then overL L else -1
section
variable {L : List Pt} {k : Nat}
theorem overL_at (hk : k < L.length) (h : hitP L k = true) (hno : ∀ j, j < k → hitP L j = false) : overL L = k := by
  have ha : (List.range L.length).any (hitP L) = true := List.any_eq_true.2 ⟨k, List.mem_range.2 hk, h⟩
  unfold overL
  rw [ha, if_pos rfl, (List.findIdx_eq (i := k) (by simpa using hk)).2 ⟨by simpa using h, fun j hj => by simpa using hno j hj⟩]
theorem overL_none (h : ∀ j, j < L.length → hitP L j = false) : overL L = -1 := by
  have ha : (List.range L.length).any (hitP L) = false := by
    rw [← Bool.not_eq_true]
    intro ha
    obtain ⟨i, hi, he⟩ := List.any_eq_true.1 ha
    rw [h i (List.mem_range.1 hi)] at he; cases he
  unfold overL; rw [ha]; rfl
theorem hitP_at {l : Nat} (hk : k < L.length) (hl : l < k) (h : meetP (L.getD k dP) (L.getD l dP) = true) : hitP L k = true := by
  refine List.any_eq_true.2 ⟨L.getD l dP, ?_, h⟩
  rw [← getD_takeP hl]
  exact getP_mem (by rw [List.length_take]; omega)
theorem hitP_none (h : ∀ l, l < k → l < L.length → meetP (L.getD k dP) (L.getD l dP) = false) : hitP L k = false := by
  rw [← Bool.not_eq_true]
  intro ha
  obtain ⟨q, hq, he⟩ := List.any_eq_true.1 ha
  obtain ⟨l, hl, rfl⟩ := List.getElem_of_mem hq
  have hl' := hl
  rw [List.length_take] at hl'
  have h1 := h l (by omega) (by omega)
  have e : L.getD l dP = (L.take k)[l] := by
    rw [← getD_takeP (show l < k by omega), List.getD_eq_getElem?_getD, List.getElem?_eq_getElem hl]; rfl
  rw [e, he] at h1; cases h1
theorem validP_get (h : validP L = true) {i : Nat} (hi : i < L.length) : goodP (L.getD i dP) = true := by
  simp only [validP, Bool.and_eq_true] at h
  exact List.all_eq_true.1 h.1 _ (getP_mem hi)
theorem goodP_range {t : Int} {m : Bool} {xs : List Int} (h : goodP (t, m, xs) = true) : (0 ≤ t ∧ t ≤ 11) ∧ 1 ≤ xs.length ∧ t + (xs.length : Int) ≤ 12 := by
  simp only [goodP, Bool.and_eq_true] at h
  have h1 := inR_iff.1 h.1
  have h2 := inR_iff.1 h.2.1
  omega
end

set_option maxHeartbeats 400000 in
theorem partEnd_any (t : Int) (m : Bool) (a : Option Addr) (len c : Nat) (w : World) (h0 : 0 ≤ t) (h1 : t ≤ 100) (h2 : len ≤ 1048576) :
    Calls Try.prog 56 #[.agg #[.int .i64 t, .bool m, .slice a len c]] w fun e w' => e = .returned (.int .i64 (t + (len : Int))) ∧ Below w.heap.size w w' := by
  have HB := Lib.hid ((Below.refl w.heap.size w).alloc (Nat.le_refl _) (.cells #[.int .i64 t, .bool m, .slice a len c] 41))
  go_enter Try.func56, Try.ntmps56
  go_wp2
  go_ret
  exact ⟨rfl, HB.out⟩

set_option maxHeartbeats 3200000 in
theorem overlap_any (A : Option Addr) (n c : Nat) (L : List Pt) (w : World) (hn : L.length = n) (hnc : n ≤ c) (hm : c ≤ 9223372036854775807) (hv : validP L = true) (hr : PRow w w.heap.size A L) :
    Calls Try.prog 41 #[.slice A n c] w fun e w' => e = .returned (.int .i64 (overL L)) ∧ Below w.heap.size w w' := by
  have VV := Lib.hid hv
  clear hv
  go_enter Try.func41, Try.ntmps41
  go_wp2
  go_loopw [9] (fun i wr => ∃ k : Nat, k ≤ n ∧ i = .int .i64 k ∧ Below w.heap.size w wr ∧ ∀ j, j < k → hitP L j = false) (fun i _ => n - (intOf i).toNat)
  case atStart => exact ⟨0, Nat.zero_le _, rfl, Below.refl _ _, fun j hj => absurd hj (by omega)⟩
  case round =>
    obtain ⟨k, hk, rfl, hB, hno⟩ := hrel
    obtain ⟨wo, rfl⟩ : ∃ wo : World, wo = wr := ⟨_, rfl⟩
    have BB := Lib.hid hB
    have NN := Lib.hid hno
    clear hB hno
    by_cases hlt : k < n
    · obtain ⟨b, o, rfl, hbl, hc⟩ := hr (by omega)
      have HC := Lib.hid hc
      obtain ⟨a', c', q0, q1, q2, hrow, hlc, hcm⟩ := hc k (by omega)
      have hg := validP_get VV.out (i := k) (by omega)
      obtain ⟨⟨t, m, xs⟩, hx⟩ : ∃ q, q = L.getD k dP := ⟨_, rfl⟩
      rw [← hx] at q0 q1 q2 hrow hlc hg
      simp only at q0 q1 q2 hrow hlc
      have HX := Lib.hid hx
      obtain ⟨⟨t0, t9⟩, x1, x2⟩ := goodP_range hg
      obtain ⟨len, hlen⟩ : ∃ len, len = xs.length := ⟨_, rfl⟩
      have HL := Lib.hid hlen
      rw [← hlen] at q2 x1 x2
      have c0 := (BB.out.cell (p := ⟨b, o + k * 3, none⟩) hbl).trans q0
      have c1 := (BB.out.cell (p := ⟨b, o + k * 3 + 1, none⟩) hbl).trans q1
      have c2 := (BB.out.cell (p := ⟨b, o + k * 3 + 2, none⟩) hbl).trans q2
      have l1 : (k : Int) < (n : Int) := by omega
      have l2 : (0 : Int) ≤ (k : Int) := by omega
      have l3 : (k : Int) ≤ (c : Int) := by omega
      clear hc hx q0 q1 q2 hrow hlen hg
      have K1 := Lib.hid (Box.new_at wo wo.heap.size rfl 41 #[.int .i64 t, .bool m, .slice a' len c'] (by simp [maxLen]))
      have B1 := Lib.hid (next BB.out ((Below.refl wo.heap.size wo).alloc (Nat.le_refl _) (.cells #[.int .i64 t, .bool m, .slice a' len c'] 41)))
      go_wp2
      go_loopw [18] (fun i wr => ∃ l : Nat, l ≤ k ∧ i = .int .i64 l ∧ Box wr wo.heap.size wo.heap.size [.int .i64 t, .bool m, .slice a' len c'] ∧ Below w.heap.size w wr ∧ ∀ j, j < l → meetP (L.getD k dP) (L.getD j dP) = false) (fun i _ => k - (intOf i).toNat)
      case atStart => exact ⟨0, Nat.zero_le _, rfl, K1.out, B1.out, fun j hj => absurd hj (by omega)⟩
      case round =>
        obtain ⟨l, hl, rfl, hK, hB, hno'⟩ := hrel
        have B3 := Lib.hid hB
        have K3 := Lib.hid hK
        have N3 := Lib.hid hno'
        clear hB hno' B1 hK K1 c0 c1 c2
        by_cases hll : l < k
        · obtain ⟨a'', c'', q0, q1, q2, -, hlc', hcm'⟩ := HC.out l (by omega)
          have hg' := validP_get VV.out (i := l) (by omega)
          obtain ⟨⟨t', m', xs'⟩, hx'⟩ : ∃ q, q = L.getD l dP := ⟨_, rfl⟩
          rw [← hx'] at q0 q1 q2 hg' hlc'
          simp only at q0 q1 q2 hlc'
          have HX' := Lib.hid hx'
          obtain ⟨⟨t0', t9'⟩, x1', x2'⟩ := goodP_range hg'
          obtain ⟨len', hlen'⟩ : ∃ len', len' = xs'.length := ⟨_, rfl⟩
          have HL' := Lib.hid hlen'
          rw [← hlen'] at q2 x1' x2'
          have d0 := (B3.out.cell (p := ⟨b, o + l * 3, none⟩) hbl).trans q0
          have d1 := (B3.out.cell (p := ⟨b, o + l * 3 + 1, none⟩) hbl).trans q1
          have d2 := (B3.out.cell (p := ⟨b, o + l * 3 + 2, none⟩) hbl).trans q2
          have m1 : (l : Int) < (k : Int) := by omega
          have m2 : (0 : Int) ≤ (l : Int) := by omega
          clear hx' q0 q1 q2 hlen' hg'
          have HM : Hid (meetP (L.getD k dP) (L.getD l dP) = (decide (t < t' + (len' : Int)) && decide (t' < t + (len : Int)))) := Lib.hid (by rw [← HX.out, ← HX'.out, HL.out, HL'.out]; rfl)
          have hb4 := (Below.refl wr.heap.size wr).alloc (Nat.le_refl _) (.cells #[.int .i64 t', .bool m', .slice a'' len' c''] 41)
          have B4 := Lib.hid (next B3.out hb4)
          have K4 := Lib.hid (K3.out.below hb4)
          have J4 := Lib.hid (Box.new_at wr wr.heap.size rfl 41 #[.int .i64 t', .bool m', .slice a'' len' c''] (by simp [maxLen]))
          clear hb4
          obtain ⟨S, f, hne, HF, HI⟩ := cls_of (Below (wr.alloc (.cells #[.int .i64 t', .bool m', .slice a'' len' c''] 41)).heap.size (wr.alloc (.cells #[.int .i64 t', .bool m', .slice a'' len' c''] 41))) (Below.refl _ _)
          have e1 := Lib.hid (fun z => cls_call (x := z) HI (fun w' k => next (HF.out z) k) (partEnd_any t' m' a'' len' c'' (f z) (by omega) (by omega) (by omega)))
          have e2 := Lib.hid (fun z => cls_call (x := z) HI (fun w' k => next (HF.out z) k) (partEnd_any t m a' len c' (f z) (by omega) (by omega) (by omega)))
          cases h1 : decide (t < t' + (len' : Int))
          · have HN : Hid (∀ j, j < l + 1 → meetP (L.getD k dP) (L.getD j dP) = false) := Lib.hid fun j hj => by
              rcases Nat.lt_or_eq_of_le (Nat.lt_succ_iff.1 hj) with h | rfl
              · exact N3.out j h
              · rw [HM.out, h1]; rfl
            go_wp2
            have k0 : ∀ z, (f z).cell? ⟨wo.heap.size, 0, none⟩ = some (.int .i64 t) := fun z => (K4.out.below (HF.out z)).at_ 0 rfl
            have k1 : ∀ z, (f z).cell? ⟨wo.heap.size, 1, none⟩ = some (.bool m) := fun z => (K4.out.below (HF.out z)).at_ 1 rfl
            have k2 : ∀ z, (f z).cell? ⟨wo.heap.size, 2, none⟩ = some (.slice a' len c') := fun z => (K4.out.below (HF.out z)).at_ 2 rfl
            have j0 : ∀ z, (f z).cell? ⟨wr.heap.size, 0, none⟩ = some (.int .i64 t') := fun z => (J4.out.below (HF.out z)).at_ 0 rfl
            have j1 : ∀ z, (f z).cell? ⟨wr.heap.size, 1, none⟩ = some (.bool m') := fun z => (J4.out.below (HF.out z)).at_ 1 rfl
            have j2 : ∀ z, (f z).cell? ⟨wr.heap.size, 2, none⟩ = some (.slice a'' len' c'') := fun z => (J4.out.below (HF.out z)).at_ 2 rfl
            clear d0 d1 d2
            refine wp_region_cls f (by kernel_rfl) (by kernel_rfl) (HI.out _ (Below.refl _ _).drew) ?_
            repeat (go_big_quiet_step ((first | (go_at_call 56; with_reducible exact e1.out _))))
            refine wpQuiet_nil ?_
            rintro _ ⟨z, rfl⟩
            have b5 := HF.out z
            have B5 := Lib.hid (next B4.out b5)
            have K5 := Lib.hid (K4.out.below b5)
            clear k0 k1 k2 j0 j1 j2 b5 h1 K4 J4 K3
            go_wp2
            go_roundw
            case rel => exact ⟨l + 1, by omega, by go_num, K5.out, B5.out, HN.out⟩
            case measure => simp [intOf]; omega
          · cases h2 : decide (t' < t + (len : Int))
            · have HN : Hid (∀ j, j < l + 1 → meetP (L.getD k dP) (L.getD j dP) = false) := Lib.hid fun j hj => by
                rcases Nat.lt_or_eq_of_le (Nat.lt_succ_iff.1 hj) with h | rfl
                · exact N3.out j h
                · rw [HM.out, h1, h2]; rfl
              go_wp2
              have k0 : ∀ z, (f z).cell? ⟨wo.heap.size, 0, none⟩ = some (.int .i64 t) := fun z => (K4.out.below (HF.out z)).at_ 0 rfl
              have k1 : ∀ z, (f z).cell? ⟨wo.heap.size, 1, none⟩ = some (.bool m) := fun z => (K4.out.below (HF.out z)).at_ 1 rfl
              have k2 : ∀ z, (f z).cell? ⟨wo.heap.size, 2, none⟩ = some (.slice a' len c') := fun z => (K4.out.below (HF.out z)).at_ 2 rfl
              have j0 : ∀ z, (f z).cell? ⟨wr.heap.size, 0, none⟩ = some (.int .i64 t') := fun z => (J4.out.below (HF.out z)).at_ 0 rfl
              have j1 : ∀ z, (f z).cell? ⟨wr.heap.size, 1, none⟩ = some (.bool m') := fun z => (J4.out.below (HF.out z)).at_ 1 rfl
              have j2 : ∀ z, (f z).cell? ⟨wr.heap.size, 2, none⟩ = some (.slice a'' len' c'') := fun z => (J4.out.below (HF.out z)).at_ 2 rfl
              clear d0 d1 d2
              refine wp_region_cls f (by kernel_rfl) (by kernel_rfl) (HI.out _ (Below.refl _ _).drew) ?_
              repeat (go_big_quiet_step ((first | (go_at_call 56; with_reducible exact e1.out _) | (go_at_call 56; with_reducible exact e2.out _))))
              refine wpQuiet_nil ?_
              rintro _ ⟨z, rfl⟩
              have b5 := HF.out z
              have B5 := Lib.hid (next B4.out b5)
              have K5 := Lib.hid (K4.out.below b5)
              clear k0 k1 k2 j0 j1 j2 b5 h1 h2 K4 J4 K3
              go_wp2
              go_roundw
              case rel => exact ⟨l + 1, by omega, by go_num, K5.out, B5.out, HN.out⟩
              case measure => simp [intOf]; omega
            · have HH := Lib.hid (overL_at (L := L) (k := k) (by omega) (hitP_at (by omega) hll (by rw [HM.out, h1, h2]; rfl)) NN.out)
              go_wp2
              have k0 : ∀ z, (f z).cell? ⟨wo.heap.size, 0, none⟩ = some (.int .i64 t) := fun z => (K4.out.below (HF.out z)).at_ 0 rfl
              have k1 : ∀ z, (f z).cell? ⟨wo.heap.size, 1, none⟩ = some (.bool m) := fun z => (K4.out.below (HF.out z)).at_ 1 rfl
              have k2 : ∀ z, (f z).cell? ⟨wo.heap.size, 2, none⟩ = some (.slice a' len c') := fun z => (K4.out.below (HF.out z)).at_ 2 rfl
              have j0 : ∀ z, (f z).cell? ⟨wr.heap.size, 0, none⟩ = some (.int .i64 t') := fun z => (J4.out.below (HF.out z)).at_ 0 rfl
              have j1 : ∀ z, (f z).cell? ⟨wr.heap.size, 1, none⟩ = some (.bool m') := fun z => (J4.out.below (HF.out z)).at_ 1 rfl
              have j2 : ∀ z, (f z).cell? ⟨wr.heap.size, 2, none⟩ = some (.slice a'' len' c'') := fun z => (J4.out.below (HF.out z)).at_ 2 rfl
              clear d0 d1 d2
              refine wp_region_cls f (by kernel_rfl) (by kernel_rfl) (HI.out _ (Below.refl _ _).drew) ?_
              repeat (go_big_quiet_step ((first | (go_at_call 56; with_reducible exact e1.out _) | (go_at_call 56; with_reducible exact e2.out _))))
              refine wpQuiet_nil ?_
              rintro _ ⟨z, rfl⟩
              have b5 := HF.out z
              have B5 := Lib.hid (next B4.out b5)
              clear k0 k1 k2 j0 j1 j2 b5 h1 h2 K4 J4 K3
              go_wp2
              go_ret
              exact ⟨ret_int HH.out.symm, B5.out⟩
        · have hlk : l = k := by omega
          have HG : Hid (∀ j, j < k + 1 → hitP L j = false) := Lib.hid fun j hj => by
            rcases Nat.lt_or_eq_of_le (Nat.lt_succ_iff.1 hj) with h | rfl
            · exact NN.out j h
            · exact hitP_none fun s hs _ => N3.out s (by omega)
          subst hlk
          go_wp2
          go_roundw
          case rel => exact ⟨l + 1, by omega, by go_num, B3.out, HG.out⟩
          case measure => simp [intOf]; omega
    · have HE := Lib.hid (overL_none (L := L) fun j hj => NN.out j (by omega))
      go_wp2
      go_ret
      exact ⟨ret_int HE.out.symm, BB.out⟩

set_option maxHeartbeats 800000 in
theorem OverlapOf_any (A : Option Addr) (n c : Nat) (L : List Pt) (w : World) (hn : L.length = n) (hnc : n ≤ c) (hm : c ≤ 9223372036854775807) (hr : PRow w w.heap.size A L) :
    Calls Try.prog 35 #[.slice A n c] w fun e w' => e = .returned (.int .i64 (overOf L)) ∧ Below w.heap.size w w' := by
  go_enter Try.func35, Try.ntmps35
  go_wp2_with fail
  refine (ValidParts_any A n c L _ hn (by omega) hr).mono ?_
  rintro e w1 ⟨rfl, b1⟩
  have hr1 := Lib.hid (hr.on b1)
  have B1 := Lib.hid b1
  clear b1 hr
  cases hv : validP L
  · have HO := Lib.hid (show overOf L = -1 by unfold overOf; rw [hv]; rfl)
    clear hv
    go_wp2
    go_ret
    exact ⟨ret_int HO.out.symm, B1.out⟩
  · have HO := Lib.hid (show overOf L = overL L by unfold overOf; rw [hv]; rfl)
    have HV := Lib.hid hv
    clear hv
    go_wp2_with fail
    refine (overlap_any A n c L _ hn hnc hm HV.out hr1.out).mono ?_
    rintro e w2 ⟨rfl, b2⟩
    have B2 := Lib.hid (next B1.out b2)
    clear b2
    go_wp2
    go_ret
    exact ⟨ret_int HO.out.symm, B2.out⟩

set_option maxHeartbeats 800000 in
theorem meet_any (t : Int) (m : Bool) (a : Option Addr) (len c : Nat) (t' : Int) (m' : Bool) (a' : Option Addr) (len' c' : Nat) (w : World) (h0 : 0 ≤ t) (h1 : t ≤ 100) (h2 : len ≤ 1048576) (h0' : 0 ≤ t') (h1' : t' ≤ 100) (h2' : len' ≤ 1048576) :
    Calls Try.prog 62 #[.agg #[.int .i64 t, .bool m, .slice a len c], .agg #[.int .i64 t', .bool m', .slice a' len' c']] w fun e w' => e = .returned (.bool (decide (t < t' + (len' : Int)) && decide (t' < t + (len : Int)))) ∧ Below w.heap.size w w' := by
  have HB := Lib.hid (((Below.refl w.heap.size w).alloc (Nat.le_refl _) (.cells #[.int .i64 t, .bool m, .slice a len c] 41)).alloc (by simp) (.cells #[.int .i64 t', .bool m', .slice a' len' c'] 41))
  by_cases hc : t < t' + (len' : Int)
  · have HC := Lib.hid (decide_eq_true hc)
    by_cases hd : t' < t + (len : Int)
    · have HD := Lib.hid (decide_eq_true hd)
      go_enter Try.func62, Try.ntmps62
      go_wp2
      go_ret
      exact ⟨ret_bool (by rw [HC.out, HD.out]; rfl), HB.out⟩
    · have HD := Lib.hid (decide_eq_false hd)
      go_enter Try.func62, Try.ntmps62
      go_wp2
      go_ret
      exact ⟨ret_bool (by rw [HD.out]), HB.out⟩
  · have HC := Lib.hid (decide_eq_false hc)
    go_enter Try.func62, Try.ntmps62
    go_wp2
    go_ret
    exact ⟨ret_bool (by rw [HC.out]; rfl), HB.out⟩

set_option maxHeartbeats 3200000 in
theorem specOverlapOf_any (A : Option Addr) (n c : Nat) (L : List Pt) (w : World) (hn : L.length = n) (hm : n ≤ 9223372036854775807) (hr : PRow w w.heap.size A L) :
    Calls Try.prog 36 #[.slice A n c] w fun e w' => e = .returned (.int .i64 (overOf L)) ∧ Below w.heap.size w w' := by
  go_enter Try.func36, Try.ntmps36
  go_wp2_with fail
  refine (specvalidParts_any A n c L _ hn hm hr).mono ?_
  rintro e w1 ⟨rfl, b1⟩
  have B1 := Lib.hid b1
  clear b1
  cases hv : validP L
  · have HO := Lib.hid (show overOf L = -1 by unfold overOf; rw [hv]; rfl)
    clear hv
    go_wp2
    go_ret
    exact ⟨ret_int HO.out.symm, B1.out⟩
  have HO := Lib.hid (show overOf L = overL L by unfold overOf; rw [hv]; rfl)
  have VV := Lib.hid hv
  clear hv
  go_wp2
  go_loopw [3] (fun i wr => ∃ k : Nat, k ≤ n ∧ i = .int .i64 k ∧ Below w.heap.size w wr ∧ ∀ j, j < k → hitP L j = false) (fun i _ => n - (intOf i).toNat)
  case atStart => exact ⟨0, Nat.zero_le _, rfl, B1.out, fun j hj => absurd hj (by omega)⟩
  case round =>
    obtain ⟨k, hk, rfl, hB, hno⟩ := hrel
    obtain ⟨wo, rfl⟩ : ∃ wo : World, wo = wr := ⟨_, rfl⟩
    have BB := Lib.hid hB
    have NN := Lib.hid hno
    clear hB hno B1
    by_cases hlt : k < n
    · obtain ⟨b, o, rfl, hbl, hc⟩ := hr (by omega)
      have HC := Lib.hid hc
      obtain ⟨a', c', q0, q1, q2, hrow, hlc, hcm⟩ := hc k (by omega)
      have hg := validP_get VV.out (i := k) (by omega)
      obtain ⟨⟨t, m, xs⟩, hx⟩ : ∃ q, q = L.getD k dP := ⟨_, rfl⟩
      rw [← hx] at q0 q1 q2 hrow hlc hg
      simp only at q0 q1 q2 hrow hlc
      have HX := Lib.hid hx
      obtain ⟨⟨t0, t9⟩, x1, x2⟩ := goodP_range hg
      obtain ⟨len, hlen⟩ : ∃ len, len = xs.length := ⟨_, rfl⟩
      have HL := Lib.hid hlen
      rw [← hlen] at q2 x1 x2
      have H0 := Lib.hid q0
      have H1 := Lib.hid q1
      have H2 := Lib.hid q2
      have l1 : (k : Int) < (n : Int) := by omega
      have l2 : (0 : Int) ≤ (k : Int) := by omega
      clear hc hx q0 q1 q2 hrow hlen hg
      go_wp2
      go_loopw [4] (fun i wr => ∃ l : Nat, l ≤ k ∧ i = .int .i64 l ∧ Below w.heap.size w wr ∧ ∀ j, j < l → meetP (L.getD k dP) (L.getD j dP) = false) (fun i _ => k - (intOf i).toNat)
      case atStart => exact ⟨0, Nat.zero_le _, rfl, BB.out, fun j hj => absurd hj (by omega)⟩
      case round =>
        obtain ⟨l, hl, rfl, hB, hno'⟩ := hrel
        have B3 := Lib.hid hB
        have N3 := Lib.hid hno'
        clear hB hno'
        by_cases hll : l < k
        · obtain ⟨a'', c'', q0, q1, q2, -, hlc', hcm'⟩ := HC.out l (by omega)
          have hg' := validP_get VV.out (i := l) (by omega)
          obtain ⟨⟨t', m', xs'⟩, hx'⟩ : ∃ q, q = L.getD l dP := ⟨_, rfl⟩
          rw [← hx'] at q0 q1 q2 hg' hlc'
          simp only at q0 q1 q2 hlc'
          have HX' := Lib.hid hx'
          obtain ⟨⟨t0', t9'⟩, x1', x2'⟩ := goodP_range hg'
          obtain ⟨len', hlen'⟩ : ∃ len', len' = xs'.length := ⟨_, rfl⟩
          have HL' := Lib.hid hlen'
          rw [← hlen'] at q2 x1' x2'
          have G0 := Lib.hid q0
          have G1 := Lib.hid q1
          have G2 := Lib.hid q2
          have m1 : (l : Int) < (k : Int) := by omega
          have m2 : (0 : Int) ≤ (l : Int) := by omega
          have m3 : (l : Int) < (n : Int) := by omega
          clear hx' q0 q1 q2 hlen' hg'
          have HM : Hid (meetP (L.getD k dP) (L.getD l dP) = (decide (t < t' + (len' : Int)) && decide (t' < t + (len : Int)))) := Lib.hid (by rw [← HX.out, ← HX'.out, HL.out, HL'.out]; rfl)
          obtain ⟨S, f, hne, HF, HI⟩ := cls_of (Below wr.heap.size wr) (Below.refl _ _)
          have k0 : ∀ z, (f z).cell? ⟨b, o + k * 3, none⟩ = some (.int .i64 t) := fun z => ((next B3.out (HF.out z)).cell (p := ⟨b, o + k * 3, none⟩) hbl).trans H0.out
          have k1 : ∀ z, (f z).cell? ⟨b, o + k * 3 + 1, none⟩ = some (.bool m) := fun z => ((next B3.out (HF.out z)).cell (p := ⟨b, o + k * 3 + 1, none⟩) hbl).trans H1.out
          have k2 : ∀ z, (f z).cell? ⟨b, o + k * 3 + 2, none⟩ = some (.slice a' len c') := fun z => ((next B3.out (HF.out z)).cell (p := ⟨b, o + k * 3 + 2, none⟩) hbl).trans H2.out
          have j0 : ∀ z, (f z).cell? ⟨b, o + l * 3, none⟩ = some (.int .i64 t') := fun z => ((next B3.out (HF.out z)).cell (p := ⟨b, o + l * 3, none⟩) hbl).trans G0.out
          have j1 : ∀ z, (f z).cell? ⟨b, o + l * 3 + 1, none⟩ = some (.bool m') := fun z => ((next B3.out (HF.out z)).cell (p := ⟨b, o + l * 3 + 1, none⟩) hbl).trans G1.out
          have j2 : ∀ z, (f z).cell? ⟨b, o + l * 3 + 2, none⟩ = some (.slice a'' len' c'') := fun z => ((next B3.out (HF.out z)).cell (p := ⟨b, o + l * 3 + 2, none⟩) hbl).trans G2.out
          have e1 := fun z => meet_any t m a' len c' t' m' a'' len' c'' (f z) (by omega) (by omega) (by omega) (by omega) (by omega) (by omega)
          cases hmt : (decide (t < t' + (len' : Int)) && decide (t' < t + (len : Int)))
          · have HN : Hid (∀ j, j < l + 1 → meetP (L.getD k dP) (L.getD j dP) = false) := Lib.hid fun j hj => by
              rcases Nat.lt_or_eq_of_le (Nat.lt_succ_iff.1 hj) with h | rfl
              · exact N3.out j h
              · rw [HM.out, hmt]
            have E1 := Lib.hid (fun z => cls_call (v := .bool false) (x := z) HI (fun w' k => next (HF.out z) k) ((e1 z).mono fun _ _ ⟨he, hy⟩ => ⟨by rw [he, hmt], hy⟩))
            clear e1 hmt
            go_wp2
            refine wp_region_cls f (by kernel_rfl) (by kernel_rfl) (HI.out _ (Below.refl _ _).drew) ?_
            repeat (go_big_quiet_step ((first | (go_at_call 62; with_reducible exact E1.out _))))
            refine wpQuiet_nil ?_
            rintro _ ⟨z, rfl⟩
            have b5 := HF.out z
            have B5 := Lib.hid (next B3.out b5)
            clear k0 k1 k2 j0 j1 j2 b5
            go_wp2
            go_roundw
            case rel => exact ⟨l + 1, by omega, by go_num, B5.out, HN.out⟩
            case measure => simp [intOf]; omega
          · have HH := Lib.hid (overL_at (L := L) (k := k) (by omega) (hitP_at (by omega) hll (by rw [HM.out, hmt])) NN.out)
            have E1 := Lib.hid (fun z => cls_call (v := .bool true) (x := z) HI (fun w' k => next (HF.out z) k) ((e1 z).mono fun _ _ ⟨he, hy⟩ => ⟨by rw [he, hmt], hy⟩))
            clear e1 hmt
            go_wp2
            refine wp_region_cls f (by kernel_rfl) (by kernel_rfl) (HI.out _ (Below.refl _ _).drew) ?_
            repeat (go_big_quiet_step ((first | (go_at_call 62; with_reducible exact E1.out _))))
            refine wpQuiet_nil ?_
            rintro _ ⟨z, rfl⟩
            have b5 := HF.out z
            have B5 := Lib.hid (next B3.out b5)
            clear k0 k1 k2 j0 j1 j2 b5
            go_wp2
            go_ret
            exact ⟨ret_int (by rw [HO.out, HH.out]), B5.out⟩
        · have hlk : l = k := by omega
          have HG : Hid (∀ j, j < k + 1 → hitP L j = false) := Lib.hid fun j hj => by
            rcases Nat.lt_or_eq_of_le (Nat.lt_succ_iff.1 hj) with h | rfl
            · exact NN.out j h
            · exact hitP_none fun s hs _ => N3.out s (by omega)
          subst hlk
          go_wp2
          go_roundw
          case rel => exact ⟨l + 1, by omega, by go_num, B3.out, HG.out⟩
          case measure => simp [intOf]; omega
    · have HE := Lib.hid (overL_none (L := L) fun j hj => NN.out j (by omega))
      go_wp2
      go_ret
      exact ⟨ret_int (by rw [HO.out, HE.out]), BB.out⟩
end Go.Proofs.Ytabapkbfolncoaa
