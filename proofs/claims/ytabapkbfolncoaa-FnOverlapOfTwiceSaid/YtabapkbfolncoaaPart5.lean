/-
  MissingFrom, of the program and of the reference: what it returns, for all lists.
-/
import Derived.Test.YtabapkbfolncoaaPart4
import Derived.Deep.LoopGhost
namespace Go.Proofs.Ytabapkbfolncoaa
open Go.RowKit
attribute [local go_sem ↓] Go.wp_at_zero Go.wp_at_succ

/-- A part has a place. Not reducible. -/
def covP (t : Int) (p : Pt) : Bool := inR t p.1 (p.1 + (p.2.2.length : Int) - 1)
def covL (L : List Pt) (t : Int) : Bool := L.any (covP t)
/-- The least place that no part has. Not reducible. -/
def missN (L : List Pt) : Nat := (List.range 13).findIdx fun (t : Nat) => !covL L (t : Int)
def missOf (L : List Pt) : Int := if validP L then (missN L : Int) else -1
section
variable {L : List Pt}
theorem covL_at {t : Int} {i : Nat} (hi : i < L.length) (h : covP t (L.getD i dP) = true) : covL L t = true := List.any_eq_true.2 ⟨_, getP_mem hi, h⟩
theorem covL_none {t : Int} (h : ∀ i, i < L.length → covP t (L.getD i dP) = false) : covL L t = false := by
  unfold covL
  rw [← Bool.not_eq_true]
  intro ha
  obtain ⟨p, hp, he⟩ := List.any_eq_true.1 ha
  obtain ⟨k, hk, rfl⟩ := List.getElem_of_mem hp
  have := h k hk
  rw [List.getD_eq_getElem?_getD, List.getElem?_eq_getElem hk, Option.getD_some, he] at this
  cases this
theorem covL_low (hv : validP L = true) {k : Nat} (h : covL L (k : Int) = true) : k ≤ 11 := by
  obtain ⟨p, hp, he⟩ := List.any_eq_true.1 h
  have hg : goodP p = true := by
    simp only [validP, Bool.and_eq_true] at hv
    exact List.all_eq_true.1 hv.1 p hp
  obtain ⟨t, m, xs⟩ := p
  have := goodP_range hg
  have h2 := inR_iff.1 he
  simp only at h2
  omega
theorem missN_at {k : Nat} (hk : k ≤ 12) (h : covL L (k : Int) = false) (hno : ∀ j : Nat, j < k → covL L (j : Int) = true) : missN L = k := by
  unfold missN
  refine (List.findIdx_eq (i := k) (by simp; omega)).2 ⟨?_, fun j hj => ?_⟩
  · simp [h]
  · simp [hno j hj]
end

set_option maxHeartbeats 1600000 in
theorem missing1_any (t : Int) (m : Bool) (a : Option Addr) (len c : Nat) (g : Nat) (k : Int) (w : World) (k0 : w.cell? ⟨g, 0, none⟩ = some (.int .i64 k)) (hg : g < w.heap.size) (h0 : 0 ≤ t) (h1 : t ≤ 100) (h2 : len ≤ 1048576) :
    Calls Try.prog 55 #[.agg #[.int .i64 t, .bool m, .slice a len c], .pointer (some ⟨g, 0, none⟩)] w fun e w' => e = .returned (.bool (inR k t (t + (len : Int) - 1))) ∧ Below w.heap.size w w' := by
  have hb := (Below.refl w.heap.size w).alloc (Nat.le_refl _) (.cells #[.int .i64 t, .bool m, .slice a len c] 41)
  have HB := Lib.hid hb
  have K := Lib.hid (Box.new_at w w.heap.size rfl 41 #[.int .i64 t, .bool m, .slice a len c] (by simp [maxLen]))
  have c9 := (hb.cell (p := ⟨g, 0, none⟩) hg).trans k0
  have hgs : g < (w.alloc (.cells #[.int .i64 t, .bool m, .slice a len c] 41)).heap.size := by simp; omega
  clear hb
  obtain ⟨S, f, hne, HF, HI⟩ := cls_of (Below (w.alloc (.cells #[.int .i64 t, .bool m, .slice a len c] 41)).heap.size (w.alloc (.cells #[.int .i64 t, .bool m, .slice a len c] 41))) (Below.refl _ _)
  have e1 := Lib.hid (fun z => cls_call (x := z) HI (fun w' k => next (HF.out z) k) (partEnd_any t m a len c (f z) h0 h1 h2))
  have e2 := Lib.hid (fun z => cls_same (x := z) (in_any k t (t + (len : Int) - 1) (f z)))
  have q0 : ∀ z, (f z).cell? ⟨w.heap.size, 0, none⟩ = some (.int .i64 t) := fun z => (K.out.below (HF.out z)).at_ 0 rfl
  have q1 : ∀ z, (f z).cell? ⟨w.heap.size, 1, none⟩ = some (.bool m) := fun z => (K.out.below (HF.out z)).at_ 1 rfl
  have q2 : ∀ z, (f z).cell? ⟨w.heap.size, 2, none⟩ = some (.slice a len c) := fun z => (K.out.below (HF.out z)).at_ 2 rfl
  have q3 : ∀ z, (f z).cell? ⟨g, 0, none⟩ = some (.int .i64 k) := fun z => ((HF.out z).cell (p := ⟨g, 0, none⟩) hgs).trans c9
  have w2 : IntKind.i64.wrap (t + (len : Int) - 1) = t + (len : Int) - 1 := wrap_in (by omega)
  clear c9 k0
  go_enter Try.func55, Try.ntmps55
  go_wp2
  refine wp_region_cls f (by kernel_rfl) (by kernel_rfl) (HI.out _ (Below.refl _ _).drew) ?_
  repeat (go_big_quiet_step ((first | (go_at_call 56; with_reducible exact e1.out _) | (go_at_call 50; with_reducible exact e2.out _))))
  refine wpQuiet_nil ?_
  rintro _ ⟨z, rfl⟩
  have b5 := HF.out z
  have B5 := Lib.hid (next HB.out b5)
  clear q0 q1 q2 q3 b5
  go_wp2
  go_ret
  exact ⟨rfl, B5.out⟩

/-- What slices.IndexFunc says. -/
def IdxP (w : World) (L : List Pt) (f : Pt → Bool) (e : Ending) (w' : World) : Prop := ∃ r : Int, e = .returned (.int .i64 r) ∧ decide (0 ≤ r) = L.any f ∧ Below w.heap.size w w'

set_option maxHeartbeats 1600000 in
theorem indexFuncP_any (A : Option Addr) (n c : Nat) (L : List Pt) (g : Nat) (fp : Pt → Bool) (w : World) (hn : L.length = n) (hm : n ≤ 9223372036854775807) (hr : PRow w w.heap.size A L)
    (hcl : ∀ (i : Nat) (t : Int) (m : Bool) (xs : List Int) (a : Option Addr) (c : Nat) (w' : World), i < L.length → (t, m, xs) = L.getD i dP → Below w.heap.size w w' → Calls Try.prog 55 #[.agg #[.int .i64 t, .bool m, .slice a xs.length c], .pointer (some ⟨g, 0, none⟩)] w' fun e w'' => e = .returned (.bool (fp (t, m, xs))) ∧ Below w'.heap.size w' w'') :
    Calls Try.prog 72 #[.slice A n c, .func (.func 55) #[] #[.pointer (some ⟨g, 0, none⟩)]] w (IdxP w L fp) := by
  have HC := Lib.hid hcl
  clear hcl
  go_enter Try.func72, Try.ntmps72
  go_wp2
  go_loopw [8] (fun i wr => ∃ k : Nat, k ≤ n ∧ i = .int .i64 k ∧ Below w.heap.size w wr ∧ ∀ j, j < k → fp (L.getD j dP) = false) (fun i _ => n - (intOf i).toNat)
  case atStart => exact ⟨0, Nat.zero_le _, rfl, Below.refl _ _, fun j hj => absurd hj (by omega)⟩
  case round =>
    obtain ⟨k, hk, rfl, hB, hno⟩ := hrel
    have BB := Lib.hid hB
    have NN := Lib.hid hno
    clear hB hno
    by_cases hlt : k < n
    · obtain ⟨b, o, rfl, hbl, hc⟩ := hr (by omega)
      obtain ⟨a', c', q0, q1, q2, -, hlc, hcm⟩ := hc k (by omega)
      obtain ⟨⟨t, m, xs⟩, hx⟩ : ∃ q, q = L.getD k dP := ⟨_, rfl⟩
      rw [← hx] at q0 q1 q2
      simp only at q0 q1 q2
      have HX := Lib.hid hx
      have c0 := (BB.out.cell (p := ⟨b, o + k * 3, none⟩) hbl).trans q0
      have c1 := (BB.out.cell (p := ⟨b, o + k * 3 + 1, none⟩) hbl).trans q1
      have c2 := (BB.out.cell (p := ⟨b, o + k * 3 + 2, none⟩) hbl).trans q2
      have l1 : (k : Int) < (n : Int) := by omega
      have l2 : (0 : Int) ≤ (k : Int) := by omega
      clear hc hx q0 q1 q2
      go_wp2_with fail
      refine (HC.out k t m xs a' c' _ (by omega) HX.out BB.out).mono ?_
      rintro e w2 ⟨rfl, b2⟩
      have B2 := Lib.hid (next BB.out b2)
      clear b2 c0 c1 c2
      cases he : fp (t, m, xs)
      · have HN : Hid (∀ j, j < k + 1 → fp (L.getD j dP) = false) := Lib.hid fun j hj => by
          rcases Nat.lt_or_eq_of_le (Nat.lt_succ_iff.1 hj) with h | rfl
          · exact NN.out j h
          · rw [← HX.out]; exact he
        clear he
        go_wp2
        go_roundw
        case rel => exact ⟨k + 1, by omega, by go_num, B2.out, HN.out⟩
        case measure => simp [intOf]; omega
      · have HE : Hid (L.any fp = true) := Lib.hid (List.any_eq_true.2 ⟨_, getP_mem (i := k) (by omega), by rw [← HX.out]; exact he⟩)
        clear he
        go_wp2
        go_ret
        exact ⟨k, rfl, by rw [HE.out]; simp, B2.out⟩
    · have HE : Hid (L.any fp = false) := Lib.hid (by
        rw [← Bool.not_eq_true]
        intro ha
        obtain ⟨p, hp, he⟩ := List.any_eq_true.1 ha
        obtain ⟨j, hj, rfl⟩ := List.getElem_of_mem hp
        have := NN.out j (by omega)
        rw [List.getD_eq_getElem?_getD, List.getElem?_eq_getElem hj, Option.getD_some, he] at this
        cases this)
      go_wp2
      go_ret
      exact ⟨-1, rfl, by rw [HE.out]; simp, BB.out⟩

set_option maxHeartbeats 800000 in
theorem containsFuncP_any (A : Option Addr) (n c : Nat) (L : List Pt) (g : Nat) (fp : Pt → Bool) (w : World) (hn : L.length = n) (hm : n ≤ 9223372036854775807) (hr : PRow w w.heap.size A L)
    (hcl : ∀ (i : Nat) (t : Int) (m : Bool) (xs : List Int) (a : Option Addr) (c : Nat) (w' : World), i < L.length → (t, m, xs) = L.getD i dP → Below w.heap.size w w' → Calls Try.prog 55 #[.agg #[.int .i64 t, .bool m, .slice a xs.length c], .pointer (some ⟨g, 0, none⟩)] w' fun e w'' => e = .returned (.bool (fp (t, m, xs))) ∧ Below w'.heap.size w' w'') :
    Calls Try.prog 54 #[.slice A n c, .func (.func 55) #[] #[.pointer (some ⟨g, 0, none⟩)]] w fun e w' => e = .returned (.bool (L.any fp)) ∧ Below w.heap.size w w' := by
  have HC := Lib.hid hcl
  clear hcl
  go_enter Try.func54, Try.ntmps54
  go_wp2_with fail
  refine (indexFuncP_any A n c L g fp _ hn hm hr HC.out).mono ?_
  rintro e w1 ⟨r, rfl, hd, b1⟩
  have HD := Lib.hid hd
  have B1 := Lib.hid b1
  clear hd b1
  go_wp2
  go_ret
  exact ⟨ret_bool HD.out, B1.out⟩

set_option maxHeartbeats 1600000 in
theorem MissingFrom_any (A : Option Addr) (n c : Nat) (L : List Pt) (w : World) (hn : L.length = n) (hm : n ≤ 9223372036854775807) (hr : PRow w w.heap.size A L) :
    Calls Try.prog 27 #[.slice A n c] w fun e w' => e = .returned (.int .i64 (missOf L)) ∧ Below w.heap.size w w' := by
  go_enter Try.func27, Try.ntmps27
  go_wp2_with fail
  refine (ValidParts_any A n c L _ hn hm hr).mono ?_
  rintro e w1 ⟨rfl, b1⟩
  have B1 := Lib.hid b1
  have Q1 := Lib.hid (hr.on b1)
  clear b1 hr
  cases hv : validP L
  · have HO := Lib.hid (show missOf L = -1 by unfold missOf; rw [hv]; rfl)
    clear hv
    go_wp2
    go_ret
    exact ⟨ret_int HO.out.symm, B1.out⟩
  have HO := Lib.hid (show missOf L = (missN L : Int) by unfold missOf; rw [hv]; rfl)
  have VV := Lib.hid hv
  clear hv
  have hb2 := (Below.refl w1.heap.size w1).alloc (Nat.le_refl _) (.cells #[.int .i64 0] 3)
  have B2 := Lib.hid (next B1.out hb2)
  have Q2 := Lib.hid (Q1.out.below hb2)
  have K2 := Lib.hid (Box.new_at w1 w1.heap.size rfl 3 #[.int .i64 0] (by simp [maxLen]))
  have hw1 := B1.out.size
  clear hb2
  go_wp2_with fail
  go_loopg [7] 12 (fun gk v wr => ∃ k : Nat, k + gk = 12 ∧ Box wr w1.heap.size w1.heap.size [.int .i64 (k : Int)] ∧ PRow wr w1.heap.size A L ∧ Below w.heap.size w wr ∧ w1.heap.size ≤ wr.heap.size ∧ ∀ j : Nat, j < k → covL L (j : Int) = true)
  case atStart => exact ⟨0, rfl, K2.out, Q2.out, B2.out, by simp, fun j hj => absurd hj (by omega)⟩
  case round =>
    obtain ⟨k, hkg, hK, hQ, hB, hz, hcv⟩ := hrel
    have KK := Lib.hid hK
    have BB := Lib.hid hB
    have QQ := Lib.hid hQ
    have CC := Lib.hid hcv
    have hk12 : k ≤ 12 := by omega
    have HG := Lib.hid hkg
    clear hK hQ hB hcv K2 Q2 B2 hkg
    go_wp2_with fail
    refine (containsFuncP_any A n c L w1.heap.size (covP (k : Int)) _ hn hm (QQ.out.more hz) (fun i t m xs a c' w' hi hx hb => by
      have hg := validP_get VV.out hi
      rw [← hx] at hg
      have hrg := goodP_range hg
      exact missing1_any t m a xs.length c' w1.heap.size (k : Int) w' ((KK.out.below hb).at_ 0 rfl) ((KK.out.below hb).lt.2) (by omega) (by omega) (by omega))).mono ?_
    rintro e w3 ⟨rfl, b3⟩
    have K3 := KK.out.below b3
    have Q3 := QQ.out.below (b3.mono hz)
    have B3 := Lib.hid (next BB.out b3)
    have z3 := b3.size
    clear b3 KK QQ BB
    have v0 := K3.at_ 0 rfl
    have f0 := K3.free 0 (by simp)
    cases hc : L.any (covP (k : Int))
    · have HM := Lib.hid (missN_at hk12 hc CC.out)
      clear hc
      go_wp2
      go_ret
      exact ⟨ret_int (by rw [HO.out, HM.out]), B3.out⟩
    · have hk11 := covL_low VV.out hc
      have HC : Hid (∀ j : Nat, j < k + 1 → covL L (j : Int) = true) := Lib.hid fun j hj => by
        rcases Nat.lt_or_eq_of_le (Nat.lt_succ_iff.1 hj) with h | rfl
        · exact CC.out j h
        · exact hc
      have gx := only_setCell w3 w1.heap.size 0 (.int .i64 ((k : Int) + 1))
      have K4 := Lib.hid (K3.set 0 (by simp) (.int .i64 ((k : Int) + 1)))
      have Q4 := Lib.hid (Q3.keep (w' := w3.setCell ⟨w1.heap.size, 0, none⟩ (.int .i64 ((k : Int) + 1))) fun b o hb => World.cell?_of_block (a := ⟨b, o, none⟩) (gx.block b (by omega) (fun e => by injection e with e; omega)))
      have B4 := Lib.hid (B3.out.setCell (p := ⟨w1.heap.size, 0, none⟩) hw1 (.int .i64 ((k : Int) + 1)))
      have z4 := gx.size
      clear hc K3 Q3 gx
      go_wp2
      go_roundg (gk - 1)
      case rel => exact ⟨k + 1, by have := HG.out; omega, K4.out, Q4.out, B4.out, by omega, HC.out⟩
      case measure => have := HG.out; omega

end Go.Proofs.Ytabapkbfolncoaa
