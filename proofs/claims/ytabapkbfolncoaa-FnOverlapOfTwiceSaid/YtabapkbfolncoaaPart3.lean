/-
  Lists of parts: the statements' helpers toPartS, eqPartS.
-/
import Derived.Test.YtabapkbfolncoaaPart2
namespace Go.Proofs.Ytabapkbfolncoaa
open Go.RowKit
attribute [local go_sem ↓] Go.wp_at_zero Go.wp_at_succ

/-- A copy of a list of parts, all of it in new memory. -/
def CopiedPs (w : World) (n : Nat) (L : List Pt) (e : Ending) (w' : World) : Prop :=
  ∃ V : List PV, e = .returned (.slice (some ⟨w.heap.size, 0, none⟩) n n) ∧ V.map PV.pt = L ∧ PMine w' w.heap.size (some ⟨w.heap.size, 0, none⟩) n n V ∧ Below w.heap.size w w'

theorem shows_snoc {ys : List Value} {V : List PV} {p : PV} {k : Nat} (h : ShowsE encV 3 default ys V k) (hV : V.length = k) (hl : (k + 1) * 3 ≤ ys.length) :
    ShowsE encV 3 default (setAll ys (k * 3) (encV p)) (V ++ [p]) (k + 1) := by
  have h1 : ShowsE encV 3 default ys (V ++ [p]) k := fun t ht c hc => by
    have e : (V ++ [p]).getD t default = V.getD t default := by
      rw [List.getD_eq_getElem?_getD, List.getElem?_append_left (by omega), List.getD_eq_getElem?_getD]
    rw [e]; exact h t ht c hc
  have h2 := h1.step encV_len hl
  have e : (V ++ [p]).getD k default = p := by
    rw [List.getD_eq_getElem?_getD, List.getElem?_append_right (by omega), hV, Nat.sub_self]; rfl
  rw [e] at h2
  exact h2

set_option maxHeartbeats 3200000 in
theorem toPartS_any (a : Option Addr) (n c : Nat) (L : List Pt) (w : World) (hn : L.length = n) (hb : n ≤ 1048576) (hx1 : ∀ i, i < L.length → (L.getD i dP).2.2.length ≤ 1048576) (hr : PRow w w.heap.size a L) :
    Calls Try.prog 17 #[.slice a n c] w (CopiedPs w n L) := by
  obtain ⟨i0, hi, hz0, hz1, hz2⟩ := info_parts part_info
  have hbz : i0.bytes * n ≤ 281474976710656 := by rw [hz2]; omega
  have hml : n ≤ maxLen := by unfold maxLen; omega
  have HX1 := Lib.hid hx1
  clear hx1
  go_enter Try.func17, Try.ntmps17
  go_wp2_with (at_make; refine wpList_make_full _ rfl _ _ 27 rfl w.heap.size 41 i0 (.agg #[.int .i64 0, .bool false, .slice none 0 0]) 3 Try.underlying27 hi hz0 hz1 .i64 .i64 _ _ n rfl rfl rfl rfl hbz hml (Nat.le_refl _) ?_; intro w1 hown hg)
  have hM := Mine.of_own hown
  have hB : Below w.heap.size w w1 := (Below.refl _ _).grown hg (Nat.le_refl _) (by simp)
  have HM0 := Lib.hid hM
  have HB0 := Lib.hid hB
  clear hown hg hbz hml hi hz0 hz1 hz2 hM hB
  go_loopw [4] (fun i wr => ∃ (k : Nat) (ys : List Value) (V : List PV), k ≤ n ∧ i = .int .i64 k ∧ Mine wr w.heap.size 3 (some ⟨w.heap.size, 0, none⟩) n n ys ∧ ShowsE encV 3 default ys V k ∧ V.length = k ∧ V.map PV.pt = L.take k ∧ (∀ p ∈ V, DMine wr (w.heap.size + 1) p) ∧ V.Pairwise (fun p q => p.blk ≠ q.blk) ∧ Below w.heap.size w wr) (fun i _ => n - (intOf i).toNat)
  case atStart => exact ⟨0, _, [], Nat.zero_le _, rfl, HM0.out, fun t h => by omega, rfl, rfl, by simp, .nil, HB0.out⟩
  case round =>
    obtain ⟨k, ys, V, hk, rfl, hM, hys, hV, hpt, hD, hP, hB⟩ := hrel
    have MM := Lib.hid hM
    have BB := Lib.hid hB
    have SS := Lib.hid hys
    have VV := Lib.hid hV
    have PP := Lib.hid hpt
    have DD := Lib.hid hD
    have WW := Lib.hid hP
    have hlen : ys.length = n * 3 := by simpa using hM.1
    have hlt0 := (hM.lt rfl).2
    have HLen := Lib.hid hlen
    clear hM hB hys hV hpt hD hP HM0 HB0 hlen
    by_cases hlt : k < n
    · obtain ⟨b, o, rfl, hbl, hc⟩ := hr (by omega)
      obtain ⟨a', c', q0, q1, q2, hrow, hlc, hcm⟩ := hc k (by omega)
      have hsm := HX1.out k (by omega)
      obtain ⟨⟨t, m, xs⟩, hx⟩ : ∃ q, q = L.getD k dP := ⟨_, rfl⟩
      rw [← hx] at q0 q1 q2 hlc hrow hsm
      simp only at q0 q1 q2 hlc hrow hsm
      have HX := Lib.hid hx
      have c0 := (BB.out.cell (p := ⟨b, o + k * 3, none⟩) hbl).trans q0
      have c1 := (BB.out.cell (p := ⟨b, o + k * 3 + 1, none⟩) hbl).trans q1
      have c2 := (BB.out.cell (p := ⟨b, o + k * 3 + 2, none⟩) hbl).trans q2
      have hrow2 := Lib.hid ((hrow.below BB.out).more BB.out.size)
      have m1 : (k : Int) < (n : Int) := by omega
      have m2 : (0 : Int) ≤ (k : Int) := by omega
      clear hc hx q0 q1 q2 hrow
      go_wp2_with fail
      refine (toPart_any t m a' xs.length c' xs _ rfl hsm hrow2.out).mono ?_
      rintro e w2 ⟨p, rfl, hp1, hp2, hp3, hp4, b2⟩
      have hpl := hp4.lt
      have M2 := MM.out.below b2
      have z2 := b2.size
      have hl3 := HLen.out
      have HE : Hid (encV p = [.int .i64 t, .bool m, .slice (some ⟨p.blk, p.off, none⟩) xs.length p.cap]) := Lib.hid (by unfold encV; rw [hp1, hp2, hp3])
      have HS := Lib.hid (shows_snoc (p := p) SS.out VV.out (by rw [HLen.out]; omega))
      rw [HE.out] at HS
      have HPT : Hid ((V ++ [p]).map PV.pt = L.take (k + 1)) := Lib.hid (by
        rw [List.map_append, PP.out, List.take_succ_eq_append_getElem (by omega)]
        have : p.pt = L[k]'(by omega) := by
          have h2 := HX.out
          rw [List.getD_eq_getElem?_getD, List.getElem?_eq_getElem (show k < L.length by omega), Option.getD_some] at h2
          rw [← h2]; unfold PV.pt; rw [hp1, hp2, hp3]
        simp [this])
      obtain ⟨⟨v0, hv0⟩, hf0⟩ := M2.can0 (j := k * 3) (by omega)
      have m3 := M2.set0 (j := k * 3) (by omega) (.int .i64 t)
      obtain ⟨⟨v1, hv1⟩, hf1⟩ := m3.can0 (j := k * 3 + 1) (by omega)
      have m4 := m3.set0 (j := k * 3 + 1) (by omega) (.bool m)
      obtain ⟨⟨v2, hv2⟩, hf2⟩ := m4.can0 (j := k * 3 + 2) (by omega)
      have HM := Lib.hid (m4.set0 (j := k * 3 + 2) (by omega) (.slice (some ⟨p.blk, p.off, none⟩) xs.length p.cap))
      have GG := ((only_setCell w2 w.heap.size (k * 3) (.int .i64 t)).trans (only_setCell _ w.heap.size (k * 3 + 1) (.bool m))).trans (only_setCell _ w.heap.size (k * 3 + 2) (.slice (some ⟨p.blk, p.off, none⟩) xs.length p.cap))
      have HB := Lib.hid (only_below (next BB.out b2) GG (by omega) (Nat.le_refl _))
      have HD : Hid (∀ q ∈ V ++ [p], DMine (((w2.setCell ⟨w.heap.size, k * 3, none⟩ (.int .i64 t)).setCell ⟨w.heap.size, k * 3 + 1, none⟩ (.bool m)).setCell ⟨w.heap.size, k * 3 + 2, none⟩ (.slice (some ⟨p.blk, p.off, none⟩) xs.length p.cap)) (w.heap.size + 1) q) := Lib.hid (by
        intro q hq
        rcases List.mem_append.1 hq with h | h
        · have hd := DD.out q h
          exact (hd.below b2).far GG (by have := hd.lt.1; omega)
        · simp at h
          subst h
          exact (hp4.far GG (by omega)).mono (by omega))
      have HP : Hid ((V ++ [p]).Pairwise (fun p q => p.blk ≠ q.blk)) := Lib.hid (List.pairwise_append.2 ⟨WW.out, List.pairwise_singleton _ _, fun q hq q' hq' => by
        simp at hq'
        subst hq'
        have := (DD.out q hq).lt.2
        omega⟩)
      have HVl : Hid ((V ++ [p]).length = k + 1) := Lib.hid (by rw [List.length_append, VV.out]; rfl)
      clear M2 m3 m4 GG b2 c0 c1 c2 hp1 hp2 hp3 hp4 hl3
      go_wp2
      refine ⟨⟨k + 1, _, V ++ [p], by omega, by go_num, HM.out, HS.out, HVl.out, HPT.out, HD.out, HP.out, HB.out⟩, ?_⟩
      simp [intOf]; omega
    · obtain rfl : k = n := by omega
      go_wp2
      go_ret
      have hfull : ys = V.flatMap encV := ShowsE.full encV_len (by decide) (by rw [VV.out]; exact SS.out) (by rw [HLen.out, VV.out])
      refine ⟨V, rfl, by rw [PP.out, List.take_of_length_le (by omega)], ⟨VV.out, by rw [← hfull]; exact MM.out, fun p hp => ⟨(DD.out p hp).mono (by omega), fun e => ?_⟩, WW.out⟩, BB.out⟩
      have := (DD.out p hp).lt.1
      simp at e
      omega

set_option maxHeartbeats 1600000 in
theorem eqPartS_same (a a' : Option Addr) (n c c' : Nat) (L : List Pt) (w : World) (hn : L.length = n) (hb : n ≤ 1048576) (hx1 : ∀ i, i < L.length → (L.getD i dP).2.2.length ≤ 1048576) (hr : PRow w w.heap.size a L) (hr' : PRow w w.heap.size a' L) :
    Calls Try.prog 20 #[.slice a n c, .slice a' n c'] w fun e w' => e = .returned (.bool true) ∧ Below w.heap.size w w' := by
  have HX1 := Lib.hid hx1
  clear hx1
  go_enter Try.func20, Try.ntmps20
  go_wp2
  go_loopw [5] (fun i wr => ∃ (k : Nat), k ≤ n ∧ i = .int .i64 k ∧ Below w.heap.size w wr) (fun i _ => n - (intOf i).toNat)
  case atStart => exact ⟨0, Nat.zero_le _, rfl, Below.refl _ _⟩
  case round wr =>
    obtain ⟨k, hk, rfl, hbw⟩ := hrel
    by_cases hlt : k < n
    · obtain ⟨b, o, rfl, h9, hc⟩ := hr (by omega)
      obtain ⟨b', o', rfl, h9', hc'⟩ := hr' (by omega)
      obtain ⟨d, e, p0, p1, p2, hrow, hle, hem⟩ := hc k (by omega)
      obtain ⟨d', e', q0, q1, q2, hrow', hle', hem'⟩ := hc' k (by omega)
      have hsm := HX1.out k (by omega)
      clear hc hc' hr hr'
      obtain ⟨⟨t, m, xs⟩, hx⟩ : ∃ p, p = L.getD k dP := ⟨_, rfl⟩
      rw [← hx] at p0 p1 p2 hrow q0 q1 q2 hrow' hsm
      simp only at p0 p1 p2 hrow q0 q1 q2 hrow' hsm
      clear hx hle hle'
      have R1 := Lib.hid hrow
      have R2 := Lib.hid hrow'
      have l1 : (k : Int) < (n : Int) := by omega
      have l2 : (0 : Int) ≤ (k : Int) := by omega
      have H0 := Lib.hid hbw.drew
      obtain ⟨S, f, hne, HF, HI⟩ := cls_of (fun w' => Below w.heap.size w w') hbw
      have k0 : ∀ z, (f z).cell? ⟨b, o + k * 3, none⟩ = some (.int .i64 t) := fun z => ((HF.out z).cell (p := ⟨b, o + k * 3, none⟩) h9).trans p0
      have k1 : ∀ z, (f z).cell? ⟨b, o + k * 3 + 1, none⟩ = some (.bool m) := fun z => ((HF.out z).cell (p := ⟨b, o + k * 3 + 1, none⟩) h9).trans p1
      have k2 : ∀ z, (f z).cell? ⟨b, o + k * 3 + 2, none⟩ = some (.slice d xs.length e) := fun z => ((HF.out z).cell (p := ⟨b, o + k * 3 + 2, none⟩) h9).trans p2
      have l0 : ∀ z, (f z).cell? ⟨b', o' + k * 3, none⟩ = some (.int .i64 t) := fun z => ((HF.out z).cell (p := ⟨b', o' + k * 3, none⟩) h9').trans q0
      have l1' : ∀ z, (f z).cell? ⟨b', o' + k * 3 + 1, none⟩ = some (.bool m) := fun z => ((HF.out z).cell (p := ⟨b', o' + k * 3 + 1, none⟩) h9').trans q1
      have l2' : ∀ z, (f z).cell? ⟨b', o' + k * 3 + 2, none⟩ = some (.slice d' xs.length e') := fun z => ((HF.out z).cell (p := ⟨b', o' + k * 3 + 2, none⟩) h9').trans q2
      have c1 := Lib.hid (fun z => cls_call (x := z) HI (fun w' => next (HF.out z)) (eqPart_same t m d d' xs.length e e' w.heap.size w.heap.size xs (f z) rfl hsm (HF.out z).size (HF.out z).size (R1.out.below (HF.out z)) (R2.out.below (HF.out z))))
      clear p0 p1 p2 q0 q1 q2 hrow hrow'
      go_wp2
      refine wp_region_cls f (by kernel_rfl) (by kernel_rfl) (HI.out _ H0.out) ?_
      repeat (go_big_quiet_step ((first | (go_at_call 47; exact c1.out _))))
      refine wpQuiet_nil ?_
      rintro _ ⟨z, rfl⟩
      have hb2 := HF.out z
      clear k0 k1 k2 l0 l1' l2'
      go_wp2
      go_roundw
      case rel => exact ⟨k + 1, by omega, by go_num, hb2⟩
      case measure => simp [intOf]; omega
    · go_wp2
      go_ret
      exact ⟨rfl, hbw⟩
end Go.Proofs.Ytabapkbfolncoaa
