/-
  'FnBestNet': for every input the law returns true, and each argument reads afterwards as it read before. No condition.
  The frame of the row's step follows the kit's skeleton; the walk is ours.
-/
import Derived.Test.YtmaecadflilbgaaLawKit
import Derived.Test.YtmaecadflilbgaaDrawNet6
import Derived.Test.YtmaecadflilbgaaNetB
import Derived.Test.YtmaecadflilbgaaPlainBest2
import Derived.Test.YtmaecadflilbgaaNetH
namespace Go.Proofs.Ytmaecadflilbgaa.fnBestNet
open Go.ChangeShapes Go.WideShapes Go.ChangeAt Go.RowKit
set_option linter.unusedVariables false

theorem nrow_sub {w : World} {B b o : Nat} {L : List (Int × Int)} (h : NRow w B (some ⟨b, o, none⟩) L) {i : Nat} (hi : i < L.length) {x y : Int} (hx : (x, y) = L.getD i (0, 0)) : NRow w B (some ⟨b, o + i * 2, none⟩) [(x, y)] := fun _ => by
  obtain ⟨b', o', e, hb, hc⟩ := h (by omega)
  injection e with e; injection e with e1 e2; subst e1; subst e2
  refine ⟨b, o + i * 2, rfl, hb, fun j hj => ?_⟩
  have hj : j = 0 := by simpa using hj
  subst hj
  have := hc i hi
  rw [← hx] at this
  simpa using this
set_option maxHeartbeats 3200000 in
theorem walk (a : Option Addr) (n c : Nat) (w : World) (w0 : Bytes w a n) (hnc : n ≤ c) (hc : c ≤ 9223372036854775807) :
    Calls Try.prog 10 #[.slice a n c] w fun e w' => e = .returned (.bool true) ∧ Below w.heap.size w w' := by
  by_cases hl : n ≤ 1048576
  · go_enter Try.func10, Try.ntmps10
    go_wp2_with fail
    refine (DrawBestNet_any a n c _ w0 hnc hc).mono ?_
    rintro e w1 ⟨g, o, k, cap, L, x, rfl, hL, h9, m1, b1⟩
    have hcap : k ≤ cap := m1.2.1
    have hcm := m1.2.2.1
    unfold maxLen at hcm
    have M1 := Lib.hid m1
    have B1 := Lib.hid b1
    have HL := Lib.hid hL
    clear w0 hnc hc b1 m1 hL
    go_wp2_with fail
    refine (BestNet_any _ k cap x L _ HL.out (by omega) (M1.out.nrow HL.out)).mono ?_
    rintro e w2 ⟨rfl, b2⟩
    have M2 := Lib.hid (M1.out.below b2)
    have B2 := Lib.hid (next B1.out b2)
    clear b2 M1
    go_wp2_with fail
    refine (specBestNet_any _ k cap x L _ HL.out (by omega) (M2.out.nrow HL.out)).mono ?_
    rintro e w3 ⟨rfl, b3⟩
    have M3 := Lib.hid (M2.out.below b3)
    have B3 := Lib.hid (next B2.out b3)
    clear b3 M2
    have ⟨hr0, hr9⟩ := bestN_range L x
    rw [HL.out] at hr9
    by_cases hneg : bestN L x < 0
    · go_wp2_with fail
      refine (specBestNet_any _ k cap x L _ HL.out (by omega) (M3.out.nrow HL.out)).mono ?_
      rintro e w4 ⟨rfl, b4⟩
      have B4 := Lib.hid (next B3.out b4)
      clear b4 M3
      go_wp2
      go_ret
      exact ⟨rfl, B4.out⟩
    · obtain ⟨m, hm⟩ := Int.eq_ofNat_of_zero_le (show 0 ≤ bestN L x by omega)
      have HM := Lib.hid hm
      rw [hm] at hr0 hr9 hneg ⊢
      clear hm
      have hmk : m < k := by omega
      have hk0 : 0 < k := by omega
      have hmk' : ¬ (k : Int) ≤ (m : Int) := by omega
      have hmk2 : decide (k ≤ m) = false := by simpa using hmk
      have hm2 : decide ((m : Int) < 0) = false := by simp
      clear hr0 hneg
      have HSp := Lib.hid (best_spec HM.out)
      go_wp2_with fail
      go_loopw [6] (fun i wr => ∃ t : Nat, t ≤ k ∧ i = .int .i64 t ∧ Mine wr w.heap.size 2 (some ⟨g, o, none⟩) k cap (netCells L) ∧ Below w.heap.size w wr) (fun i _ => k - (intOf i).toNat)
      case atStart => exact ⟨0, Nat.zero_le _, rfl, M3.out.mono (by have := B1.out.size; omega), B3.out⟩
      case round =>
        obtain ⟨t, ht, rfl, hM, hB⟩ := hrel
        have MM := Lib.hid hM
        have BB := Lib.hid hB
        clear hM hB M3
        obtain ⟨⟨y', s'⟩, hx'⟩ : ∃ p, p = L.getD m (0, 0) := ⟨_, rfl⟩
        have hrow := Lib.hid (MM.out.nrow HL.out)
        have hgl := (MM.out.lt rfl).2
        obtain ⟨b', o', e', -, hce⟩ := hrow.out (by rw [HL.out]; omega)
        injection e' with e'; injection e' with e1 e2; subst e1; subst e2
        have ⟨q0, q1⟩ := hce m (by rw [HL.out]; omega)
        rw [← hx'] at q0 q1
        have HX' := Lib.hid hx'
        have HT := Lib.hid (HSp.out.2.1)
        have l3 : (m : Int) < (k : Int) := by omega
        have l4 : (0 : Int) ≤ (m : Int) := by omega
        by_cases hlt : t < k
        · obtain ⟨⟨y, s⟩, hx⟩ : ∃ p, p = L.getD t (0, 0) := ⟨_, rfl⟩
          have ⟨p0, p1⟩ := hce t (by rw [HL.out]; omega)
          have HB := Lib.hid (HSp.out.2.2 t (by rw [HL.out]; omega))
          rw [← hx] at p0 p1 HB
          rw [← hx'] at HB
          clear hce hx hx' hrow
          have l1 : (t : Int) < (k : Int) := by omega
          have l2 : (0 : Int) ≤ (t : Int) := by omega
          cases hin : inN y s x
          · have HN := Lib.hid hin
            clear hin
            obtain ⟨S, f, hne, HF, HI⟩ := cls_more wr
            have c0 := Lib.hid (fun z => cls_call (x := z) HI (fun w' k => next (HF.out z) k) ((InNet_any y s x (f z)).mono fun _ _ ⟨he, hb⟩ => ⟨by rw [he, HN.out], hb⟩))
            go_wp2
            have k0 : ∀ z, (f z).cell? ⟨g, o + t * 2, none⟩ = some (.int .i64 y) := fun z => ((HF.out z).cell (p := ⟨g, o + t * 2, none⟩) hgl).trans p0
            have k1 : ∀ z, (f z).cell? ⟨g, o + t * 2 + 1, none⟩ = some (.int .i64 s) := fun z => ((HF.out z).cell (p := ⟨g, o + t * 2 + 1, none⟩) hgl).trans p1
            refine wp_region_cls f (by kernel_rfl) (by kernel_rfl) (HI.out _ (Below.refl _ _).drew) ?_
            repeat (go_big_quiet_step ((first | (go_at_call 16; with_reducible exact c0.out _))))
            refine wpQuiet_nil ?_
            rintro _ ⟨z, rfl⟩
            have bz := HF.out z
            clear HF HI hne c0 k0 k1
            generalize f z = wz at bz ⊢
            clear z f S
            have M4 := Lib.hid (MM.out.below bz)
            have B4 := Lib.hid (next BB.out bz)
            clear bz p0 p1 q0 q1
            go_wp2
            go_roundw
            case rel => exact ⟨t + 1, by omega, by go_num, M4.out, B4.out⟩
            case measure => simp [intOf]; omega
          · have hb := HB.out hin
            have HN := Lib.hid hin
            clear hin
            by_cases hs : s = s'
            · subst hs
              have hmt := hb.2 rfl
              have c1 : decide ((t : Int) < (m : Int)) = false := by simpa using hmt
              have c2 : decide (t < m) = false := by simpa using hmt
              have c3 : decide (s < s) = false := by simp
              clear hb
              obtain ⟨S, f, hne, HF, HI⟩ := cls_more wr
              have c0 := Lib.hid (fun z => cls_call (x := z) HI (fun w' k => next (HF.out z) k) ((InNet_any y s x (f z)).mono fun _ _ ⟨he, hb⟩ => ⟨by rw [he, HN.out], hb⟩))
              go_wp2
              have k0 : ∀ z, (f z).cell? ⟨g, o + t * 2, none⟩ = some (.int .i64 y) := fun z => ((HF.out z).cell (p := ⟨g, o + t * 2, none⟩) hgl).trans p0
              have k1 : ∀ z, (f z).cell? ⟨g, o + t * 2 + 1, none⟩ = some (.int .i64 s) := fun z => ((HF.out z).cell (p := ⟨g, o + t * 2 + 1, none⟩) hgl).trans p1
              have k2 : ∀ z, (f z).cell? ⟨g, o + m * 2, none⟩ = some (.int .i64 y') := fun z => ((HF.out z).cell (p := ⟨g, o + m * 2, none⟩) hgl).trans q0
              have k3 : ∀ z, (f z).cell? ⟨g, o + m * 2 + 1, none⟩ = some (.int .i64 s) := fun z => ((HF.out z).cell (p := ⟨g, o + m * 2 + 1, none⟩) hgl).trans q1
              refine wp_region_cls f (by kernel_rfl) (by kernel_rfl) (HI.out _ (Below.refl _ _).drew) ?_
              repeat (go_big_quiet_step ((first | (go_at_call 16; with_reducible exact c0.out _))))
              refine wpQuiet_nil ?_
              rintro _ ⟨z, rfl⟩
              have bz := HF.out z
              clear HF HI hne c0 k0 k1 k2 k3
              generalize f z = wz at bz ⊢
              clear z f S
              have M4 := Lib.hid (MM.out.below bz)
              have B4 := Lib.hid (next BB.out bz)
              clear bz p0 p1 q0 q1
              go_wp2
              go_roundw
              case rel => exact ⟨t + 1, by omega, by go_num, M4.out, B4.out⟩
              case measure => simp [intOf]; omega
            · have c3 : decide (s' < s) = false := by simpa using hb.1
              have c4 : (s == s') = false := by simpa using hs
              clear hb
              obtain ⟨S, f, hne, HF, HI⟩ := cls_more wr
              have c0 := Lib.hid (fun z => cls_call (x := z) HI (fun w' k => next (HF.out z) k) ((InNet_any y s x (f z)).mono fun _ _ ⟨he, hb⟩ => ⟨by rw [he, HN.out], hb⟩))
              go_wp2
              have k0 : ∀ z, (f z).cell? ⟨g, o + t * 2, none⟩ = some (.int .i64 y) := fun z => ((HF.out z).cell (p := ⟨g, o + t * 2, none⟩) hgl).trans p0
              have k1 : ∀ z, (f z).cell? ⟨g, o + t * 2 + 1, none⟩ = some (.int .i64 s) := fun z => ((HF.out z).cell (p := ⟨g, o + t * 2 + 1, none⟩) hgl).trans p1
              have k2 : ∀ z, (f z).cell? ⟨g, o + m * 2, none⟩ = some (.int .i64 y') := fun z => ((HF.out z).cell (p := ⟨g, o + m * 2, none⟩) hgl).trans q0
              have k3 : ∀ z, (f z).cell? ⟨g, o + m * 2 + 1, none⟩ = some (.int .i64 s') := fun z => ((HF.out z).cell (p := ⟨g, o + m * 2 + 1, none⟩) hgl).trans q1
              refine wp_region_cls f (by kernel_rfl) (by kernel_rfl) (HI.out _ (Below.refl _ _).drew) ?_
              repeat (go_big_quiet_step ((first | (go_at_call 16; with_reducible exact c0.out _))))
              refine wpQuiet_nil ?_
              rintro _ ⟨z, rfl⟩
              have bz := HF.out z
              clear HF HI hne c0 k0 k1 k2 k3
              generalize f z = wz at bz ⊢
              clear z f S
              have M4 := Lib.hid (MM.out.below bz)
              have B4 := Lib.hid (next BB.out bz)
              clear bz p0 p1 q0 q1
              go_wp2
              go_roundw
              case rel => exact ⟨t + 1, by omega, by go_num, M4.out, B4.out⟩
              case measure => simp [intOf]; omega
        · clear hce
          have ⟨q0', q1'⟩ := (⟨q0, q1⟩ : _ ∧ _)
          go_wp2_with fail
          refine (InNet_any y' s' x _).mono ?_
          rintro e w9 ⟨rfl, b9⟩
          have B9 := Lib.hid (next BB.out b9)
          have HT' : Hid (inN y' s' x = true) := Lib.hid (by have := HT.out; rw [← HX'.out] at this; exact this)
          rw [HT'.out]
          clear b9
          go_wp2
          go_ret
          exact ⟨rfl, B9.out⟩
  · go_enter Try.func10, Try.ntmps10
    go_wp2
    go_ret
    exact ⟨rfl, Below.refl _ _⟩

set_option maxRecDepth 100000 in
theorem lifted (os : Os) (started : os.Started) (H : Type) (enc : TypeId × Value → H) :
    ReturnsInHanded {} Try.checked os 10 .any (Rows.fnBestNetSpec.pre6 enc Try.prog Try.f10 Rows.fnBestNetRow.domain false) (Rows.fnBestNetSpec.post enc Try.prog Try.f10 false true false false) := by
  refine returnsInHanded_of_change (C := Try.checked) own started (by kernel_rfl) Try.func10
    (ChangeSpec.witness6 (enc := enc) (C := Try.checked) false ⟨#[], #[.slice none 0 0], []⟩ 8 (by kernel_rfl) (by kernel_rfl) (by kernel_rfl) (by kernel_rfl)) ?_
  intro W base args ds gs before hval0 hW hcnd _
  have hval : ∀ (j : Nat) t v, Try.f10.params[j]? = some t → args[j]? = some v → Value.okWide Try.prog W .any base t v := hval0
  have hW' := hW
  obtain ⟨p, q, hA0, hV, rfl, hfz, hnd⟩ := hW
  have hA : DataW.TrodAll enc Try.prog W 0 (fun _ => true) true Try.f10.params.toList args.toList ds p := hA0
  rw [Try.params10] at hA hval
  obtain ⟨v0, vs0, d0, ds0, p0, q0, hargs, rfl, rfl, h0, r0⟩ := trodAll_cons hA
  obtain ⟨rfl, rfl, rfl⟩ := trodAll_nil r0
  obtain rfl : args = #[v0] := by cases args; simp_all
  obtain ⟨rfl, rfl⟩ := trodVars_none hV
  have k0 := h0
  have lt0 : ∀ x ∈ p0, x.block < W.heap.size := by obtain ⟨m, hm⟩ := k0; exact DataW.trod_lt m _ _ _ hm
  obtain ⟨a0, len0, cap0, rfl⟩ := okWide_slice Try.underlying22 (hval 0 22 v0 rfl rfl)
  obtain ⟨w0, lc0, cm0⟩ : Bytes W a0 len0 ∧ len0 ≤ cap0 ∧ cap0 ≤ 9223372036854775807 := by
    obtain ⟨fuel, hf⟩ := h0
    rcases open_ints Try.underlying22 Try.underlying5 (by kernel_rfl) hf with ⟨hcs, _⟩ | ⟨x, l, c, zs, hcs, _, hl, hm, hz, _, hcell, hwz⟩
    · simp [Value.cells] at hcs
      obtain ⟨rfl, rfl, rfl⟩ := hcs
      exact ⟨fun h => absurd h (by omega), by omega, by omega⟩
    · simp [Value.cells] at hcs
      obtain ⟨rfl, rfl, rfl⟩ := hcs
      have hz' : zs.length = cap0 := by simpa using hz
      exact ⟨bytes_of (by omega) hcell hwz, hl, hm⟩
  clear hA0 hval0
  refine (walk a0 len0 cap0 W w0 lc0 cm0).mono fun e W' ⟨he, bel⟩ => ?_
  subst he
  exact ⟨_, rfl, _, _, _, [], _, [], hW', trodAll_mk1 (shut_bool Try.underlying4 _), (trodAll_cons_mk (Below.trod laidOut (by kernel_rfl) (of_decide_eq_true (by kernel_rfl)) k0 bel lt0) trodAll_mk0), rfl, bel.frame _, fun h => by cases h⟩

theorem over : Rows.fnBestNetRow.holds Try.pinned (OpenSpec.ofChange Rows.fnBestNetSpec) :=
  OpenClaim.holds_of_wide 10 Try.f10 rfl rfl rfl rfl rfl rfl rfl ⟨rfl, rfl, rfl, rfl, rfl⟩ rfl rfl rfl rfl rfl (by kernel_rfl) Try.func10 (by kernel_rfl)
    (of_decide_eq_true (by kernel_rfl)) (by unfold Func.isWrapper; first | (rw [if_pos (by decide +kernel)]; kernel_rfl) | (rw [if_neg (by decide +kernel)]; exact ⟨rfl, rfl⟩))
    (fun os started H enc _ => lifted os started H enc)

theorem proved : Rows.FnBestNetSaid := over
#print axioms proved
end Go.Proofs.Ytmaecadflilbgaa.fnBestNet
