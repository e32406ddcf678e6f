/-
  'FnMissingFrom': for every input the law returns true, and each argument reads afterwards as it read before. No condition.
  The frame of the row's step follows the kit's skeleton; the walk is ours.
-/
import Derived.Test.YtoiobkoeghjjoaaLawKit
import Derived.Test.YtoiobkoeghjjoaaPlainPart
import Derived.Test.YtoiobkoeghjjoaaDrawPart
namespace Go.Proofs.Ytoiobkoeghjjoaa.fnMissingFrom
open Go.ChangeShapes Go.WideShapes Go.ChangeAt Go.RowKit
set_option linter.unusedVariables false

theorem bdn {B : Nat} {a w : World} (h : Below B a w) (k : Nat) : Below B a (w.drewN k) := ⟨h.os, h.tape, h.output, h.size, h.block⟩
def anyTo (L : List Pt) (k : Int) (l : Nat) : Bool := (L.take l).any (covP k)
theorem anyTo_succ {L : List Pt} {k : Int} {l : Nat} (h : l < L.length) : anyTo L k (l + 1) = (anyTo L k l || covP k (L.getD l dP)) := by
  unfold anyTo
  rw [List.take_succ_eq_append_getElem h, List.any_append, List.getD_eq_getElem?_getD, List.getElem?_eq_getElem h]
  simp
theorem anyTo_end {L : List Pt} {k : Int} : anyTo L k L.length = covL L k := by unfold anyTo covL; rw [List.take_length]

set_option maxHeartbeats 3200000 in
theorem walk (a : Option Addr) (n c : Nat) (w : World) (w0 : Bytes w a n) (hnc : n ≤ c) (hc : c ≤ 9223372036854775807) :
    Calls Try.prog 12 #[.slice a n c] w fun e w' => e = .returned (.bool true) ∧ Below w.heap.size w w' := by
  by_cases hl : n ≤ 1048576
  · go_enter Try.func12, Try.ntmps12
    go_wp2_with fail
    refine (DrawMissingFrom_any a n c _ w0 hnc hc).mono ?_
    rintro e w1 ⟨A, m, cap, V, rfl, hm7, hQ, m1, b1⟩
    have R1 := Lib.hid m1.row
    have hmc := m1.2.1.2.1
    have hcm := m1.2.1.2.2.1
    unfold maxLen at hcm
    obtain ⟨L, hL⟩ : ∃ L, L = V.map PV.pt := ⟨_, rfl⟩
    have hLm : L.length = m := by rw [hL, List.length_map]; exact m1.1
    rw [← hL] at R1
    have B1 := Lib.hid b1
    clear w0 hnc hc b1 m1 hQ hL
    go_wp2_with fail
    refine (MissingFrom_any A m cap L _ hLm (by omega) R1.out).mono ?_
    rintro e w2 ⟨rfl, b2⟩
    have R2 := Lib.hid (R1.out.on b2)
    have B2 := Lib.hid (next B1.out b2)
    clear b2
    go_wp2_with fail
    refine (specMissingFrom_any A m cap L _ hLm (by omega) R2.out).mono ?_
    rintro e w3 ⟨rfl, b3⟩
    have R3 := Lib.hid (R2.out.on b3)
    have B3 := Lib.hid (next B2.out b3)
    clear b3
    cases hv : validP L
    · have hk := miss_bad hv
      clear hv
      have HK := Lib.hid hk
      rw [hk]
      clear hk
      go_wp2_with fail
      refine (specMissingFrom_any A m cap L _ hLm (by omega) R3.out).mono ?_
      rintro e w4 ⟨rfl, b4⟩
      have B4 := Lib.hid (next B3.out b4)
      clear b4
      rw [HK.out]
      go_wp2
      go_ret
      exact ⟨ret_bool (by simp), B4.out⟩
    have hk := miss_yes hv
    have VV := Lib.hid hv
    obtain ⟨hk9, hs1, hs2⟩ := missN_spec hv
    obtain ⟨N, hN⟩ : ∃ N, N = missN L := ⟨_, rfl⟩
    rw [← hN] at hk hk9 hs1 hs2
    rw [hk]
    have S1 := Lib.hid hs1
    have S2 := Lib.hid hs2
    clear hk hv hN hs1 hs2
    have l4 : ¬ ((N : Int) < 0) := by omega
    have l9 : (N : Int) ≤ 12 := by omega
    go_wp2
    go_loopw [5] (fun v wr => ∃ k : Nat, v = .int .i64 k ∧ k ≤ N + 1 ∧ Below w3.heap.size w3 wr) (fun v _ => 14 - (intOf v).toNat)
    case atStart => exact ⟨0, rfl, by omega, Below.refl _ _⟩
    case round =>
      obtain ⟨k, rfl, hkN, hB⟩ := hrel
      obtain ⟨wo, rfl⟩ : ∃ wo : World, wo = wr := ⟨_, rfl⟩
      have BB := Lib.hid hB
      clear hB
      by_cases hk : k ≤ N
      · have l5 : (k : Int) ≤ (N : Int) := by omega
        have HF : Hid (covL L (k : Int) = decide ((k : Int) < (N : Int))) := Lib.hid (by
          by_cases h : k < N
          · rw [S2.out k h, decide_eq_true (by omega)]
          · obtain rfl : k = N := by omega
            rw [S1.out, decide_eq_false (by omega)])
        go_wp2
        go_loopw [6, 7] (fun s i wr => ∃ l : Nat, l ≤ m ∧ s = .bool (anyTo L (k : Int) l) ∧ i = .int .i64 l ∧ Below w3.heap.size w3 wr) (fun _ i _ => m - (intOf i).toNat)
        case atStart => exact ⟨0, Nat.zero_le _, rfl, rfl, BB.out⟩
        case round =>
          obtain ⟨l, hlm, rfl, rfl, hB⟩ := hrel
          have B5 := Lib.hid hB
          clear hB
          by_cases hlt : l < m
          · obtain ⟨b, o, rfl, hbl, hc⟩ := R3.out (by omega)
            obtain ⟨a', c', q0, q1, q2, -, hlc, hcm'⟩ := hc l (by omega)
            have hg := validP_get VV.out (i := l) (by omega)
            have HA := Lib.hid (anyTo_succ (k := (k : Int)) (show l < L.length by omega))
            obtain ⟨⟨t, mr, xs⟩, hx⟩ : ∃ q, q = L.getD l dP := ⟨_, rfl⟩
            rw [← hx] at q0 q1 q2 hg HA
            simp only at q0 q1 q2
            obtain ⟨⟨t0, t9⟩, x1, x2⟩ := goodP_range hg
            obtain ⟨len, hlen⟩ : ∃ len, len = xs.length := ⟨_, rfl⟩
            have HC : Hid (covP (k : Int) (t, mr, xs) = inR (k : Int) t (t + (len : Int) - 1)) := Lib.hid (by rw [hlen]; rfl)
            rw [HC.out] at HA
            rw [← hlen] at q2 x1 x2
            have c0 := (B5.out.cell (p := ⟨b, o + l * 3, none⟩) hbl).trans q0
            have c1 := (B5.out.cell (p := ⟨b, o + l * 3 + 1, none⟩) hbl).trans q1
            have c2 := (B5.out.cell (p := ⟨b, o + l * 3 + 2, none⟩) hbl).trans q2
            have l1 : (l : Int) < (m : Int) := by omega
            have l2 : (0 : Int) ≤ (l : Int) := by omega
            have e1 : IntKind.i64.wrap (t + (len : Int)) = t + (len : Int) := wrap_in (by omega)
            clear hc hx q0 q1 q2 hlen hg hlc hcm' HC
            cases ha : anyTo L (k : Int) l
            · rw [ha] at HA
              by_cases h1 : t ≤ (k : Int)
              · have d1 : decide (t ≤ (k : Int)) = true := decide_eq_true h1
                by_cases h2 : (k : Int) < t + (len : Int)
                · have d2 : decide ((k : Int) < t + (len : Int)) = true := decide_eq_true h2
                  have HN : Hid (anyTo L (k : Int) (l + 1) = true) := Lib.hid (by rw [HA.out, inR_yes ⟨h1, by omega⟩]; rfl)
                  go_wp2
                  go_quiet (fail)
                  go_wp2
                  go_roundw
                  case rel => exact ⟨l + 1, by omega, by rw [HN.out], by go_num, bdn B5.out _⟩
                  case measure => simp [intOf]; omega
                · have d2 : decide ((k : Int) < t + (len : Int)) = false := decide_eq_false h2
                  have HN : Hid (anyTo L (k : Int) (l + 1) = false) := Lib.hid (by rw [HA.out]; simp [inR]; omega)
                  go_wp2
                  go_quiet (fail)
                  go_wp2
                  go_roundw
                  case rel => exact ⟨l + 1, by omega, by rw [HN.out], by go_num, bdn B5.out _⟩
                  case measure => simp [intOf]; omega
              · have d1 : decide (t ≤ (k : Int)) = false := decide_eq_false h1
                have HN : Hid (anyTo L (k : Int) (l + 1) = false) := Lib.hid (by rw [HA.out]; simp [inR]; omega)
                go_wp2
                go_quiet (fail)
                go_wp2
                go_roundw
                case rel => exact ⟨l + 1, by omega, by rw [HN.out], by go_num, bdn B5.out _⟩
                case measure => simp [intOf]; omega
            · have HN : Hid (anyTo L (k : Int) (l + 1) = true) := Lib.hid (by rw [HA.out, ha]; rfl)
              go_wp2
              go_quiet (fail)
              go_wp2
              go_roundw
              case rel => exact ⟨l + 1, by omega, by rw [HN.out], by go_num, bdn B5.out _⟩
              case measure => simp [intOf]; omega
          · obtain rfl : l = m := by omega
            have HE : Hid (anyTo L (k : Int) l = decide ((k : Int) < (N : Int))) := Lib.hid (by rw [← hLm, anyTo_end, HF.out])
            rw [HE.out]
            go_wp2
            go_roundw
            case rel => exact ⟨k + 1, by go_num, by omega, B5.out⟩
            case measure => simp [intOf]; omega
      · go_wp2
        go_ret
        exact ⟨rfl, next B3.out BB.out⟩
  · go_enter Try.func12, Try.ntmps12
    go_wp2
    go_ret
    exact ⟨rfl, Below.refl _ _⟩

set_option maxRecDepth 100000 in
theorem lifted (os : Os) (started : os.Started) (H : Type) (enc : TypeId × Value → H) :
    ReturnsInHanded {} Try.checked os 12 .any (Rows.fnMissingFromSpec.pre6 enc Try.prog Try.f12 Rows.fnMissingFromRow.domain false) (Rows.fnMissingFromSpec.post enc Try.prog Try.f12 false true false false) := by
  refine returnsInHanded_of_change (C := Try.checked) own started (by kernel_rfl) Try.func12
    (ChangeSpec.witness6 (enc := enc) (C := Try.checked) false ⟨#[], #[.slice none 0 0], []⟩ 8 (by kernel_rfl) (by kernel_rfl) (by kernel_rfl) (by kernel_rfl)) ?_
  intro W base args ds gs before hval0 hW hcnd _
  have hval : ∀ (j : Nat) t v, Try.f12.params[j]? = some t → args[j]? = some v → Value.okWide Try.prog W .any base t v := hval0
  have hW' := hW
  obtain ⟨p, q, hA0, hV, rfl, hfz, hnd⟩ := hW
  have hA : DataW.TrodAll enc Try.prog W 0 (fun _ => true) true Try.f12.params.toList args.toList ds p := hA0
  rw [Try.params12] at hA hval
  obtain ⟨v0, vs0, d0, ds0, p0, q0, hargs, rfl, rfl, h0, r0⟩ := trodAll_cons hA
  obtain ⟨rfl, rfl, rfl⟩ := trodAll_nil r0
  obtain rfl : args = #[v0] := by cases args; simp_all
  obtain ⟨rfl, rfl⟩ := trodVars_none hV
  have k0 := h0
  have lt0 : ∀ x ∈ p0, x.block < W.heap.size := by obtain ⟨m, hm⟩ := k0; exact DataW.trod_lt m _ _ _ hm
  obtain ⟨a0, len0, cap0, rfl⟩ := okWide_slice Try.underlying29 (hval 0 29 v0 rfl rfl)
  obtain ⟨w0, lc0, cm0⟩ : Bytes W a0 len0 ∧ len0 ≤ cap0 ∧ cap0 ≤ 9223372036854775807 := by
    obtain ⟨fuel, hf⟩ := h0
    rcases open_ints Try.underlying29 Try.underlying5 (by kernel_rfl) hf with ⟨hcs, _⟩ | ⟨x, l, c, zs, hcs, _, hl, hm, hz, _, hcell, hwz⟩
    · simp [Value.cells] at hcs
      obtain ⟨rfl, rfl, rfl⟩ := hcs
      exact ⟨fun h => absurd h (by omega), by omega, by omega⟩
    · simp [Value.cells] at hcs
      obtain ⟨rfl, rfl, rfl⟩ := hcs
      have hz' : zs.length = cap0 := by simpa using hz
      exact ⟨bytes_of (by omega) hcell hwz, hl, hm⟩
  clear hA0 hval0
  refine (walk a0 len0 cap0 W w0 lc0 cm0).mono fun e W' ⟨he, bel⟩ => ?_
  subst he
  exact ⟨_, rfl, _, _, _, [], _, [], hW', trodAll_mk1 (shut_bool Try.underlying4 _), (trodAll_cons_mk (Below.trod laidOut (by kernel_rfl) (of_decide_eq_true (by kernel_rfl)) k0 bel lt0) trodAll_mk0), rfl, bel.frame _, fun h => by cases h⟩

theorem over : Rows.fnMissingFromRow.holds Try.pinned (OpenSpec.ofChange Rows.fnMissingFromSpec) :=
  OpenClaim.holds_of_wide 12 Try.f12 rfl rfl rfl rfl rfl rfl rfl ⟨rfl, rfl, rfl, rfl, rfl⟩ rfl rfl rfl rfl rfl (by kernel_rfl) Try.func12 (by kernel_rfl)
    (of_decide_eq_true (by kernel_rfl)) (by unfold Func.isWrapper; first | (rw [if_pos (by decide +kernel)]; kernel_rfl) | (rw [if_neg (by decide +kernel)]; exact ⟨rfl, rfl⟩))
    (fun os started H enc _ => lifted os started H enc)

theorem proved : Rows.FnMissingFromSaid := over
#print axioms proved
end Go.Proofs.Ytoiobkoeghjjoaa.fnMissingFrom
