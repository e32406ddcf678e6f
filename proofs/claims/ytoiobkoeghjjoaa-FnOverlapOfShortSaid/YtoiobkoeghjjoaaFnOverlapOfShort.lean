/-
  'FnOverlapOfShort': for every input the law returns true, and each argument reads afterwards as it read before. No condition.
  The frame of the row's step follows the kit's skeleton; the walk is ours.
-/
import Derived.Test.YtoiobkoeghjjoaaLawKit
import Derived.Test.YtoiobkoeghjjoaaPart4
import Derived.Test.YtoiobkoeghjjoaaDrawPart
namespace Go.Proofs.Ytoiobkoeghjjoaa.fnOverlapOfShort
open Go.ChangeShapes Go.WideShapes Go.ChangeAt Go.RowKit
set_option linter.unusedVariables false

theorem least (p : Nat → Bool) : ∀ m, (∀ j, j < m → p j = false) ∨ ∃ i, i < m ∧ p i = true ∧ ∀ j, j < i → p j = false
  | 0 => .inl fun j h => by omega
  | m + 1 => by
    rcases least p m with h | ⟨i, hi, hp, hn⟩
    · cases e : p m
      · refine .inl fun j hj => ?_
        rcases Nat.lt_or_eq_of_le (Nat.lt_succ_iff.1 hj) with h1 | rfl
        · exact h j h1
        · exact e
      · exact .inr ⟨m, by omega, e, h⟩
    · exact .inr ⟨i, by omega, hp, hn⟩
theorem hitP_take {L : List Pt} {m i : Nat} (h : i < m) : hitP (L.take m) i = hitP L i := by
  unfold hitP
  rw [List.take_take, Nat.min_eq_left (by omega), getD_takeP h]
theorem validP_take {L : List Pt} (h : validP L = true) (m : Nat) : validP (L.take m) = true := by
  simp only [validP, Bool.and_eq_true, decide_eq_true_eq] at h ⊢
  refine ⟨List.all_eq_true.2 fun p hp => List.all_eq_true.1 h.1 p (List.mem_of_mem_take hp), ?_⟩
  rw [List.length_take]; omega
theorem over_short {L : List Pt} {n : Nat} (hn : L.length = n) (h0 : 0 < n) (hv : validP L = true) : overOf (L.take (n - 1)) = overOf L ∨ (overOf (L.take (n - 1)) = -1 ∧ overOf L = (n : Int) - 1) := by
  unfold overOf
  rw [validP_take hv, hv, if_pos rfl, if_pos rfl]
  have hl : (L.take (n - 1)).length = n - 1 := by rw [List.length_take]; omega
  rcases least (hitP L) (n - 1) with h | ⟨i, hi, hp, hno⟩
  · have e1 : overL (L.take (n - 1)) = -1 := overL_none fun j hj => by rw [hitP_take (by omega)]; exact h j (by omega)
    cases e : hitP L (n - 1)
    · left
      rw [e1, overL_none fun j hj => ?_]
      rcases Nat.lt_or_ge j (n - 1) with h1 | h1
      · exact h j h1
      · obtain rfl : j = n - 1 := by omega
        exact e
    · right
      refine ⟨e1, ?_⟩
      rw [overL_at (k := n - 1) (by omega) e h]; omega
  · left
    rw [overL_at (k := i) (by omega) hp hno, overL_at (k := i) (by omega) (by rw [hitP_take (by omega)]; exact hp) (fun j hj => by rw [hitP_take (by omega)]; exact hno j hj)]
theorem over_bad {L : List Pt} (hv : validP L = false) : overOf L = -1 := by unfold overOf; rw [hv]; rfl

set_option maxHeartbeats 1600000 in
theorem walk (a : Option Addr) (n c : Nat) (w : World) (w0 : Bytes w a n) (hnc : n ≤ c) (hc : c ≤ 9223372036854775807) :
    Calls Try.prog 10 #[.slice a n c] w fun e w' => e = .returned (.bool true) ∧ Below w.heap.size w w' := by
  by_cases hl : n ≤ 1048576
  · go_enter Try.func10, Try.ntmps10
    go_wp2_with fail
    refine (DrawOverlapOf_any a n c _ w0 hnc hc).mono ?_
    rintro e w1 ⟨A, m, cap, V, rfl, hm7, hQ, m1, b1⟩
    have R1 := Lib.hid m1.row
    have hmc := m1.2.1.2.1
    have hcm := m1.2.1.2.2.1
    unfold maxLen at hcm
    obtain ⟨L, hL⟩ : ∃ L, L = V.map PV.pt := ⟨_, rfl⟩
    have hLm : L.length = m := by rw [hL, List.length_map]; exact m1.1
    rw [← hL] at R1
    have B1 := Lib.hid b1
    clear w0 hnc hc b1 m1 hQ hL
    go_wp2_with fail
    refine (OverlapOf_any A m cap L _ hLm hmc (by omega) R1.out).mono ?_
    rintro e w2 ⟨rfl, b2⟩
    have R2 := Lib.hid (R1.out.on b2)
    have B2 := Lib.hid (next B1.out b2)
    clear b2
    go_wp2_with fail
    refine (specOverlapOf_any A m cap L _ hLm (by omega) R2.out).mono ?_
    rintro e w3 ⟨rfl, b3⟩
    have R3 := Lib.hid (R2.out.on b3)
    have B3 := Lib.hid (next B2.out b3)
    clear b3
    rcases Nat.eq_zero_or_pos m with hm0 | hm0
    · subst hm0
      go_wp2_with fail
      refine (specOverlapOf_any A 0 cap L _ hLm (by omega) R3.out).mono ?_
      rintro e w4 ⟨rfl, b4⟩
      have B4 := Lib.hid (next B3.out b4)
      go_wp2
      go_ret
      exact ⟨ret_bool (by simp), B4.out⟩
    have l0 : ((m : Int) == 0) = false := by simp; omega
    have l1 : ¬ ((m : Int) = 0) := by omega
    go_wp2_with fail
    refine (ValidParts_any A m cap L _ hLm (by omega) R3.out).mono ?_
    rintro e w4 ⟨rfl, b4⟩
    have R4 := Lib.hid (R3.out.on b4)
    have B4 := Lib.hid (next B3.out b4)
    clear b4
    cases hv : validP L
    · have HV := Lib.hid hv
      clear hv
      go_wp2_with fail
      refine (specOverlapOf_any A m cap L _ hLm (by omega) R4.out).mono ?_
      rintro e w5 ⟨rfl, b5⟩
      have B5 := Lib.hid (next B4.out b5)
      go_wp2
      go_ret
      exact ⟨ret_bool (by simp), B5.out⟩
    · have HS := Lib.hid (over_short hLm hm0 hv)
      clear hv
      have l2 : (1 : Int) ≤ (m : Int) := by omega
      have l3 : (m : Int) - 1 = ((m - 1 : Nat) : Int) := by omega
      have HT := Lib.hid (R4.out.take (m - 1))
      go_wp2_with fail
      refine (OverlapOf_any A (m - 1) cap (L.take (m - 1)) _ (by rw [List.length_take]; omega) (by omega) (by omega) HT.out).mono ?_
      rintro e w5 ⟨rfl, b5⟩
      have B5 := Lib.hid (next B4.out b5)
      clear b5
      rcases HS.out with h | ⟨h, h'⟩
      · rw [h]
        go_wp2
        go_ret
        exact ⟨ret_bool (by simp), B5.out⟩
      · rw [h, h']
        go_wp2
        go_ret
        exact ⟨ret_bool (by simp), B5.out⟩
  · go_enter Try.func10, Try.ntmps10
    go_wp2
    go_ret
    exact ⟨rfl, Below.refl _ _⟩

set_option maxRecDepth 100000 in
theorem lifted (os : Os) (started : os.Started) (H : Type) (enc : TypeId × Value → H) :
    ReturnsInHanded {} Try.checked os 10 .any (Rows.fnOverlapOfShortSpec.pre6 enc Try.prog Try.f10 Rows.fnOverlapOfShortRow.domain false) (Rows.fnOverlapOfShortSpec.post enc Try.prog Try.f10 false true false false) := by
  refine returnsInHanded_of_change (C := Try.checked) own started (by kernel_rfl) Try.func10
    (ChangeSpec.witness6 (enc := enc) (C := Try.checked) false ⟨#[], #[.slice none 0 0], []⟩ 8 (by kernel_rfl) (by kernel_rfl) (by kernel_rfl) (by kernel_rfl)) ?_
  intro W base args ds gs before hval0 hW hcnd _
  have hval : ∀ (j : Nat) t v, Try.f10.params[j]? = some t → args[j]? = some v → Value.okWide Try.prog W .any base t v := hval0
  have hW' := hW
  obtain ⟨p, q, hA0, hV, rfl, hfz, hnd⟩ := hW
  have hA : DataW.TrodAll enc Try.prog W 0 (fun _ => true) true Try.f10.params.toList args.toList ds p := hA0
  rw [Try.params10] at hA hval
  obtain ⟨v0, vs0, d0, ds0, p0, q0, hargs, rfl, rfl, h0, r0⟩ := trodAll_cons hA
  obtain ⟨rfl, rfl, rfl⟩ := trodAll_nil r0
  obtain rfl : args = #[v0] := by cases args; simp_all
  obtain ⟨rfl, rfl⟩ := trodVars_none hV
  have k0 := h0
  have lt0 : ∀ x ∈ p0, x.block < W.heap.size := by obtain ⟨m, hm⟩ := k0; exact DataW.trod_lt m _ _ _ hm
  obtain ⟨a0, len0, cap0, rfl⟩ := okWide_slice Try.underlying29 (hval 0 29 v0 rfl rfl)
  obtain ⟨w0, lc0, cm0⟩ : Bytes W a0 len0 ∧ len0 ≤ cap0 ∧ cap0 ≤ 9223372036854775807 := by
    obtain ⟨fuel, hf⟩ := h0
    rcases open_ints Try.underlying29 Try.underlying5 (by kernel_rfl) hf with ⟨hcs, _⟩ | ⟨x, l, c, zs, hcs, _, hl, hm, hz, _, hcell, hwz⟩
    · simp [Value.cells] at hcs
      obtain ⟨rfl, rfl, rfl⟩ := hcs
      exact ⟨fun h => absurd h (by omega), by omega, by omega⟩
    · simp [Value.cells] at hcs
      obtain ⟨rfl, rfl, rfl⟩ := hcs
      have hz' : zs.length = cap0 := by simpa using hz
      exact ⟨bytes_of (by omega) hcell hwz, hl, hm⟩
  clear hA0 hval0
  refine (walk a0 len0 cap0 W w0 lc0 cm0).mono fun e W' ⟨he, bel⟩ => ?_
  subst he
  exact ⟨_, rfl, _, _, _, [], _, [], hW', trodAll_mk1 (shut_bool Try.underlying4 _), (trodAll_cons_mk (Below.trod laidOut (by kernel_rfl) (of_decide_eq_true (by kernel_rfl)) k0 bel lt0) trodAll_mk0), rfl, bel.frame _, fun h => by cases h⟩

theorem over : Rows.fnOverlapOfShortRow.holds Try.pinned (OpenSpec.ofChange Rows.fnOverlapOfShortSpec) :=
  OpenClaim.holds_of_wide 10 Try.f10 rfl rfl rfl rfl rfl rfl rfl ⟨rfl, rfl, rfl, rfl, rfl⟩ rfl rfl rfl rfl rfl (by kernel_rfl) Try.func10 (by kernel_rfl)
    (of_decide_eq_true (by kernel_rfl)) (by unfold Func.isWrapper; first | (rw [if_pos (by decide +kernel)]; kernel_rfl) | (rw [if_neg (by decide +kernel)]; exact ⟨rfl, rfl⟩))
    (fun os started H enc _ => lifted os started H enc)

theorem proved : Rows.FnOverlapOfShortSaid := over
#print axioms proved
end Go.Proofs.Ytoiobkoeghjjoaa.fnOverlapOfShort
