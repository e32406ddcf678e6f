/-
  'FnOverlapOf': for every input the law returns true, and each argument reads afterwards as it read before. No condition.
  The frame of the row's step follows the kit's skeleton; the walk is ours.
-/
import Derived.Test.YtabapkbfolncoaaLawKit
import Derived.Test.YtabapkbfolncoaaPlainPart
import Derived.Test.YtabapkbfolncoaaDrawPart
namespace Go.Proofs.Ytabapkbfolncoaa.fnOverlapOf
open Go.ChangeShapes Go.WideShapes Go.ChangeAt Go.RowKit
set_option linter.unusedVariables false

theorem bdn {B : Nat} {a w : World} (h : Below B a w) (k : Nat) : Below B a (w.drewN k) := ⟨h.os, h.tape, h.output, h.size, h.block⟩
theorem hitP_take {L : List Pt} {m i : Nat} (h : i < m) : hitP (L.take m) i = hitP L i := by
  unfold hitP
  rw [List.take_take, Nat.min_eq_left (by omega), getD_takeP h]
theorem over_bad {L : List Pt} (hv : validP L = false) : overOf L = -1 := by unfold overOf; rw [hv]; rfl
/-- Nothing, or the first hit. -/
theorem over_cases {L : List Pt} (hv : validP L = true) : overOf L = -1 ∨ ∃ i : Nat, i < L.length ∧ overOf L = (i : Int) ∧ hitP L i = true ∧ overOf (L.take i) = -1 := by
  have e : overOf L = overL L := by unfold overOf; rw [hv]; rfl
  rw [e]
  rcases leastB (hitP L) L.length with h | ⟨i, hi, hp, hno⟩
  · exact .inl (overL_none h)
  · refine .inr ⟨i, hi, overL_at hi hp hno, hp, ?_⟩
    have hl : (L.take i).length = i := by rw [List.length_take]; omega
    have hv' := validP_sub (M := L.take i) hv (fun p hp => List.mem_of_mem_take hp) (by omega)
    unfold overOf
    rw [hv', if_pos rfl]
    exact overL_none fun j hj => by rw [hitP_take (by omega)]; exact hno j (by omega)
/-- Places of q before x that p has. -/
def sawTo (p q : Pt) (x : Nat) : Bool := (List.range x).any fun (k : Nat) => covP (q.1 + (k : Int)) p
def sawP (L : List Pt) (q : Pt) (i : Nat) : Bool := (L.take i).any fun p => sawTo p q q.2.2.length
theorem sawTo_succ {p q : Pt} {x : Nat} : sawTo p q (x + 1) = (sawTo p q x || covP (q.1 + (x : Int)) p) := by
  unfold sawTo
  rw [List.range_succ, List.any_append]; simp
theorem sawP_succ {L : List Pt} {q : Pt} {i : Nat} (h : i < L.length) : sawP L q (i + 1) = (sawP L q i || sawTo (L.getD i dP) q q.2.2.length) := by
  unfold sawP
  rw [List.take_succ_eq_append_getElem h, List.any_append, List.getD_eq_getElem?_getD, List.getElem?_eq_getElem h]; simp
/-- Two parts that meet have a place that both have. -/
theorem saw_meet {p q : Pt} (h : meetP q p = true) (hp : 1 ≤ p.2.2.length) (hq : 1 ≤ q.2.2.length) : sawTo p q q.2.2.length = true := by
  simp only [meetP, Bool.and_eq_true, decide_eq_true_eq] at h
  refine List.any_eq_true.2 ⟨(if q.1 ≤ p.1 then p.1 - q.1 else 0).toNat, List.mem_range.2 ?_, inR_yes ?_⟩
  · split <;> omega
  · split <;> omega
theorem sawP_hit {L : List Pt} {i : Nat} (hv : validP L = true) (hi : i < L.length) (h : hitP L i = true) : sawP L (L.getD i dP) i = true := by
  obtain ⟨p, hp, he⟩ := List.any_eq_true.1 h
  refine List.any_eq_true.2 ⟨p, hp, ?_⟩
  have good : ∀ r ∈ L, 1 ≤ r.2.2.length := fun r hr => by
    simp only [validP, Bool.and_eq_true] at hv
    obtain ⟨t, m, xs⟩ := r
    exact (goodP_range (List.all_eq_true.1 hv.1 _ hr)).2.1
  exact saw_meet he (good p (List.mem_of_mem_take hp)) (good _ (getP_mem hi))

set_option maxHeartbeats 1600000 in
theorem walk (a : Option Addr) (n c : Nat) (w : World) (w0 : Bytes w a n) (hnc : n ≤ c) (hc : c ≤ 9223372036854775807) :
    Calls Try.prog 9 #[.slice a n c] w fun e w' => e = .returned (.bool true) ∧ Below w.heap.size w w' := by
  by_cases hl : n ≤ 1048576
  · go_enter Try.func9, Try.ntmps9
    go_wp2_with fail
    refine (DrawOverlapOf_any a n c _ w0 hnc hc).mono ?_
    rintro e w1 ⟨A, m, cap, V, rfl, hm7, hQ, m1, b1⟩
    have R1 := Lib.hid m1.row
    have hmc := m1.2.1.2.1
    have hcm := m1.2.1.2.2.1
    unfold maxLen at hcm
    obtain ⟨L, hL⟩ : ∃ L, L = V.map PV.pt := ⟨_, rfl⟩
    have hLm : L.length = m := by rw [hL, List.length_map]; exact m1.1
    rw [← hL] at R1
    have B1 := Lib.hid b1
    clear w0 hnc hc b1 m1 hQ hL
    go_wp2_with fail
    refine (OverlapOf_any A m cap L _ hLm hmc (by omega) R1.out).mono ?_
    rintro e w2 ⟨rfl, b2⟩
    have R2 := Lib.hid (R1.out.on b2)
    have B2 := Lib.hid (next B1.out b2)
    clear b2
    go_wp2_with fail
    refine (specOverlapOf_any A m cap L _ hLm (by omega) R2.out).mono ?_
    rintro e w3 ⟨rfl, b3⟩
    have R3 := Lib.hid (R2.out.on b3)
    have B3 := Lib.hid (next B2.out b3)
    clear b3
    have hcase : overOf L = -1 ∨ (validP L = true ∧ ∃ i : Nat, i < m ∧ overOf L = (i : Int) ∧ hitP L i = true ∧ overOf (L.take i) = -1) := by
      cases hv : validP L
      · exact .inl (over_bad hv)
      · rcases over_cases hv with h | ⟨i, h1, h2⟩
        · exact .inl h
        · exact .inr ⟨rfl, i, by omega, h2⟩
    rcases hcase with hk | ⟨hv, N, hN, hk, hhit, hno⟩
    · have HK := Lib.hid hk
      rw [hk]
      clear hk
      go_wp2_with fail
      refine (specOverlapOf_any A m cap L _ hLm (by omega) R3.out).mono ?_
      rintro e w4 ⟨rfl, b4⟩
      have B4 := Lib.hid (next B3.out b4)
      clear b4
      rw [HK.out]
      go_wp2
      go_ret
      exact ⟨ret_bool (by simp), B4.out⟩
    have VV := Lib.hid hv
    have HH := Lib.hid (sawP_hit hv (by omega) hhit)
    have HNo := Lib.hid hno
    rw [hk]
    clear hk hhit hno
    obtain ⟨b, o, rfl, hbl, hcell⟩ := R3.out (by omega)
    have HCell := Lib.hid hcell
    obtain ⟨a', c', q0, q1, q2, -, hlc, hcm'⟩ := hcell N (by omega)
    have hg := validP_get VV.out (i := N) (by omega)
    obtain ⟨⟨t, mr, xs⟩, hx⟩ : ∃ q, q = L.getD N dP := ⟨_, rfl⟩
    rw [← hx] at q0 q1 q2 hg HH
    simp only at q0 q1 q2
    obtain ⟨⟨t0, t9⟩, y1, y2⟩ := goodP_range hg
    obtain ⟨len, hlen⟩ : ∃ len, len = xs.length := ⟨_, rfl⟩
    have HLen := Lib.hid hlen
    rw [← hlen] at q2 y1 y2
    have l4 : ¬ ((N : Int) < 0) := by omega
    have l5 : ¬ ((m : Int) ≤ (N : Int)) := by omega
    have l6 : (N : Int) < (m : Int) := by omega
    have l7 : decide (m ≤ N) = false := decide_eq_false (by omega)
    have l8 : decide ((m : Int) ≤ (N : Int)) = false := decide_eq_false (by omega)
    have l9 : decide ((N : Int) < 0) = false := decide_eq_false (by omega)
    clear hx hlen hg hv hcell hlc hcm'
    go_wp2
    go_loopw [5, 6] (fun s i wr => ∃ l : Nat, l ≤ N ∧ s = .bool (sawP L (t, mr, xs) l) ∧ i = .int .i64 l ∧ Below w3.heap.size w3 wr) (fun _ i _ => N - (intOf i).toNat)
    case atStart => exact ⟨0, Nat.zero_le _, rfl, rfl, Below.refl _ _⟩
    case round =>
      obtain ⟨l, hlN, rfl, rfl, hB⟩ := hrel
      obtain ⟨wo, rfl⟩ : ∃ wo : World, wo = wr := ⟨_, rfl⟩
      have BB := Lib.hid hB
      clear hB
      by_cases hlt : l < N
      · obtain ⟨a2, c2, p0, p1, p2, -, hlc, hcm'⟩ := HCell.out l (by omega)
        have hg := validP_get VV.out (i := l) (by omega)
        have HS := Lib.hid (sawP_succ (q := (t, mr, xs)) (show l < L.length by omega))
        obtain ⟨⟨u, mr2, ys⟩, hx2⟩ : ∃ q, q = L.getD l dP := ⟨_, rfl⟩
        rw [← hx2] at p0 p1 p2 hg HS
        simp only at p0 p1 p2
        obtain ⟨⟨u0, u9⟩, z1, z2⟩ := goodP_range hg
        obtain ⟨ln2, hln2⟩ : ∃ len, len = ys.length := ⟨_, rfl⟩
        have HL2 := Lib.hid hln2
        rw [← hln2] at p2 z1 z2
        have l1 : (l : Int) < (N : Int) := by omega
        have l2 : (0 : Int) ≤ (l : Int) := by omega
        clear hx2 hln2 hg hlc hcm'
        go_wp2
        go_loopw [5, 7] (fun s i wr => ∃ x : Nat, x ≤ len ∧ s = .bool (sawP L (t, mr, xs) l || sawTo (u, mr2, ys) (t, mr, xs) x) ∧ i = .int .i64 x ∧ Below w3.heap.size w3 wr) (fun _ i _ => len - (intOf i).toNat)
        case atStart => exact ⟨0, Nat.zero_le _, by simp [sawTo], rfl, BB.out⟩
        case round =>
          obtain ⟨x, hxl, rfl, rfl, hB⟩ := hrel
          have B6 := Lib.hid hB
          clear hB
          have c0 := (B6.out.cell (p := ⟨b, o + N * 3, none⟩) hbl).trans q0
          have c2' := (B6.out.cell (p := ⟨b, o + N * 3 + 2, none⟩) hbl).trans q2
          have d0 := (B6.out.cell (p := ⟨b, o + l * 3, none⟩) hbl).trans p0
          have d2 := (B6.out.cell (p := ⟨b, o + l * 3 + 2, none⟩) hbl).trans p2
          by_cases hxt : x < len
          · have HT := Lib.hid (sawTo_succ (p := (u, mr2, ys)) (q := (t, mr, xs)) (x := x))
            have HC : Hid (covP (t + (x : Int)) (u, mr2, ys) = inR (t + (x : Int)) u (u + (ln2 : Int) - 1)) := Lib.hid (by rw [HL2.out]; rfl)
            rw [HC.out] at HT
            have x1 : (x : Int) < (len : Int) := by omega
            obtain ⟨s, hs⟩ : ∃ s, s = (sawP L (t, mr, xs) l || sawTo (u, mr2, ys) (t, mr, xs) x) := ⟨_, rfl⟩
            have HSs := Lib.hid hs
            rw [← hs]
            clear hs HC
            have HN0 : Hid ((sawP L (t, mr, xs) l || sawTo (u, mr2, ys) (t, mr, xs) (x + 1)) = (s || inR (t + (x : Int)) u (u + (ln2 : Int) - 1))) := Lib.hid (by rw [HT.out, HSs.out, Bool.or_assoc])
            cases s
            · by_cases h1 : u ≤ t + (x : Int)
              · have e1 : decide (u ≤ t + (x : Int)) = true := decide_eq_true h1
                by_cases h2 : t + (x : Int) < u + (ln2 : Int)
                · have e2 : decide (t + (x : Int) < u + (ln2 : Int)) = true := decide_eq_true h2
                  have HN : Hid ((sawP L (t, mr, xs) l || sawTo (u, mr2, ys) (t, mr, xs) (x + 1)) = true) := Lib.hid (by rw [HN0.out, inR_yes ⟨h1, by omega⟩]; rfl)
                  go_wp2
                  go_quiet (fail)
                  go_wp2
                  go_roundw
                  case rel => exact ⟨x + 1, by omega, by rw [HN.out], by go_num, bdn B6.out _⟩
                  case measure => simp [intOf]; omega
                · have e2 : decide (t + (x : Int) < u + (ln2 : Int)) = false := decide_eq_false h2
                  have HN : Hid ((sawP L (t, mr, xs) l || sawTo (u, mr2, ys) (t, mr, xs) (x + 1)) = false) := Lib.hid (by rw [HN0.out]; simp [inR]; omega)
                  go_wp2
                  go_quiet (fail)
                  go_wp2
                  go_roundw
                  case rel => exact ⟨x + 1, by omega, by rw [HN.out], by go_num, bdn B6.out _⟩
                  case measure => simp [intOf]; omega
              · have e1 : decide (u ≤ t + (x : Int)) = false := decide_eq_false h1
                have HN : Hid ((sawP L (t, mr, xs) l || sawTo (u, mr2, ys) (t, mr, xs) (x + 1)) = false) := Lib.hid (by rw [HN0.out]; simp [inR]; omega)
                go_wp2
                go_quiet (fail)
                go_wp2
                go_roundw
                case rel => exact ⟨x + 1, by omega, by rw [HN.out], by go_num, bdn B6.out _⟩
                case measure => simp [intOf]; omega
            · have HN : Hid ((sawP L (t, mr, xs) l || sawTo (u, mr2, ys) (t, mr, xs) (x + 1)) = true) := Lib.hid (by rw [HN0.out]; rfl)
              go_wp2
              go_quiet (fail)
              go_wp2
              go_roundw
              case rel => exact ⟨x + 1, by omega, by rw [HN.out], by go_num, bdn B6.out _⟩
              case measure => simp [intOf]; omega
          · obtain rfl : x = len := by omega
            have HE : Hid ((sawP L (t, mr, xs) l || sawTo (u, mr2, ys) (t, mr, xs) x) = sawP L (t, mr, xs) (l + 1)) := Lib.hid (by rw [HS.out, HLen.out])
            rw [HE.out]
            go_wp2
            go_roundw
            case rel => exact ⟨l + 1, by omega, rfl, by go_num, B6.out⟩
            case measure => simp [intOf]; omega
      · obtain rfl : l = N := by omega
        rw [HH.out]
        have HT := Lib.hid ((R3.out.on BB.out).take l)
        go_wp2_with fail
        refine (OverlapOf_any _ l cap (L.take l) _ (by rw [List.length_take]; omega) (by omega) (by omega) HT.out).mono ?_
        rintro e w5 ⟨rfl, b5⟩
        rw [HNo.out]
        have B5 := Lib.hid (next (next B3.out BB.out) b5)
        clear b5
        go_wp2
        go_ret
        exact ⟨rfl, B5.out⟩
  · go_enter Try.func9, Try.ntmps9
    go_wp2
    go_ret
    exact ⟨rfl, Below.refl _ _⟩

set_option maxRecDepth 100000 in
theorem lifted (os : Os) (started : os.Started) (H : Type) (enc : TypeId × Value → H) :
    ReturnsInHanded {} Try.checked os 9 .any (Rows.fnOverlapOfSpec.pre6 enc Try.prog Try.f9 Rows.fnOverlapOfRow.domain false) (Rows.fnOverlapOfSpec.post enc Try.prog Try.f9 false true false false) := by
  refine returnsInHanded_of_change (C := Try.checked) own started (by kernel_rfl) Try.func9
    (ChangeSpec.witness6 (enc := enc) (C := Try.checked) false ⟨#[], #[.slice none 0 0], []⟩ 8 (by kernel_rfl) (by kernel_rfl) (by kernel_rfl) (by kernel_rfl)) ?_
  intro W base args ds gs before hval0 hW hcnd _
  have hval : ∀ (j : Nat) t v, Try.f9.params[j]? = some t → args[j]? = some v → Value.okWide Try.prog W .any base t v := hval0
  have hW' := hW
  obtain ⟨p, q, hA0, hV, rfl, hfz, hnd⟩ := hW
  have hA : DataW.TrodAll enc Try.prog W 0 (fun _ => true) true Try.f9.params.toList args.toList ds p := hA0
  rw [Try.params9] at hA hval
  obtain ⟨v0, vs0, d0, ds0, p0, q0, hargs, rfl, rfl, h0, r0⟩ := trodAll_cons hA
  obtain ⟨rfl, rfl, rfl⟩ := trodAll_nil r0
  obtain rfl : args = #[v0] := by cases args; simp_all
  obtain ⟨rfl, rfl⟩ := trodVars_none hV
  have k0 := h0
  have lt0 : ∀ x ∈ p0, x.block < W.heap.size := by obtain ⟨m, hm⟩ := k0; exact DataW.trod_lt m _ _ _ hm
  obtain ⟨a0, len0, cap0, rfl⟩ := okWide_slice Try.underlying34 (hval 0 34 v0 rfl rfl)
  obtain ⟨w0, lc0, cm0⟩ : Bytes W a0 len0 ∧ len0 ≤ cap0 ∧ cap0 ≤ 9223372036854775807 := by
    obtain ⟨fuel, hf⟩ := h0
    rcases open_ints Try.underlying34 Try.underlying5 (by kernel_rfl) hf with ⟨hcs, _⟩ | ⟨x, l, c, zs, hcs, _, hl, hm, hz, _, hcell, hwz⟩
    · simp [Value.cells] at hcs
      obtain ⟨rfl, rfl, rfl⟩ := hcs
      exact ⟨fun h => absurd h (by omega), by omega, by omega⟩
    · simp [Value.cells] at hcs
      obtain ⟨rfl, rfl, rfl⟩ := hcs
      have hz' : zs.length = cap0 := by simpa using hz
      exact ⟨bytes_of (by omega) hcell hwz, hl, hm⟩
  clear hA0 hval0
  refine (walk a0 len0 cap0 W w0 lc0 cm0).mono fun e W' ⟨he, bel⟩ => ?_
  subst he
  exact ⟨_, rfl, _, _, _, [], _, [], hW', trodAll_mk1 (shut_bool Try.underlying4 _), (trodAll_cons_mk (Below.trod laidOut (by kernel_rfl) (of_decide_eq_true (by kernel_rfl)) k0 bel lt0) trodAll_mk0), rfl, bel.frame _, fun h => by cases h⟩

theorem over : Rows.fnOverlapOfRow.holds Try.pinned (OpenSpec.ofChange Rows.fnOverlapOfSpec) :=
  OpenClaim.holds_of_wide 9 Try.f9 rfl rfl rfl rfl rfl rfl rfl ⟨rfl, rfl, rfl, rfl, rfl⟩ rfl rfl rfl rfl rfl (by kernel_rfl) Try.func9 (by kernel_rfl)
    (of_decide_eq_true (by kernel_rfl)) (by unfold Func.isWrapper; first | (rw [if_pos (by decide +kernel)]; kernel_rfl) | (rw [if_neg (by decide +kernel)]; exact ⟨rfl, rfl⟩))
    (fun os started H enc _ => lifted os started H enc)

theorem proved : Rows.FnOverlapOfSaid := over
#print axioms proved
end Go.Proofs.Ytabapkbfolncoaa.fnOverlapOf
