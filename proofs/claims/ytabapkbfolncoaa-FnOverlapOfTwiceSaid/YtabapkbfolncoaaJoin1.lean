/-
  JoinParts of the reference: what it returns, for all lists. equalInts, equalParts where both are equal.
-/
import Derived.Test.YtabapkbfolncoaaPlainJoin
namespace Go.Proofs.Ytabapkbfolncoaa
open Go.RowKit
attribute [local go_sem ↓] Go.wp_at_zero Go.wp_at_succ

/-- What JoinParts gives: the numbers in new memory, or nil. -/
def JoinTo (w : World) (r : Option (List Int)) (e : Ending) (w' : World) : Prop :=
  ∃ (A : Option Addr) (n cap : Nat), e = .returned (.tuple #[.slice A n cap, .bool r.isSome]) ∧ (r.getD []).length = n ∧ Mine w' w.heap.size 1 A n cap ((r.getD []).map (Value.int .i64)) ∧ Below w.heap.size w w'
theorem JoinTo.none_ {w w' : World} {r : Option (List Int)} (hr : r = none) (hb : Below w.heap.size w w') : JoinTo w r (.returned (.tuple #[.slice none 0 0, .bool false])) w' := by
  subst hr; exact ⟨none, 0, 0, rfl, rfl, Mine.nil_, hb⟩
theorem JoinTo.some_ {w w' : World} {r : Option (List Int)} {xs : List Int} {A : Option Addr} {n cap : Nat} (hr : r = some xs) (hn : xs.length = n) (hm : Mine w' w.heap.size 1 A n cap (xs.map (Value.int .i64))) (hb : Below w.heap.size w w') : JoinTo w r (.returned (.tuple #[.slice A n cap, .bool true])) w' := by
  subst hr; exact ⟨A, n, cap, rfl, hn, hm, hb⟩
theorem validP_six {L : List Pt} (hv : validP L = true) : L.length ≤ 6 := by
  simp only [validP, Bool.and_eq_true, decide_eq_true_eq] at hv; exact hv.2

/-- equalInts where both are equal. -/
theorem equalInts_same (a a' : Option Addr) (n c c' B B' : Nat) (xs : List Int) (w : World) (hn : xs.length = n) (hb : n ≤ 1048576) (hr : Row .i64 w B a xs) (hr' : Row .i64 w B' a' xs) :
    Calls Try.prog 25 #[.slice a n c, .slice a' n c'] w fun e w' => e = .returned (.bool true) ∧ ∃ q, w' = w.drewN q := by
  go_enter Try.func25, Try.ntmps25
  go_wp2
  go_loopw [5] (fun i wr => ∃ (k q : Nat), k ≤ n ∧ i = .int .i64 k ∧ wr = w.drewN q) (fun i _ => n - (intOf i).toNat)
  case atStart => exact ⟨0, 0, Nat.zero_le _, rfl, rfl⟩
  case round =>
    obtain ⟨k, q, hk, rfl, rfl⟩ := hrel
    by_cases hlt : k < n
    · obtain ⟨b, o, rfl, _, hc⟩ := hr (by omega)
      obtain ⟨b', o', rfl, _, hc'⟩ := hr' (by omega)
      have hcell := hc k (by omega)
      have hcell' := hc' k (by omega)
      clear hc hc'
      obtain ⟨x, hx⟩ : ∃ x, x = xs.getD k 0 := ⟨_, rfl⟩
      rw [← hx] at hcell hcell'
      clear hx
      have l1 : (k : Int) < (n : Int) := by omega
      have l2 : (0 : Int) ≤ (k : Int) := by omega
      go_wp2
      go_quiet (fail)
      go_wp2
      go_roundw
      case rel => exact ⟨k + 1, _, by omega, by go_num, rfl⟩
      case measure => simp [intOf]; omega
    · go_wp2
      go_ret
      exact ⟨rfl, q, rfl⟩

set_option maxHeartbeats 1600000 in
/-- equalParts where both are equal. -/
theorem equalParts_same (a a' : Option Addr) (n c c' B B' : Nat) (L : List Pt) (w : World) (hn : L.length = n) (hb : n ≤ 1048576) (hx1 : ∀ i, i < L.length → (L.getD i dP).2.2.length ≤ 1048576) (hr : PRow w B a L) (hr' : PRow w B' a' L) :
    Calls Try.prog 32 #[.slice a n c, .slice a' n c'] w fun e w' => e = .returned (.bool true) ∧ ∃ q, w' = w.drewN q := by
  have HX1 := Lib.hid hx1
  clear hx1
  go_enter Try.func32, Try.ntmps32
  go_wp2
  go_loopw [5] (fun i wr => ∃ (k q : Nat), k ≤ n ∧ i = .int .i64 k ∧ wr = w.drewN q) (fun i _ => n - (intOf i).toNat)
  case atStart => exact ⟨0, 0, Nat.zero_le _, rfl, rfl⟩
  case round =>
    obtain ⟨k, q, hk, rfl, rfl⟩ := hrel
    by_cases hlt : k < n
    · obtain ⟨b, o, rfl, h9, hc⟩ := hr (by omega)
      obtain ⟨b', o', rfl, h9', hc'⟩ := hr' (by omega)
      obtain ⟨d, e, p0, p1, p2, hrow, hle, hem⟩ := hc k (by omega)
      obtain ⟨d', e', q0, q1, q2, hrow', hle', hem'⟩ := hc' k (by omega)
      have hsm := HX1.out k (by omega)
      clear hc hc' hr hr'
      obtain ⟨⟨t, m, xs⟩, hx⟩ : ∃ p, p = L.getD k dP := ⟨_, rfl⟩
      rw [← hx] at p0 p1 p2 hrow q0 q1 q2 hrow' hsm
      simp only at p0 p1 p2 hrow q0 q1 q2 hrow' hsm
      clear hx hle hle'
      have R1 := Lib.hid hrow
      have R2 := Lib.hid hrow'
      have l1 : (k : Int) < (n : Int) := by omega
      have l2 : (0 : Int) ≤ (k : Int) := by omega
      have hmm : (m == m) = true := by simp
      have E : Hid (∀ j, Calls Try.prog 25 #[.slice d xs.length e, .slice d' xs.length e'] (w.drewN (q + j)) fun e w'' => e = .returned (.bool true) ∧ ∃ m, w'' = w.drewN (q + m)) := Lib.hid fun j =>
        (equalInts_same d d' xs.length e e' B B' xs (w.drewN (q + j)) rfl hsm (R1.out.drewN (q + j)) (R2.out.drewN (q + j))).mono fun _ _ ⟨he, q', hq⟩ => ⟨he, j + q', by rw [hq, World.drewN_drewN, Nat.add_assoc]⟩
      clear hrow hrow'
      go_wp2
      go_quiet ((go_at_call 25; exact E.out _))
      go_wp2
      go_roundw
      case rel => exact ⟨k + 1, _, by omega, by go_num, by first | rfl | rw [World.drewN_drewN]⟩
      case measure => simp [intOf]; omega
    · go_wp2
      go_ret
      exact ⟨rfl, q, rfl⟩

set_option maxHeartbeats 3200000 in
theorem specjoinParts_any (A : Option Addr) (n c : Nat) (L : List Pt) (w : World) (hn : L.length = n) (hm : n ≤ 9223372036854775807) (hv : validP L = true) (ho : overL L = -1) (hr : PRow w w.heap.size A L) :
    Calls Try.prog 39 #[.slice A n c] w (JoinTo w (joinOf L)) := by
  obtain ⟨i0, hi, hz0, hz1, hz2⟩ := info_parts int_info
  have HI := Lib.hid hi
  have HZ := Lib.hid hz0
  have HS := Lib.hid hz1
  have HY := Lib.hid hz2
  clear hi hz0 hz1 hz2
  have hn6 : n ≤ 6 := by rw [← hn]; exact validP_six hv
  obtain ⟨S, hS⟩ : ∃ S, S = srtP L := ⟨_, rfl⟩
  have HSe := Lib.hid hS
  have HP : Hid (S.Perm L) := Lib.hid (by rw [hS]; exact srtP_perm L)
  have HW := Lib.hid (ends_of hv ho HP.out (by rw [hS]; exact srtP_pw L))
  have hSl : S.length = n := by rw [HP.out.length_eq, hn]
  have HSl := Lib.hid hSl
  have HBroken : Hid (chainP S 0 = false → joinOf L = none) := Lib.hid fun h => joinOf_broken (by rw [← hS]; exact h)
  have HYes : Hid (0 < n → chainP S 0 = true → joinOf L = some (dataP S)) := Lib.hid fun h0 h => by rw [hS]; exact joinOf_yes hv (by omega) ho (by rw [← hS]; exact h)
  have VV := Lib.hid hv
  clear hS hv ho
  have m0 := Lib.hid (Mine.new w 3 1 0 #[] rfl (by simp [maxLen]))
  have B0 := Lib.hid ((Below.refl w.heap.size w).alloc (Nat.le_refl _) (.cells #[] 3))
  have HStart : Hid (n = 0 → joinOf L = none) := Lib.hid fun h => by
    have : L = [] := List.eq_nil_of_length_eq_zero (by omega)
    rw [this]; exact joinOf_nil
  go_enter Try.func39, Try.ntmps39
  go_wp2
  go_loopw [4, 5, 6] (fun vo ve vi wr => ∃ (Ao : Option Addr) (i o cap : Nat) (e : Int), vo = .slice Ao o cap ∧ ve = .int .i64 e ∧ vi = .int .i64 i ∧ i ≤ n ∧ o ≤ 12 * i ∧ Mine wr w.heap.size 1 Ao o cap ((dataP (S.take i)).map (Value.int .i64)) ∧ (dataP (S.take i)).length = o ∧ (i < n → Along S i o ∧ e = 0) ∧ (i = n → joinOf L = if e = 1 then some (dataP S) else none) ∧ Below w.heap.size w wr) (fun _ _ vi _ => n - (intOf vi).toNat)
  case atStart => exact ⟨some ⟨w.heap.size, 0, none⟩, 0, 0, 0, 0, rfl, rfl, rfl, Nat.zero_le _, Nat.le_refl _, m0.out, rfl, fun _ => ⟨along_start VV.out HP.out, rfl⟩, fun h => by rw [HStart.out h.symm]; rfl, B0.out⟩
  case round =>
    obtain ⟨Ao, i, o, cap, e, rfl, rfl, rfl, hin, ho12, hM, hdl, hA, hE, hB⟩ := hrel
    obtain ⟨wo, rfl⟩ : ∃ wo : World, wo = wr := ⟨_, rfl⟩
    have MM := Lib.hid hM
    have BB := Lib.hid hB
    have AA := Lib.hid hA
    have EE := Lib.hid hE
    have DL := Lib.hid hdl
    clear hM hB hA hE hdl m0 B0
    by_cases hlt : i < n
    · obtain ⟨hal, rfl⟩ := AA.out hlt
      have AL := Lib.hid hal
      have HN := Lib.hid (along_next hal (by omega))
      have HG : Hid (∀ j, j < n → (L.getD j dP).1 = (o : Int) → L.getD j dP = S.getD i dP) := Lib.hid fun j hj he => along_one hal VV.out HP.out HW.out (by omega) (getP_mem (by omega)) he
      have HM : Hid (∃ j, j < n ∧ S.getD i dP = L.getD j dP) := Lib.hid (by
        obtain ⟨j, hj, e⟩ := List.getElem_of_mem (HP.out.mem_iff.1 (getP_mem (i := i) (by omega)))
        exact ⟨j, by omega, by rw [← e, List.getD_eq_getElem?_getD, List.getElem?_eq_getElem hj]; rfl⟩)
      clear hal
      obtain ⟨b, ob, rfl, hbl, hc⟩ := hr (by omega)
      have HC := Lib.hid hc
      have l1 : (i : Int) < (n : Int) := by omega
      clear hc
      go_wp2
      go_loopw [7, 8] (fun va vk wr => ∃ (a : Int) (k : Nat), va = .int .i64 a ∧ vk = .int .i64 k ∧ k ≤ n ∧ ((a = -1 ∧ ∀ j, j < k → (L.getD j dP).1 ≠ (o : Int)) ∨ ∃ j : Nat, j < k ∧ a = (j : Int) ∧ (L.getD j dP).1 = (o : Int)) ∧ wr = wo) (fun _ vk _ => n - (intOf vk).toNat)
      case atStart => exact ⟨-1, 0, rfl, rfl, Nat.zero_le _, .inl ⟨rfl, fun j hj => absurd hj (by omega)⟩, rfl⟩
      case round =>
        obtain ⟨a, k, rfl, rfl, hk, hfound, rfl⟩ := hrel
        have FF := Lib.hid hfound
        clear hfound
        by_cases hkn : k < n
        · obtain ⟨a', c', q0, q1, q2, hrow, hlc, hcm⟩ := HC.out k (by omega)
          obtain ⟨t, ht⟩ : ∃ t, t = (L.getD k dP).1 := ⟨_, rfl⟩
          rw [← ht] at q0
          have HT := Lib.hid ht
          have c0 := (BB.out.cell (p := ⟨b, ob + k * 3, none⟩) hbl).trans q0
          have m1 : (k : Int) < (n : Int) := by omega
          have m2 : (0 : Int) ≤ (k : Int) := by omega
          clear ht q0 q1 q2 hrow hlc hcm
          by_cases he : t = (o : Int)
          · have HF : Hid ((L.getD k dP).1 = (o : Int)) := Lib.hid (by rw [← HT.out]; exact he)
            subst he
            go_wp2
            go_roundw
            case rel => exact ⟨(k : Int), k + 1, rfl, by go_num, by omega, .inr ⟨k, by omega, rfl, HF.out⟩, trivial⟩
            case measure => simp [intOf]; omega
          · have HF : Hid ((a = -1 ∧ ∀ j, j < k + 1 → (L.getD j dP).1 ≠ (o : Int)) ∨ ∃ j : Nat, j < k + 1 ∧ a = (j : Int) ∧ (L.getD j dP).1 = (o : Int)) := Lib.hid (by
              rcases FF.out with ⟨h1, h2⟩ | ⟨j, h1, h2⟩
              · refine .inl ⟨h1, fun j hj => ?_⟩
                rcases Nat.lt_or_eq_of_le (Nat.lt_succ_iff.1 hj) with h | rfl
                · exact h2 j h
                · rw [← HT.out]; exact he
              · exact .inr ⟨j, by omega, h2⟩)
            go_wp2
            go_roundw
            case rel => exact ⟨a, k + 1, rfl, by go_num, by omega, HF.out, trivial⟩
            case measure => simp [intOf]; omega
        · obtain rfl : k = n := by omega
          rcases FF.out with ⟨rfl, hno⟩ | ⟨j, hj, rfl, hje⟩
          · have HJ : Hid (joinOf L = none) := Lib.hid (HBroken.out (by
              obtain ⟨j, hj, e⟩ := HM.out
              have := hno j hj
              rw [HN.out, e, decide_eq_false this]; rfl))
            clear hno
            go_wp2
            go_ret2
            exact .none_ HJ.out BB.out
          · have HQ := Lib.hid (HG.out j hj hje)
            have hg := validP_get VV.out (i := j) (by omega)
            obtain ⟨a', c', q0, q1, q2, hrow, hlc, hcm⟩ := HC.out j (by omega)
            obtain ⟨⟨t, m, xs⟩, hx⟩ : ∃ q, q = L.getD j dP := ⟨_, rfl⟩
            have HE : Hid (S.getD i dP = (t, m, xs)) := Lib.hid (by rw [hx]; exact HQ.out.symm)
            rw [← hx] at q1 q2 hrow hlc hg hje
            simp only at q1 q2 hrow hlc hje
            obtain ⟨⟨t0, t9⟩, x1, x2⟩ := goodP_range hg
            obtain ⟨len, hlen⟩ : ∃ len, len = xs.length := ⟨_, rfl⟩
            have HL := Lib.hid hlen
            rw [← hlen] at q2 hlc x1 x2
            have c1 := (BB.out.cell (p := ⟨b, ob + j * 3 + 1, none⟩) hbl).trans q1
            have c2 := (BB.out.cell (p := ⟨b, ob + j * 3 + 2, none⟩) hbl).trans q2
            have hSx := Lib.hid (((hrow.below BB.out).sees))
            have hsz := BB.out.size
            have HN2 := Lib.hid (HN.out)
            rw [HE.out] at HN2
            have HJe := Lib.hid hje
            have HTk : Hid (dataP (S.take (i + 1)) = dataP (S.take i) ++ xs) := Lib.hid (by rw [take_snocP (by rw [HSl.out]; omega), HE.out]; simp [dataP])
            have HLen2 : Hid ((dataP (S.take (i + 1))).length = o + len) := Lib.hid (by rw [HTk.out, List.length_append, DL.out, HL.out])
            have m1 : (j : Int) < (k : Int) := by omega
            have m2 : (0 : Int) ≤ (j : Int) := by omega
            have m3 : ¬ ((j : Int) < 0) := by omega
            have hxl : (xs.map (Value.int .i64)).length = len * 1 := by simp [hlen]
            have HXL := Lib.hid hxl
            clear hx hlen q0 q1 q2 hrow hg hje hxl
            have fin : ∀ (A' : Option Addr) (cap' : Nat) (w9 : World), Mine w9 w.heap.size 1 A' (o + len) cap' ((dataP (S.take i)).map (Value.int .i64) ++ xs.map (Value.int .i64)) → Mine w9 w.heap.size 1 A' (o + len) cap' ((dataP (S.take (i + 1))).map (Value.int .i64)) := fun A' cap' w9 h => by rw [HTk.out, List.map_append]; exact h
            have HFin := Lib.hid fin
            clear fin
            cases m
            · by_cases h1 : i + 1 < k
              · have HJ : Hid (joinOf L = none) := Lib.hid (HBroken.out (by rw [HN2.out, HSl.out, decide_eq_true h1]; simp))
                have h2 : (i : Int) + 1 < (k : Int) := by omega
                go_wp2
                go_ret2
                exact .none_ HJ.out BB.out
              · have h2 : ¬ ((i : Int) + 1 < (k : Int)) := by omega
                have HJ : Hid (joinOf L = some (dataP S)) := Lib.hid (HYes.out (by omega) (by
                  rw [HN2.out, HSl.out, decide_eq_false h1, List.drop_eq_nil_of_le (by rw [HSl.out]; omega), decide_eq_true HJe.out]; rfl))
                go_wp2_with (at_builtin; (refine wpList_append_mine _ rfl _ _ 24 rfl w.heap.size 3 i0 (.int .i64 0) 1 8 Try.underlying24 HI.out HZ.out HS.out HY.out rfl (by omega) _ o cap ((dataP (S.take i)).map (Value.int .i64)) rfl MM.out _ _ len c' (xs.map (Value.int .i64)) rfl HXL.out hSx.out (one_ints xs) (by unfold maxLen; omega) (by omega) (by omega) ?_); intro A' cap' w9 m9 g9 at9)
                have HM9 := Lib.hid (HFin.out A' cap' w9 m9)
                have HB9 := Lib.hid (BB.out.grown g9 (by omega) (fun j' e => (MM.out.lt e).1))
                clear m9 g9 at9
                go_wp2
                go_roundw
                case rel => exact ⟨A', i + 1, o + len, cap', 1, by go_num, by go_num, by go_num, by omega, by omega, HM9.out, HLen2.out, fun h => absurd h h1, fun _ => by rw [HJ.out]; rfl, HB9.out⟩
                case measure => simp [intOf]; omega
            · have HA9 : Hid (i + 1 < k → Along S (i + 1) (o + len) ∧ (0 : Int) = 0) := Lib.hid fun h1 => by
                have h2 := along_step AL.out VV.out HP.out HW.out (by rw [HSl.out]; omega) (by rw [HE.out]; exact HJe.out) (by rw [HE.out, HSl.out, decide_eq_true h1])
                rw [HE.out] at h2
                rw [HL.out]; exact ⟨h2, rfl⟩
              have HE9 : Hid (i + 1 = k → joinOf L = if (0 : Int) = 1 then some (dataP S) else none) := Lib.hid fun h1 => by
                rw [HBroken.out (by rw [HN2.out, HSl.out, decide_eq_false (by omega : ¬ i + 1 < k)]; simp)]; rfl
              go_wp2_with (at_builtin; (refine wpList_append_mine _ rfl _ _ 24 rfl w.heap.size 3 i0 (.int .i64 0) 1 8 Try.underlying24 HI.out HZ.out HS.out HY.out rfl (by omega) _ o cap ((dataP (S.take i)).map (Value.int .i64)) rfl MM.out _ _ len c' (xs.map (Value.int .i64)) rfl HXL.out hSx.out (one_ints xs) (by unfold maxLen; omega) (by omega) (by omega) ?_); intro A' cap' w9 m9 g9 at9)
              have HM9 := Lib.hid (HFin.out A' cap' w9 m9)
              have HB9 := Lib.hid (BB.out.grown g9 (by omega) (fun j' e => (MM.out.lt e).1))
              clear m9 g9 at9
              go_wp2
              go_roundw
              case rel => exact ⟨A', i + 1, o + len, cap', 0, by go_num, rfl, by go_num, by omega, by omega, HM9.out, HLen2.out, HA9.out, HE9.out, HB9.out⟩
              case measure => simp [intOf]; omega
    · obtain rfl : i = n := by omega
      have hJ := EE.out rfl
      have HTn : Hid (S.take i = S) := Lib.hid (List.take_of_length_le (by rw [HSl.out]; omega))
      by_cases he : e = 1
      · rw [if_pos he] at hJ
        have HJ := Lib.hid hJ
        subst he
        rw [HTn.out] at MM DL
        clear hJ
        go_wp2
        go_ret2
        exact .some_ HJ.out DL.out MM.out BB.out
      · rw [if_neg he] at hJ
        have HJ := Lib.hid hJ
        clear hJ
        go_wp2
        go_ret2
        exact .none_ HJ.out BB.out

set_option maxHeartbeats 1600000 in
theorem specJoinParts_any (A : Option Addr) (n c : Nat) (L : List Pt) (w : World) (hn : L.length = n) (hm : n ≤ 9223372036854775807) (hr : PRow w w.heap.size A L) :
    Calls Try.prog 16 #[.slice A n c] w (JoinTo w (joinOf L)) := by
  go_enter Try.func16, Try.ntmps16
  go_wp2_with fail
  refine (specvalidParts_any A n c L _ hn hm hr).mono ?_
  rintro e w1 ⟨rfl, b1⟩
  have B1 := Lib.hid b1
  have Q1 := Lib.hid (hr.on b1)
  clear b1 hr
  cases hv : validP L
  · have HJ := Lib.hid (joinOf_bad hv)
    clear hv
    go_wp2
    go_ret2
    exact .none_ HJ.out B1.out
  have VV := Lib.hid hv
  have HO : Hid (overOf L = overL L) := Lib.hid (by unfold overOf; rw [hv]; rfl)
  clear hv
  go_wp2_with fail
  refine (specOverlapOf_any A n c L _ hn hm Q1.out).mono ?_
  rintro e w2 ⟨rfl, b2⟩
  have B2 := Lib.hid (next B1.out b2)
  have Q2 := Lib.hid (Q1.out.on b2)
  clear b2
  rw [HO.out]
  by_cases h0 : 0 ≤ overL L
  · have HJ := Lib.hid (joinOf_over (L := L) (by omega))
    obtain ⟨v, hv⟩ : ∃ v, v = overL L := ⟨_, rfl⟩
    rw [← hv] at h0 ⊢
    clear hv
    go_wp2
    go_ret2
    exact .none_ HJ.out B2.out
  · have HV : Hid (overL L = -1) := Lib.hid (by
      unfold overL at h0 ⊢
      split
      · rename_i h; rw [if_pos h] at h0; omega
      · rfl)
    rw [HV.out]
    clear h0
    go_wp2_with fail
    refine (specjoinParts_any A n c L _ hn hm VV.out HV.out Q2.out).mono ?_
    rintro e w3 ⟨A3, n3, c3, rfl, hl3, m3, b3⟩
    have H3 := Lib.hid (m3.mono (base' := w.heap.size) B2.out.size)
    have B3 := Lib.hid (next B2.out b3)
    have L3 := Lib.hid hl3
    clear m3 b3 hl3
    go_wp2
    go_ret2
    exact ⟨A3, n3, c3, rfl, L3.out, H3.out, B3.out⟩
end Go.Proofs.Ytabapkbfolncoaa
