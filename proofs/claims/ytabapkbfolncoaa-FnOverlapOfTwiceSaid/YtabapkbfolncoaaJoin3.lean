/-
  JoinParts of the program: what it returns, for all lists.
-/
import Derived.Test.YtabapkbfolncoaaJoin2
namespace Go.Proofs.Ytabapkbfolncoaa
open Go.RowKit
attribute [local go_sem ↓] Go.wp_at_zero Go.wp_at_succ

theorem overL_neg {L : List Pt} (h : ¬ 0 ≤ overL L) : overL L = -1 := by
  unfold overL at h ⊢
  split
  · rename_i h1; rw [if_pos h1] at h; omega
  · rfl

set_option maxHeartbeats 3200000 in
theorem JoinParts_any (A : Option Addr) (n c : Nat) (L : List Pt) (w : World) (hn : L.length = n) (hnc : n ≤ c) (hm : c ≤ 9223372036854775807) (hr : PRow w w.heap.size A L) :
    Calls Try.prog 18 #[.slice A n c] w (JoinTo w (joinOf L)) := by
  obtain ⟨i0, hi, hz0, hz1, hz2⟩ := info_parts int_info
  have HI := Lib.hid hi
  have HZ := Lib.hid hz0
  have HS := Lib.hid hz1
  have HY := Lib.hid hz2
  clear hi hz0 hz1 hz2
  go_enter Try.func18, Try.ntmps18
  go_wp2_with fail
  refine (ValidParts_any A n c L _ hn (by omega) hr).mono ?_
  rintro e w1 ⟨rfl, b1⟩
  have B1 := Lib.hid b1
  have Q1 := Lib.hid (hr.on b1)
  clear b1 hr
  cases hv : validP L
  · have HJ := Lib.hid (joinOf_bad hv)
    clear hv
    go_wp2
    go_ret2
    exact .none_ HJ.out B1.out
  have VV := Lib.hid hv
  have hn6 : n ≤ 6 := by rw [← hn]; exact validP_six hv
  clear hv
  rcases Nat.eq_zero_or_pos n with h0 | h0
  · subst h0
    obtain rfl : L = [] := List.eq_nil_of_length_eq_zero hn
    go_wp2
    go_ret2
    exact .none_ joinOf_nil B1.out
  have l0 : ((n : Int) == 0) = false := by simp; omega
  have l1 : ¬ ((n : Int) = 0) := by omega
  go_wp2_with fail
  refine (overlap_any A n c L _ hn hnc hm VV.out Q1.out).mono ?_
  rintro e w2 ⟨rfl, b2⟩
  have B2 := Lib.hid (next B1.out b2)
  have Q2 := Lib.hid (Q1.out.on b2)
  clear b2
  by_cases hov : 0 ≤ overL L
  · have HJ := Lib.hid (joinOf_over (L := L) (by omega))
    obtain ⟨v, hv⟩ : ∃ v, v = overL L := ⟨_, rfl⟩
    rw [← hv] at hov ⊢
    clear hv
    go_wp2
    go_ret2
    exact .none_ HJ.out B2.out
  have HV := Lib.hid (overL_neg hov)
  rw [HV.out]
  clear hov
  obtain ⟨U, hU, hs, hd⟩ := Q2.out.pas
  obtain ⟨b, ob, rfl, hbl, -⟩ := Q2.out (by omega)
  have hUl : U.length = n := by rw [← hn, ← hU, List.length_map]
  have HU := Lib.hid hU
  have HD := Lib.hid hd
  have HSe := Lib.hid hs
  clear hU hs hd
  go_wp2_with fail
  refine (CloneParts_any b ob n c w2.heap.size U _ hUl (by omega) (Nat.le_refl _) HSe.out h0).mono ?_
  rintro e w3 ⟨g, o', cap, rfl, m3, b3⟩
  have B3 := Lib.hid (next B2.out b3)
  have D3 := Lib.hid (HD.out.below b3)
  have M3 := Lib.hid m3
  have x3 : w2.heap.size ≤ g ∧ g < w3.heap.size := m3.lt rfl
  have z2 := B2.out.size
  have z3 := b3.size
  clear m3 b3
  go_wp2_with fail
  refine (SortParts_any g o' n cap w2.heap.size w2.heap.size U _ hUl (by omega) M3.out D3.out (Nat.le_refl _)).mono ?_
  rintro e w4 ⟨rfl, S, hP, hW, hR, g4⟩
  have B4 := Lib.hid (only_below B3.out g4 (by omega) (by omega))
  rw [HU.out] at hP
  have hSe := srtP_unique VV.out HV.out hP hW
  have HP := Lib.hid hP
  have HW := Lib.hid (ends_of VV.out HV.out hP hW)
  have HR := Lib.hid hR
  have HSl : Hid (S.length = n) := Lib.hid (by rw [hP.length_eq, hn])
  have HBroken : Hid (chainP S 0 = false → joinOf L = none) := Lib.hid fun h => joinOf_broken (by rw [← hSe]; exact h)
  have HYes : Hid (chainP S 0 = true → joinOf L = some (dataP S)) := Lib.hid fun h => by rw [hSe]; exact joinOf_yes VV.out (by omega) HV.out (by rw [← hSe]; exact h)
  have z4 := g4.size
  clear hP hW hR hSe g4
  go_wp2
  go_loopw [5, 27] (fun vo vi wr => ∃ (Ao : Option Addr) (i o cap : Nat), vo = .slice Ao o cap ∧ vi = .int .i64 i ∧ i ≤ n ∧ o ≤ 12 * i ∧ Mine wr w4.heap.size 1 Ao o cap ((dataP (S.take i)).map (Value.int .i64)) ∧ (dataP (S.take i)).length = o ∧ Along S i o ∧ Below w4.heap.size w4 wr) (fun _ vi _ => n - (intOf vi).toNat)
  case atStart => exact ⟨none, 0, 0, 0, rfl, rfl, Nat.zero_le _, Nat.le_refl _, Mine.nil_, rfl, along_start VV.out HP.out, Below.refl _ _⟩
  case round =>
    obtain ⟨Ao, i, o, cp, rfl, rfl, hin, ho12, hM, hdl, hA, hB⟩ := hrel
    have MM := Lib.hid hM
    have BB := Lib.hid hB
    have AA := Lib.hid hA
    have DL := Lib.hid hdl
    clear hM hB hA hdl
    by_cases hlt : i < n
    · obtain ⟨g', o'', e, hbl2, hc⟩ := HR.out (by rw [HSl.out]; omega)
      injection e with e
      injection e with e1 e2
      subst e1; subst e2
      have HN := Lib.hid (along_next AA.out (by rw [HSl.out]; omega))
      obtain ⟨a', c', q0, q1, q2, hrow, hlc, hcm⟩ := hc i (by rw [HSl.out]; omega)
      have hg := good_len VV.out (HP.out.mem_iff.1 (getP_mem (i := i) (by rw [HSl.out]; omega)))
      have HTk : Hid (dataP (S.take (i + 1)) = dataP (S.take i) ++ (S.getD i dP).2.2) := Lib.hid (by rw [take_snocP (by rw [HSl.out]; omega)]; simp [dataP])
      have HSt : Hid ((S.getD i dP).1 = (o : Int) → (S.getD i dP).2.1 = decide (i + 1 < S.length) → Along S (i + 1) (o + (S.getD i dP).2.2.length)) := Lib.hid fun h1 h2 => along_step AA.out VV.out HP.out HW.out (by rw [HSl.out]; omega) h1 h2
      obtain ⟨⟨t, m, xs⟩, hx⟩ : ∃ q, q = S.getD i dP := ⟨_, rfl⟩
      rw [← hx] at q0 q1 q2 hrow hlc hg HN HTk HSt
      simp only at q0 q1 q2 hrow hlc hg
      obtain ⟨x1, x0, x2⟩ := hg
      obtain ⟨len, hlen⟩ : ∃ len, len = xs.length := ⟨_, rfl⟩
      have HL := Lib.hid hlen
      rw [← hlen] at q2 hlc x1 x2
      have c0 := (BB.out.cell (p := ⟨g, o' + i * 3, none⟩) hbl2).trans q0
      have c1 := (BB.out.cell (p := ⟨g, o' + i * 3 + 1, none⟩) hbl2).trans q1
      have c2 := (BB.out.cell (p := ⟨g, o' + i * 3 + 2, none⟩) hbl2).trans q2
      have l2 : (i : Int) < (n : Int) := by omega
      have l3 : (0 : Int) ≤ (i : Int) := by omega
      have hs4 := BB.out.size
      have hSx := Lib.hid (((hrow.below BB.out).sees).alloc hs4 (.cells #[.int .i64 t, .bool m, .slice a' len c'] 41))
      have MA := Lib.hid (MM.out.alloc (.cells #[.int .i64 t, .bool m, .slice a' len c'] 41))
      have BA := Lib.hid (BB.out.alloc hs4 (.cells #[.int .i64 t, .bool m, .slice a' len c'] 41))
      have BN := Lib.hid (next B4.out BA.out)
      have HXL : Hid ((xs.map (Value.int .i64)).length = len * 1) := Lib.hid (by simp [hlen])
      have HLen2 : Hid ((dataP (S.take (i + 1))).length = o + len) := Lib.hid (by rw [HTk.out, List.length_append, DL.out, HL.out])
      clear hx hlen q0 q1 q2 hrow hc
      by_cases he : t = (o : Int)
      · subst he
        cases m
        · by_cases h1 : i + 1 < n
          · have HJ : Hid (joinOf L = none) := Lib.hid (HBroken.out (by rw [HN.out, HSl.out, decide_eq_true h1]; simp))
            have h2 : (i : Int) < (n : Int) - 1 := by omega
            have h3 : decide ((i : Int) < (n : Int) - 1) = true := decide_eq_true h2
            go_wp2
            go_ret2
            exact .none_ HJ.out BN.out
          · have HSt2 : Hid (Along S (i + 1) (o + len)) := Lib.hid (by
              have := HSt.out rfl (by rw [HSl.out, decide_eq_false h1])
              rw [HL.out]; exact this)
            have h2 : ¬ ((i : Int) < (n : Int) - 1) := by omega
            have h3 : decide ((i : Int) < (n : Int) - 1) = false := decide_eq_false h2
            go_wp2_with (at_builtin; (refine wpList_append_mine _ rfl _ _ 24 rfl w4.heap.size 3 i0 (.int .i64 0) 1 8 Try.underlying24 HI.out HZ.out HS.out HY.out rfl (by omega) _ o cp ((dataP (S.take i)).map (Value.int .i64)) rfl MA.out _ _ len c' (xs.map (Value.int .i64)) rfl HXL.out hSx.out (one_ints xs) (by unfold maxLen; omega) (by omega) (by simp; omega) ?_); intro A' cap' w9 m9 g9 at9)
            have HM9 : Hid (Mine w9 w4.heap.size 1 A' (o + len) cap' ((dataP (S.take (i + 1))).map (Value.int .i64))) := Lib.hid (by rw [HTk.out, List.map_append]; exact m9)
            have HB9 := Lib.hid (BA.out.grown g9 (by simp; omega) (fun j' e => (MA.out.lt e).1))
            clear m9 g9 at9
            go_wp2
            go_roundw
            case rel => exact ⟨A', i + 1, o + len, cap', by go_num, by go_num, by omega, by omega, HM9.out, HLen2.out, HSt2.out, HB9.out⟩
            case measure => simp [intOf]; omega
        · by_cases h1 : i + 1 < n
          · have HSt2 : Hid (Along S (i + 1) (o + len)) := Lib.hid (by
              have := HSt.out rfl (by rw [HSl.out, decide_eq_true h1])
              rw [HL.out]; exact this)
            have h2 : (i : Int) < (n : Int) - 1 := by omega
            have h3 : decide ((i : Int) < (n : Int) - 1) = true := decide_eq_true h2
            go_wp2_with (at_builtin; (refine wpList_append_mine _ rfl _ _ 24 rfl w4.heap.size 3 i0 (.int .i64 0) 1 8 Try.underlying24 HI.out HZ.out HS.out HY.out rfl (by omega) _ o cp ((dataP (S.take i)).map (Value.int .i64)) rfl MA.out _ _ len c' (xs.map (Value.int .i64)) rfl HXL.out hSx.out (one_ints xs) (by unfold maxLen; omega) (by omega) (by simp; omega) ?_); intro A' cap' w9 m9 g9 at9)
            have HM9 : Hid (Mine w9 w4.heap.size 1 A' (o + len) cap' ((dataP (S.take (i + 1))).map (Value.int .i64))) := Lib.hid (by rw [HTk.out, List.map_append]; exact m9)
            have HB9 := Lib.hid (BA.out.grown g9 (by simp; omega) (fun j' e => (MA.out.lt e).1))
            clear m9 g9 at9
            go_wp2
            go_roundw
            case rel => exact ⟨A', i + 1, o + len, cap', by go_num, by go_num, by omega, by omega, HM9.out, HLen2.out, HSt2.out, HB9.out⟩
            case measure => simp [intOf]; omega
          · have HJ : Hid (joinOf L = none) := Lib.hid (HBroken.out (by rw [HN.out, HSl.out, decide_eq_false h1]; simp))
            have h2 : ¬ ((i : Int) < (n : Int) - 1) := by omega
            have h3 : decide ((i : Int) < (n : Int) - 1) = false := decide_eq_false h2
            go_wp2
            go_ret2
            exact .none_ HJ.out BN.out
      · have HJ : Hid (joinOf L = none) := Lib.hid (HBroken.out (by rw [HN.out, decide_eq_false he]; rfl))
        have h4 : (t == (o : Int)) = false := by simpa using he
        have h5 : (t != (o : Int)) = true := by simpa using he
        go_wp2
        go_ret2
        exact .none_ HJ.out BN.out
    · obtain rfl : i = n := by omega
      obtain ⟨hch, ho, htk⟩ := along_end AA.out (by rw [HSl.out]; omega)
      have HJ := Lib.hid (HYes.out hch)
      have HTk := Lib.hid htk
      have h1 := MM.out.2.1
      have h2 := MM.out.2.2.1
      unfold maxLen at h2
      clear hch ho htk
      go_wp2_with fail
      refine (ClipInts_any _ o cp _ h1 (by omega)).mono ?_
      rintro e w5 ⟨rfl, rfl⟩
      rw [HTk.out] at MM DL
      go_wp2
      go_ret2
      exact .some_ HJ.out DL.out (MM.out.clip.mono (by omega)) (next B4.out BB.out)
end Go.Proofs.Ytabapkbfolncoaa
