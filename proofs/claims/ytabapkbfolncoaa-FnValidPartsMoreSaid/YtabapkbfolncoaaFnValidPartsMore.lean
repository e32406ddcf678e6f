/-
  'FnValidPartsMore': for every input the law returns true, and each argument reads afterwards as it read before. No condition.
  The frame of the row's step follows the kit's skeleton; the walk is ours.
-/
import Derived.Test.YtabapkbfolncoaaLawKit
import Derived.Test.YtabapkbfolncoaaJoinL
import Derived.Test.YtabapkbfolncoaaStep
import Derived.Deep.RegionHeldLaw
namespace Go.Proofs.Ytabapkbfolncoaa.fnValidPartsMore
open Go.ChangeShapes Go.WideShapes Go.ChangeAt Go.RowKit
set_option linter.unusedVariables false

def flipA (p : PA) : PA := { p with more := !p.more }
theorem valid_flip (U : List PA) : validP ((U.map flipA).map PA.pt) = validP (U.map PA.pt) := by
  unfold validP
  rw [List.length_map, List.length_map, List.length_map, List.all_map, List.all_map, List.all_map]
  rfl

set_option maxRecDepth 100000 in
set_option maxHeartbeats 3200000 in
theorem walk (a : Option Addr) (n c : Nat) (w : World) (w0 : Bytes w a n) (hnc : n ≤ c) (hc : c ≤ 9223372036854775807) :
    Calls Try.prog 7 #[.slice a n c] w fun e w' => e = .returned (.bool true) ∧ Below w.heap.size w w' := by
  by_cases hl : n ≤ 1048576
  · go_enter Try.func7, Try.ntmps7
    go_wp2_with fail
    refine (DrawValidParts_any a n c _ w0 hnc hc).mono ?_
    rintro e w1 ⟨A, m, cap, V, rfl, hm7, hQ, m1, b1⟩
    have R1 := Lib.hid m1.row
    have hmc := m1.2.1.2.1
    have hcm := m1.2.1.2.2.1
    unfold maxLen at hcm
    obtain ⟨L, hL⟩ : ∃ L, L = V.map PV.pt := ⟨_, rfl⟩
    have hLm : L.length = m := by rw [hL, List.length_map]; exact m1.1
    rw [← hL] at R1
    have B1 := Lib.hid b1
    clear w0 hnc hc b1 m1 hQ hL
    obtain ⟨bv, hbv⟩ : ∃ bv, bv = validP L := ⟨_, rfl⟩
    have HBv := Lib.hid hbv
    have hbb : (bv == bv) = true := by simp
    have hbn : (bv != bv) = false := by simp
    go_wp2_with fail
    refine (ValidParts_any A m cap L _ hLm (by omega) R1.out).mono ?_
    rw [← hbv]
    rintro e w2 ⟨rfl, b2⟩
    have R2 := Lib.hid (R1.out.on b2)
    have B2 := Lib.hid (next B1.out b2)
    clear b2
    go_wp2_with fail
    refine (specValidParts_any A m cap L _ hLm (by omega) R2.out).mono ?_
    rw [← hbv]
    clear hbv
    rintro e w3 ⟨rfl, b3⟩
    have R3 := Lib.hid (R2.out.on b3)
    have B3 := Lib.hid (next B2.out b3)
    clear b3
    obtain ⟨U, hU, hsU, hdU⟩ := R3.out.pas
    have hUl : U.length = m := by rw [← hLm, ← hU, List.length_map]
    have HU := Lib.hid hU
    have HD := Lib.hid hdU
    have HSU := Lib.hid hsU
    have HV : Hid (validP ((U.map flipA).map PA.pt) = bv) := Lib.hid (by rw [valid_flip, hU]; exact HBv.out.symm)
    obtain ⟨i0, hi, hz0, hz1, hz2⟩ := info_parts part_info
    have HI := Lib.hid hi
    have HZ := Lib.hid hz0
    have HS := Lib.hid hz1
    have HY := Lib.hid hz2
    have m0 := Lib.hid (Mine.new w3 41 3 0 #[] rfl (by simp [maxLen]))
    have B0 := Lib.hid ((Below.refl w3.heap.size w3).alloc (Nat.le_refl _) (.cells #[] 41))
    clear hU hsU hdU hi hz0 hz1 hz2
    go_wp2
    go_loopw [5, 6] (fun vo vi wr => ∃ (Ao : Option Addr) (i cp : Nat), vo = .slice Ao i cp ∧ vi = .int .i64 i ∧ i ≤ m ∧ Mine wr w3.heap.size 3 Ao i cp (((U.map flipA).take i).flatMap encA) ∧ Below w3.heap.size w3 wr) (fun _ vi _ => m - (intOf vi).toNat)
    case atStart => exact ⟨some ⟨w3.heap.size, 0, none⟩, 0, 0, rfl, rfl, Nat.zero_le _, m0.out, B0.out⟩
    case round =>
      obtain ⟨Ao, i, cp, rfl, rfl, him, hM, hB⟩ := hrel
      have MM := Lib.hid hM
      have BB := Lib.hid hB
      clear hM hB m0 B0
      have hs4 := BB.out.size
      by_cases hlt : i < m
      · obtain ⟨b, ob, rfl, hbl, hcells⟩ := Sees.elems encA_len (by decide) HSU.out default (by omega)
        have q0 := hcells i (by omega) 0 _ rfl
        have q1 := hcells i (by omega) 1 _ rfl
        have q2 := hcells i (by omega) 2 _ rfl
        have HTk : Hid ((U.map flipA).take (i + 1) = (U.map flipA).take i ++ [flipA (U.getD i default)]) := Lib.hid (by
          rw [List.take_succ_eq_append_getElem (by simp; omega), List.getElem_map, List.getD_eq_getElem?_getD, List.getElem?_eq_getElem (show i < U.length by omega)]
          rfl)
        obtain ⟨p, hp⟩ : ∃ p, p = U.getD i default := ⟨_, rfl⟩
        rw [← hp] at q0 q1 q2 HTk
        obtain ⟨pt, pm, pa, pl, pc, he, h1, h2, h3, h4, h5⟩ : ∃ (pt : Int) (pm : Bool) (pa : Option Addr) (pl pc : Nat), encA (flipA p) = [.int .i64 pt, .bool (!pm), .slice pa pl pc] ∧ p.pos = pt ∧ p.more = pm ∧ p.adr = pa ∧ p.xs.length = pl ∧ p.cap = pc := ⟨_, _, _, _, _, rfl, rfl, rfl, rfl, rfl, rfl⟩
        rw [h1] at q0
        rw [h2] at q1
        rw [h3, h4, h5] at q2
        simp only [Nat.add_zero] at q0
        have HE := Lib.hid he
        have e0 := (BB.out.cell (p := ⟨b, ob + i * 3, none⟩) hbl).trans q0
        have e1 := (BB.out.cell (p := ⟨b, ob + i * 3 + 1, none⟩) hbl).trans q1
        have e2 := (BB.out.cell (p := ⟨b, ob + i * 3 + 2, none⟩) hbl).trans q2
        have hbw : b < wr.heap.size := by omega
        have l2 : (i : Int) < (m : Int) := by omega
        have l3 : (0 : Int) ≤ (i : Int) := by omega
        have BA := Lib.hid ((BB.out.alloc hs4 (.cells #[.int .i64 pt, .bool (!pm), .slice pa pl pc] 41)).drew)
        clear he h1 h2 h3 h4 h5 q0 q1 q2 hcells hp
        go_wp2
        go_region_held_law (fun w' => w'.cell? ⟨b, ob + i * 3, none⟩ = some (.int .i64 pt) ∧ w'.cell? ⟨b, ob + i * 3 + 1, none⟩ = some (.bool pm) ∧ w'.cell? ⟨b, ob + i * 3 + 2, none⟩ = some (.slice pa pl pc)) (first | exact ⟨e0, e1, e2⟩ | exact ⟨s0, s1, s2⟩ | go_keep) (first
          | (refine step_append_mine (w := (wr.alloc (.cells #[.int .i64 pt, .bool (!pm), .slice pa pl pc] 41)).drew) rfl (.tmp 25) (.tmp 43) 27 rfl w3.heap.size 41 i0 (.agg #[.int .i64 0, .bool false, .slice none 0 0]) 3 40 Try.underlying27 HI.out HZ.out HS.out HY.out rfl (by omega) Ao i cp (((U.map flipA).take i).flatMap encA) rfl (Mine.drewN (MM.out.alloc _) 1) _ _ 1 1 [.int .i64 pt, .bool (!pm), .slice pa pl pc] rfl rfl (Mine.drewN (Mine.new_at wr wr.heap.size rfl 41 3 1 #[.int .i64 pt, .bool (!pm), .slice pa pl pc] rfl (by simp [maxLen])) 1).sees (by simp [Value.oneCell']) (by unfold maxLen; omega) (by omega) (by simp; omega) ?_; intro A8 c8 w8 m8 g8 at8; have HM8 : Hid (Mine w8 w3.heap.size 3 A8 (i + 1) c8 (((U.map flipA).take (i + 1)).flatMap encA)) := Lib.hid (by rw [HTk.out, List.flatMap_append]; simpa [HE.out] using m8); have B8 := Lib.hid (BA.out.grown g8 (by simp; omega) (fun j e => (MM.out.lt e).1)); have s0 := (B8.out.cell (p := ⟨b, ob + i * 3, none⟩) hbl).trans ((BB.out.cell (p := ⟨b, ob + i * 3, none⟩) hbl).symm.trans e0); have s1 := (B8.out.cell (p := ⟨b, ob + i * 3 + 1, none⟩) hbl).trans ((BB.out.cell (p := ⟨b, ob + i * 3 + 1, none⟩) hbl).symm.trans e1); have s2 := (B8.out.cell (p := ⟨b, ob + i * 3 + 2, none⟩) hbl).trans ((BB.out.cell (p := ⟨b, ob + i * 3 + 2, none⟩) hbl).symm.trans e2); clear m8 g8 at8))
        go_wp2
        go_roundw
        case rel => exact ⟨A8, i + 1, c8, by go_num, by go_num, by omega, HM8.out, B8.out⟩
        case measure => simp [intOf]; omega
      · obtain rfl : i = m := by omega
        have HTk : Hid ((U.map flipA).take i = U.map flipA) := Lib.hid (List.take_of_length_le (by simp; omega))
        have RR : Hid (PRow wr wr.heap.size Ao ((U.map flipA).map PA.pt)) := Lib.hid (by
          have h1 := MM.out.sees
          rw [HTk.out] at h1
          refine PRow.of_pas h1 (fun q hq => ?_)
          obtain ⟨p, hp, rfl⟩ := List.mem_map.1 hq
          have h3 := HD.out p hp
          exact ⟨(h3.1.below BB.out).more hs4, h3.2⟩)
        go_wp2_with fail
        refine (ValidParts_any Ao i cp _ _ (by simp; omega) (by omega) RR.out).mono ?_
        rw [HV.out]
        rintro e w5 ⟨rfl, b5⟩
        have B5 := Lib.hid (next (next B3.out BB.out) b5)
        clear b5
        go_wp2
        go_ret
        exact ⟨ret_bool (by simp), B5.out⟩
  · go_enter Try.func7, Try.ntmps7
    go_wp2
    go_ret
    exact ⟨rfl, Below.refl _ _⟩

set_option maxRecDepth 100000 in
theorem lifted (os : Os) (started : os.Started) (H : Type) (enc : TypeId × Value → H) :
    ReturnsInHanded {} Try.checked os 7 .any (Rows.fnValidPartsMoreSpec.pre6 enc Try.prog Try.f7 Rows.fnValidPartsMoreRow.domain false) (Rows.fnValidPartsMoreSpec.post enc Try.prog Try.f7 false true false false) := by
  refine returnsInHanded_of_change (C := Try.checked) own started (by kernel_rfl) Try.func7
    (ChangeSpec.witness6 (enc := enc) (C := Try.checked) false ⟨#[], #[.slice none 0 0], []⟩ 8 (by kernel_rfl) (by kernel_rfl) (by kernel_rfl) (by kernel_rfl)) ?_
  intro W base args ds gs before hval0 hW hcnd _
  have hval : ∀ (j : Nat) t v, Try.f7.params[j]? = some t → args[j]? = some v → Value.okWide Try.prog W .any base t v := hval0
  have hW' := hW
  obtain ⟨p, q, hA0, hV, rfl, hfz, hnd⟩ := hW
  have hA : DataW.TrodAll enc Try.prog W 0 (fun _ => true) true Try.f7.params.toList args.toList ds p := hA0
  rw [Try.params7] at hA hval
  obtain ⟨v0, vs0, d0, ds0, p0, q0, hargs, rfl, rfl, h0, r0⟩ := trodAll_cons hA
  obtain ⟨rfl, rfl, rfl⟩ := trodAll_nil r0
  obtain rfl : args = #[v0] := by cases args; simp_all
  obtain ⟨rfl, rfl⟩ := trodVars_none hV
  have k0 := h0
  have lt0 : ∀ x ∈ p0, x.block < W.heap.size := by obtain ⟨m, hm⟩ := k0; exact DataW.trod_lt m _ _ _ hm
  obtain ⟨a0, len0, cap0, rfl⟩ := okWide_slice Try.underlying34 (hval 0 34 v0 rfl rfl)
  obtain ⟨w0, lc0, cm0⟩ : Bytes W a0 len0 ∧ len0 ≤ cap0 ∧ cap0 ≤ 9223372036854775807 := by
    obtain ⟨fuel, hf⟩ := h0
    rcases open_ints Try.underlying34 Try.underlying5 (by kernel_rfl) hf with ⟨hcs, _⟩ | ⟨x, l, c, zs, hcs, _, hl, hm, hz, _, hcell, hwz⟩
    · simp [Value.cells] at hcs
      obtain ⟨rfl, rfl, rfl⟩ := hcs
      exact ⟨fun h => absurd h (by omega), by omega, by omega⟩
    · simp [Value.cells] at hcs
      obtain ⟨rfl, rfl, rfl⟩ := hcs
      have hz' : zs.length = cap0 := by simpa using hz
      exact ⟨bytes_of (by omega) hcell hwz, hl, hm⟩
  clear hA0 hval0
  refine (walk a0 len0 cap0 W w0 lc0 cm0).mono fun e W' ⟨he, bel⟩ => ?_
  subst he
  exact ⟨_, rfl, _, _, _, [], _, [], hW', trodAll_mk1 (shut_bool Try.underlying4 _), (trodAll_cons_mk (Below.trod laidOut (by kernel_rfl) (of_decide_eq_true (by kernel_rfl)) k0 bel lt0) trodAll_mk0), rfl, bel.frame _, fun h => by cases h⟩

theorem over : Rows.fnValidPartsMoreRow.holds Try.pinned (OpenSpec.ofChange Rows.fnValidPartsMoreSpec) :=
  OpenClaim.holds_of_wide 7 Try.f7 rfl rfl rfl rfl rfl rfl rfl ⟨rfl, rfl, rfl, rfl, rfl⟩ rfl rfl rfl rfl rfl (by kernel_rfl) Try.func7 (by kernel_rfl)
    (of_decide_eq_true (by kernel_rfl)) (by unfold Func.isWrapper; first | (rw [if_pos (by decide +kernel)]; kernel_rfl) | (rw [if_neg (by decide +kernel)]; exact ⟨rfl, rfl⟩))
    (fun os started H enc _ => lifted os started H enc)

theorem proved : Rows.FnValidPartsMoreSaid := over
#print axioms proved
end Go.Proofs.Ytabapkbfolncoaa.fnValidPartsMore
