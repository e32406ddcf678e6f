/-
  What impl.JoinParts leans on: slices.Clone of parts, slices.SortFunc of parts by their places (the shelf's contract).
-/
import Derived.Test.YtabapkbfolncoaaSortLay
import Derived.Test.YtabapkbfolncoaaJoin1
import Derived.Deep.Slices
namespace Go.Proofs.Ytabapkbfolncoaa
open Go.RowKit Go.Lib Go.Sort

/-- A part with the slice of its data, wherever that lies. -/
structure PA where
  pos : Int
  more : Bool
  adr : Option Addr
  cap : Nat
  xs : List Int
instance : Inhabited PA := ⟨⟨0, false, none, 0, []⟩⟩
def PA.pt (p : PA) : Pt := (p.pos, p.more, p.xs)
def encA (p : PA) : List Value := [.int .i64 p.pos, .bool p.more, .slice p.adr p.xs.length p.cap]
theorem encA_len (p : PA) : (encA p).length = 3 := rfl
theorem encA_one (p : PA) : ∀ u ∈ encA p, u.oneCell' = true := by
  intro u hu
  simp [encA] at hu
  rcases hu with rfl | rfl | rfl <;> rfl
theorem encA_ones (U : List PA) : ∀ u ∈ U.flatMap encA, u.oneCell' = true := by
  intro u hu
  obtain ⟨p, _, hp⟩ := List.mem_flatMap.1 hu
  exact encA_one p u hp
/-- The data of parts can be read. -/
def DRows (w : World) (B : Nat) (U : List PA) : Prop := ∀ p ∈ U, Row .i64 w B p.adr p.xs ∧ p.xs.length ≤ p.cap ∧ p.cap ≤ 9223372036854775807
section
variable {w w' : World} {B B' base n cap : Nat} {A : Option Addr} {L : List Pt} {U : List PA}
theorem DRows.keep (h : DRows w B U) (hc : ∀ b o, b < B → w'.cell? ⟨b, o, none⟩ = w.cell? ⟨b, o, none⟩) : DRows w' B U := fun p hp => ⟨(h p hp).1.keep hc, (h p hp).2⟩
theorem DRows.more (h : DRows w B U) (hB : B ≤ B') : DRows w B' U := fun p hp => ⟨(h p hp).1.more hB, (h p hp).2⟩
theorem DRows.below (h : DRows w B U) (hb : Below B w w') : DRows w' B U := h.keep fun b o hlt => hb.cell (p := ⟨b, o, none⟩) hlt
theorem PRow.pas (h : PRow w B A L) : ∃ U : List PA, U.map PA.pt = L ∧ Sees w B A (U.flatMap encA) ∧ DRows w B U := by
  rcases Nat.eq_zero_or_pos L.length with h0 | h0
  · obtain rfl : L = [] := List.eq_nil_of_length_eq_zero h0
    exact ⟨[], rfl, Sees.nil_, fun p hp => by simp at hp⟩
  obtain ⟨b, o, rfl, hb, hi⟩ := h h0
  obtain ⟨f, hf⟩ := Go.Deep.choose_lt (n := L.length) (p := fun i (x : Option Addr × Nat) => w.cell? ⟨b, o + i * 3, none⟩ = some (.int .i64 (L.getD i dP).1) ∧ w.cell? ⟨b, o + i * 3 + 1, none⟩ = some (.bool (L.getD i dP).2.1) ∧
    w.cell? ⟨b, o + i * 3 + 2, none⟩ = some (.slice x.1 (L.getD i dP).2.2.length x.2) ∧ Row .i64 w B x.1 (L.getD i dP).2.2 ∧ (L.getD i dP).2.2.length ≤ x.2 ∧ x.2 ≤ 9223372036854775807) (fun i hil => by
    obtain ⟨a, c, h1⟩ := hi i hil
    exact ⟨(a, c), h1⟩)
  obtain ⟨U, hU⟩ : ∃ U : List PA, U = (List.range L.length).map fun i => ⟨(L.getD i dP).1, (L.getD i dP).2.1, (f i).1, (f i).2, (L.getD i dP).2.2⟩ := ⟨_, rfl⟩
  have hUl : U.length = L.length := by rw [hU]; simp
  have hget : ∀ i, i < L.length → U.getD i default = ⟨(L.getD i dP).1, (L.getD i dP).2.1, (f i).1, (f i).2, (L.getD i dP).2.2⟩ := fun i hil => by
    rw [hU, List.getD_eq_getElem?_getD, List.getElem?_map, List.getElem?_range hil]; rfl
  refine ⟨U, ?_, fun hp => ⟨b, o, rfl, hb, fun j hj => ?_⟩, fun p hp => ?_⟩
  · apply List.ext_getElem?
    intro i
    rcases Nat.lt_or_ge i L.length with hil | hil
    · rw [hU, List.map_map, List.getElem?_map, List.getElem?_range hil, List.getElem?_eq_getElem hil]
      simp [PA.pt, List.getD_eq_getElem?_getD, List.getElem?_eq_getElem hil]
    · rw [List.getElem?_eq_none (by simpa [hUl] using hil), List.getElem?_eq_none hil]
  · rw [flat_len encA_len, hUl] at hj
    have hd : j / 3 < L.length := by omega
    have hm : j % 3 < 3 := Nat.mod_lt j (by omega)
    have e : j = j / 3 * 3 + j % 3 := by omega
    have hg := flat_get (d := default) encA_len U (j / 3) (by omega) (j % 3) hm
    rw [← e, hget _ hd] at hg
    rw [hg]
    obtain ⟨h1, h2, h3, _⟩ := hf (j / 3) hd
    obtain ⟨q, hq⟩ : ∃ q, q = j / 3 := ⟨_, rfl⟩
    obtain ⟨r, hr⟩ : ∃ r, r = j % 3 := ⟨_, rfl⟩
    rw [← hq] at h1 h2 h3 e ⊢
    rw [← hr] at e hm ⊢
    clear hg hr hq
    rw [e]
    rcases (by omega : r = 0 ∨ r = 1 ∨ r = 2) with rfl | rfl | rfl
    · exact h1
    · exact h2
    · exact h3
  · rw [hU] at hp
    obtain ⟨i, hil, rfl⟩ := List.mem_map.1 hp
    obtain ⟨_, _, _, h4, h5, h6⟩ := hf i (List.mem_range.1 hil)
    exact ⟨h4, h5, h6⟩
theorem PRow.of_pas (hs : Sees w B A (U.flatMap encA)) (hd : DRows w B U) : PRow w B A (U.map PA.pt) := fun h0 => by
  rw [List.length_map] at h0
  obtain ⟨b, o, e, hb, hi⟩ := Sees.elems encA_len (by decide) hs (default : PA) h0
  refine ⟨b, o, e, hb, fun i hil => ?_⟩
  rw [List.length_map] at hil
  have hg : (U.map PA.pt).getD i dP = (U.getD i default).pt := by
    rw [List.getD_eq_getElem?_getD, List.getElem?_map, List.getD_eq_getElem?_getD, List.getElem?_eq_getElem hil]; rfl
  have hmem : U.getD i default ∈ U := by rw [List.getD_eq_getElem?_getD, List.getElem?_eq_getElem hil]; exact List.getElem_mem _
  rw [hg]
  obtain ⟨h1, h2, h3⟩ := hd _ hmem
  exact ⟨_, _, hi i hil 0 _ rfl, hi i hil 1 _ rfl, hi i hil 2 _ rfl, h1, h2, h3⟩
end

set_option maxHeartbeats 800000 in
theorem CloneParts_any (b o : Nat) (n c B : Nat) (U : List PA) (w : World) (hn : U.length = n) (hb : n ≤ 1048576) (hB : B ≤ w.heap.size) (hr : Sees w B (some ⟨b, o, none⟩) (U.flatMap encA)) (h0 : 0 < n) :
    Calls Try.prog 42 #[.slice (some ⟨b, o, none⟩) n c] w fun e w' =>
      ∃ g o' cap, e = .returned (.slice (some ⟨g, o', none⟩) n cap) ∧ Mine w' w.heap.size 3 (some ⟨g, o', none⟩) n cap (U.flatMap encA) ∧ Below w.heap.size w w' := by
  obtain ⟨i0, hi, hz0, hz1, hz2⟩ := info_parts part_info
  have hM := Mine.new w 41 3 0 #[] rfl (by simp [maxLen])
  have hS := hr.alloc hB (.cells #[] 41)
  have heq : ∀ W : World, (binOp .eql 27 (.slice (some ⟨b, o, none⟩) n c) (.slice none 0 0)).run Try.prog W = .ok (.bool false) W := fun W => by kernel_rfl
  have hln : (U.flatMap encA).length = n * 3 := by rw [flat_len encA_len, hn]
  go_enter Try.func42, Try.ntmps42
  go_wp2_with (at_builtin; refine wpList_append_mine _ rfl _ _ 27 rfl w.heap.size 41 i0 (.agg #[.int .i64 0, .bool false, .slice none 0 0]) 3 40 Try.underlying27 hi hz0 hz1 hz2 rfl (by omega) _ 0 0 [] rfl hM B _ n c (U.flatMap encA) rfl hln hS (encA_ones U) (by unfold maxLen; omega) (by omega) (by simp) ?_; intro A' cap' w1 m1 g1 at1)
  obtain ⟨g, o', rfl⟩ := some_of' m1 (by omega)
  have HB := Lib.hid (((Below.refl w.heap.size w).alloc (Nat.le_refl _) (.cells #[] 41)).grown g1 (by simp) (by simp))
  simp only [Nat.zero_add, List.nil_append] at m1
  have HM := Lib.hid m1
  clear g1 at1 hM hS hi hz0 hz1 hz2 m1
  go_wp2
  go_ret
  exact ⟨g, o', cap', rfl, HM.out, HB.out⟩

def cmpP (x y : PA) : Int := if x.pos < y.pos then -1 else if y.pos < x.pos then 1 else 0
theorem ltOf_cmpP (x y : PA) : ltOf cmpP x y = decide (x.pos < y.pos) := by
  unfold ltOf cmpP
  by_cases h1 : x.pos < y.pos
  · simp [h1]
  · by_cases h2 : y.pos < x.pos <;> simp [h1, h2]
theorem swo_cmpP : SWO (ltOf cmpP) :=
  ⟨fun x => by rw [ltOf_cmpP]; simp, fun x y z h1 h2 => by rw [ltOf_cmpP] at *; simp at *; omega, fun x y z h1 h2 => by rw [ltOf_cmpP] at *; simp at *; omega⟩
set_option maxHeartbeats 1000000 in
theorem cmpPart_any (t : Int) (m : Bool) (a : Option Addr) (len c : Nat) (t' : Int) (m' : Bool) (a' : Option Addr) (len' c' : Nat) (W : World) :
    Calls Try.prog 44 #[.agg #[.int .i64 t, .bool m, .slice a len c], .agg #[.int .i64 t', .bool m', .slice a' len' c']] W fun e w' =>
      e = .returned (.int .i64 (if t < t' then -1 else if t' < t then 1 else 0)) ∧ ∃ q os', w' = grow (W.drewN q) os' := by
  by_cases h1 : t < t'
  · rw [if_pos h1]
    go_enter Try.func44, Try.ntmps44
    go_wp2
    go_ret
    exact ⟨rfl, 0, _, by rw [alloc_eq_grow, alloc_eq_grow, grow_grow]; rfl⟩
  · rw [if_neg h1]
    by_cases h2 : t' < t
    · rw [if_pos h2]
      go_enter Try.func44, Try.ntmps44
      go_wp2
      go_ret
      exact ⟨rfl, 0, _, by rw [alloc_eq_grow, alloc_eq_grow, grow_grow]; rfl⟩
    · rw [if_neg h2]
      go_enter Try.func44, Try.ntmps44
      go_wp2
      go_ret
      exact ⟨rfl, 0, _, by rw [alloc_eq_grow, alloc_eq_grow, grow_grow]; rfl⟩
theorem cmpLays (blk off size : Nat) (w : World) : CmpLays Try.prog 44 #[] encA 3 cmpP blk off size w :=
  fun _ _ _ _ x y => cmpPart_any x.pos x.more x.adr x.xs.length x.cap y.pos y.more y.adr y.xs.length y.cap _

theorem holds_of_mine {w : World} {base n cap g o : Nat} {U : List PA} (hn : U.length = n) (h : Mine w base 3 (some ⟨g, o, none⟩) n cap (U.flatMap encA)) : HoldsK encA 3 w g o U.toArray := fun j hj => by
  rw [size_flatK] at hj
  have hj' : j < U.length * 3 := by simpa using hj
  have hd : j / 3 < U.length := by omega
  have e : j = j / 3 * 3 + j % 3 := by omega
  have hc := h.2.1
  refine ⟨?_, (h.can (j := j) (by omega)).2⟩
  rw [h.at_ (j := j) (by omega), get_flatK _ _ _ _ hj]
  have hg := flat_get (d := default) encA_len U (j / 3) hd (j % 3) (Nat.mod_lt j (by omega))
  rw [← e] at hg
  have hx : U.toArray[j / 3]! = U.getD (j / 3) default := by simp [List.getD_eq_getElem?_getD, List.getElem!_eq_getElem?_getD]
  rw [hg, hx]
  have hm : j % 3 < (encA (U.getD (j / 3) default)).length := by rw [encA_len]; omega
  rw [List.getElem?_eq_getElem hm, getElem!_pos (encA (U.getD (j / 3) default)) (j % 3) hm]; rfl
theorem sees_of_holds {w : World} {g o : Nat} {d : Array PA} (h : HoldsK encA 3 w g o d) (hg : g < w.heap.size) : Sees w w.heap.size (some ⟨g, o, none⟩) (d.toList.flatMap encA) := fun _ => by
  refine ⟨g, o, rfl, hg, fun j hj => ?_⟩
  rw [flat_len encA_len] at hj
  have hj' : j < d.size * 3 := by simpa using hj
  have hd : j / 3 < d.toList.length := by simp; omega
  have e : j = j / 3 * 3 + j % 3 := by omega
  have h1 := (h j (by rw [size_flatK]; exact hj')).1
  rw [get_flatK _ _ _ _ hj'] at h1
  have hfg := flat_get (d := default) encA_len d.toList (j / 3) hd (j % 3) (Nat.mod_lt j (by omega))
  rw [← e] at hfg
  have hx : d[j / 3]! = d.toList.getD (j / 3) default := by simp [List.getD_eq_getElem?_getD, Array.getElem!_eq_getD]
  have hm : j % 3 < (encA (d.toList.getD (j / 3) default)).length := by rw [encA_len]; omega
  rw [h1, hfg, hx, List.getElem?_eq_getElem hm, getElem!_pos (encA (d.toList.getD (j / 3) default)) (j % 3) hm]; rfl
theorem grownBy_sortK {w : World} {g o m : Nat} {os : Array Obj} (d : Array PA) : w.grownBy (sortWorldK encA 3 w g o m d os) (some g) := by
  refine ⟨rfl, rfl, rfl, size_sortWorldK_c encA 3 w g o m d os, fun k hk hne => ?_⟩
  have : g ≠ k := fun e => hne (by rw [e])
  unfold sortWorldK
  rw [heap_grow_old _ _ (by rw [size_putRowK]; exact hk)]
  simp [putRowK, putRow, mapBlock, Sort.ahead, Array.getElem?_modify, this]

/-- The sorted row. -/
theorem SortParts_any (g o n cap base B : Nat) (U : List PA) (w : World) (hn : U.length = n) (hn6 : n ≤ 1000) (hm : Mine w base 3 (some ⟨g, o, none⟩) n cap (U.flatMap encA)) (hd : DRows w B U) (hB : B ≤ base) :
    Calls Try.prog 43 #[.slice (some ⟨g, o, none⟩) n cap, .func (.func 44) #[] #[]] w fun e w' =>
      e = .returned (.tuple #[]) ∧ ∃ S : List Pt, S.Perm (U.map PA.pt) ∧ S.Pairwise (fun p q => p.1 ≤ q.1) ∧ PRow w' w'.heap.size (some ⟨g, o, none⟩) S ∧ w.grownBy w' (some g) := by
  have hgb : base ≤ g ∧ g < w.heap.size := hm.lt rfl
  have hH := holds_of_mine hn hm
  have eg : ∀ args w, (callFunc 44 args).run Try.prog w = .ok (.enter 44 args) w := enters_of Try.func44 (by kernel_rfl) rfl
  have hcon := AnyQ.slices_SortFunc sortPt 3 Try.isAgg41 Try.sizeOf41 encA encA_len encA_one cmpP swo_cmpP 44 #[] g o cap U.toArray w eg (cmpLays g o _ w) hH hgb.2 (by simp; omega)
  rw [show U.toArray.size = n by simpa using hn] at hcon
  refine Calls.mono hcon fun e w' ⟨he, d', m, os, hp, hs, hw⟩ => ⟨he, d'.toList.map PA.pt, ?_, ?_, ?_, ?_⟩
  · have hperm := hp.2.2
    have hsz : d'.size = n := by rw [hp.1]; simpa using hn
    have e1 : d'.extract 0 n = d' := by rw [← hsz]; simp
    have e2 : U.toArray.extract 0 n = U.toArray := by rw [← hn]; simp
    rw [e1, e2] at hperm
    exact hperm.map _
  · have hsz : d'.size = n := by rw [hp.1]; simpa using hn
    refine List.pairwise_map.2 (List.pairwise_iff_getElem.2 fun i j hi hj hij => ?_)
    have h1 := hs i j (Nat.zero_le _) hij (by simp at hj; omega)
    rw [ltOf_cmpP] at h1
    simp at hi hj
    rw [getElem!_pos d' j hj, getElem!_pos d' i hi] at h1
    have h2 := of_decide_eq_false h1
    simp only [PA.pt, Array.getElem_toList]
    omega
  · have hsz : d'.size = n := by rw [hp.1]; simpa using hn
    have hH2 : HoldsK encA 3 w' g o d' := by
      rw [hw]; exact holdsK_sortWorldK_c encA 3 w g o U.toArray d' m os hH hgb.2 (by simp; omega)
    have hgw : w.grownBy w' (some g) := by rw [hw]; exact grownBy_sortK d'
    refine PRow.of_pas (sees_of_holds hH2 (Nat.lt_of_lt_of_le hgb.2 hgw.size)) fun p hpm => ?_
    have hperm := hp.2.2
    have e1 : d'.extract 0 n = d' := by rw [← hsz]; simp
    have e2 : U.toArray.extract 0 n = U.toArray := by rw [← hn]; simp
    rw [e1, e2] at hperm
    have hd' := hd p (by simpa using hperm.mem_iff.1 hpm)
    have hs2 := hgw.size
    exact ⟨(hd'.1.keep fun b o' hb => World.cell?_of_block (a := ⟨b, o', none⟩) (hgw.block b (by omega) (fun e => by injection e with e; omega))).more (by omega), hd'.2⟩
  · rw [hw]; exact grownBy_sortK d'
end Go.Proofs.Ytabapkbfolncoaa
