/-
  From the reading of an argument to the words of the walks: slices of ints inside structs, ends, packets.
-/
import Derived.Test.YtabapkbfolncoaaLawKit
import Derived.Deep.Slices
import Derived.Test.YtabapkbfolncoaaBox
import Derived.Test.YtabapkbfolncoaaPart1
namespace Go.Proofs.Ytabapkbfolncoaa
open Go.ChangeShapes Go.WideShapes Go.ChangeAt Go.RowKit

section
variable {H : Type} {enc : TypeId × Value → H} {W : World} {base : Nat} {spare : Nat → Bool} {held : Bool} {fuel : Nat}
theorem cell_int {v : Value} {x : DataW H × List MemPlace} (h : DataW.trod enc Try.prog W base spare held fuel 3 [v] = some x) : ∃ n : Int, v = .int .i64 n ∧ (Lit.int .i64 n).wf = true := by
  obtain ⟨n, e, _, hw⟩ := DataW.trod_int Try.underlying3 h
  simp at e
  exact ⟨n, e, hw⟩
theorem cell_ints {v : Value} {x : DataW H × List MemPlace} (h : DataW.trod enc Try.prog W base (fun _ => true) held fuel 24 [v] = some x) :
    ∃ (A : Option Addr) (n c : Nat) (xs : List Int), v = .slice A n c ∧ Row .i64 W W.heap.size A xs ∧ xs.length = n ∧ n ≤ c ∧ c ≤ 9223372036854775807 := by
  rcases open_ints Try.underlying24 Try.underlying3 (by kernel_rfl) h with ⟨hcs, _⟩ | ⟨a, l, c, zs, hcs, _, hl, hm, hz, _, hcell, _⟩
  · simp at hcs
    exact ⟨none, 0, 0, [], hcs, Row.nil_, rfl, by omega, by omega⟩
  · simp at hcs
    have hz' : zs.length = c := by simpa using hz
    exact ⟨some a, l, c, zs.take l, hcs, row_of (by omega) hcell, by simp; omega, hl, hm⟩
end


/-- A row of elements that came in. -/
theorem rows_of {α : Type} [Inhabited α] {enc : α → List Value} {size : Nat} (hk : ∀ x, (enc x).length = size) (hs : 0 < size) {W : World} {base : Nat} {a : Addr} {len m : Nat} (hl : len ≤ m)
    (h : ∀ i, i < m → ∃ x, W.cells? base (a.add (i * size)) size = some (enc x)) : ∃ L : List α, L.length = len ∧ Sees W W.heap.size (some a) (L.flatMap enc) := by
  obtain ⟨f, hf⟩ := Go.Deep.choose_lt (n := len) (p := fun i x => W.cells? base (a.add (i * size)) size = some (enc x)) (fun i hi => h i (by omega))
  refine ⟨(List.range len).map f, by simp, fun h0 => ?_⟩
  have hlen : ((List.range len).map f).length = len := by simp
  rw [flat_len hk, hlen] at h0
  have hpos : 0 < len := by
    rcases Nat.eq_zero_or_pos len with e | e
    · rw [e, Nat.zero_mul] at h0; omega
    · exact e
  have hcell : ∀ i, i < len → ∀ j, j < size → W.cell? (a.add (i * size + j)) = (enc (f i))[j]? := fun i hi j hj => by
    obtain ⟨_, _, hat⟩ := World.cells?_some (hf i hi)
    rw [← Go.Deep.add_add]
    exact hat j hj
  obtain ⟨b, off, spot⟩ := a
  have h1 := hcell 0 hpos 0 hs
  have hv : ∃ v, (enc (f 0))[0]? = some v := ⟨_, List.getElem?_eq_getElem (by rw [hk]; exact hs)⟩
  obtain ⟨v, hv⟩ := hv
  rw [hv] at h1
  have hsp : spot = none := by simpa [Addr.add] using World.cell?_spot h1
  subst hsp
  have ha : ∀ k, (⟨b, off, none⟩ : Addr).add k = ⟨b, off + k, none⟩ := fun k => by unfold Addr.add; split <;> simp_all
  have hb := block_lt h1
  refine ⟨b, off, rfl, by simpa [ha] using hb, fun j hj => ?_⟩
  rw [flat_len hk, hlen] at hj
  have hd : j / size < len := Nat.div_lt_of_lt_mul (by rw [Nat.mul_comm]; exact hj)
  have hm := Nat.mod_lt j hs
  have e : j = j / size * size + j % size := by rw [Nat.mul_comm]; exact (Nat.div_add_mod j size).symm
  have hg := flat_get (d := default) hk ((List.range len).map f) (j / size) (by rw [hlen]; exact hd) (j % size) hm
  rw [← e] at hg
  rw [hg]
  have h2 := hcell (j / size) hd (j % size) hm
  rw [← e, ha] at h2
  rw [h2, List.getD_eq_getElem?_getD, List.getElem?_map, List.getElem?_range hd]
  rfl



theorem open_parts {H : Type} {enc : TypeId × Value → H} {W : World} {base : Nat} {held : Bool} {r : Reach} {b0 : Nat} {v : Value} {d : DataW H} {p : List MemPlace} (hv : Value.okWide Try.prog W r b0 22 v) (h : DataW.Trod enc Try.prog W base (fun _ => true) held 22 v d p) :
    ∃ (A : Option Addr) (n c : Nat) (L : List Pt), v = .slice A n c ∧ PRow W W.heap.size A L ∧ L.length = n ∧ n ≤ c ∧ c ≤ 9223372036854775807 := by
  have hC : Try.prog.cellsOf 45 = 3 := by kernel_rfl
  have c3 : Try.prog.cellsOf 3 = 1 := by kernel_rfl
  have cB : Try.prog.cellsOf 4 = 1 := by kernel_rfl
  have cS : Try.prog.cellsOf 24 = 1 := by kernel_rfl
  obtain ⟨A, n, c, rfl⟩ := okWide_slice Try.underlying22 hv
  obtain ⟨fuel, hf⟩ := h
  rcases Go.Deep.open_slice Try.underlying22 hf with ⟨hcs, _⟩ | ⟨a, len, cap, m, k, D, Pl, hcs, _, hl, hm, hmm, _, hx⟩
  · simp [Value.cells] at hcs
    obtain ⟨rfl, rfl, rfl⟩ := hcs
    exact ⟨none, 0, 0, [], rfl, PRow.nil_, rfl, by omega, by omega⟩
  · simp [Value.cells] at hcs
    obtain ⟨rfl, rfl, rfl⟩ := hcs
    have hnm : n ≤ m := by rw [hmm]; simpa using hl
    obtain ⟨f, hff⟩ := Go.Deep.choose_lt (n := n) (p := fun i (x : Int × Bool × Option Addr × Nat × List Int) => W.cells? base (a.add (i * 3)) 3 = some [.int .i64 x.1, .bool x.2.1, .slice x.2.2.1 x.2.2.2.2.length x.2.2.2.1] ∧ Row .i64 W W.heap.size x.2.2.1 x.2.2.2.2 ∧ x.2.2.2.2.length ≤ x.2.2.2.1 ∧ x.2.2.2.1 ≤ 9223372036854775807) (fun i hi => by
      obtain ⟨cs', h1, h2⟩ := hx i (by omega)
      rw [hC] at h1
      obtain ⟨_, hlen, _⟩ := World.cells?_some h1
      obtain ⟨ys, _, _, _, _, hyl, hg⟩ := DataW.trod_struct Try.underlying45 h2
      match ys, hyl, cs', hlen with
      | [y0, y1, y2], _, [v0, v1, v2], _ =>
        have g0 := hg 0 _ rfl
        have g1 := hg 1 _ rfl
        have g2 := hg 2 _ rfl
        simp [c3, cB, cS] at g0 g1 g2
        obtain ⟨t, rfl, _⟩ := cell_int g0
        obtain ⟨b, e1, _⟩ := DataW.trod_bool Try.underlying4 g1
        simp at e1
        subst e1
        obtain ⟨A', n', c', xs, rfl, hr, hxl, hlc, hcm⟩ := cell_ints g2
        exact ⟨(t, b, A', c', xs), by rw [h1, hxl], hr, by show xs.length ≤ c'; omega, hcm⟩)
    have hcell : ∀ i, i < n → ∀ j, j < 3 → W.cell? (a.add (i * 3 + j)) = [Value.int .i64 (f i).1, .bool (f i).2.1, .slice (f i).2.2.1 (f i).2.2.2.2.length (f i).2.2.2.1][j]? := fun i hi j hj => by
      obtain ⟨_, _, hat⟩ := World.cells?_some (hff i hi).1
      rw [← Go.Deep.add_add]
      exact hat j hj
    refine ⟨some a, n, c, (List.range n).map fun i => ((f i).1, (f i).2.1, (f i).2.2.2.2), rfl, fun h0 => ?_, by simp, hl, hm⟩
    have hpos : 0 < n := by simpa using h0
    obtain ⟨b, off, spot⟩ := a
    have h1 := hcell 0 hpos 0 (by omega)
    have hsp : spot = none := by simpa [Addr.add] using World.cell?_spot (h1.trans rfl)
    subst hsp
    have ha : ∀ k, (⟨b, off, none⟩ : Addr).add k = ⟨b, off + k, none⟩ := fun k => by unfold Addr.add; split <;> simp_all
    have hb := block_lt (h1.trans rfl)
    refine ⟨b, off, rfl, by simpa [ha] using hb, fun i hi => ?_⟩
    have hi : i < n := by simpa using hi
    have hg : ((List.range n).map fun i => ((f i).1, (f i).2.1, (f i).2.2.2.2)).getD i dP = ((f i).1, (f i).2.1, (f i).2.2.2.2) := by
      rw [List.getD_eq_getElem?_getD, List.getElem?_map, List.getElem?_range hi]; rfl
    rw [hg]
    have e0 := hcell i hi 0 (by omega)
    have e1 := hcell i hi 1 (by omega)
    have e2 := hcell i hi 2 (by omega)
    rw [ha] at e0 e1 e2
    exact ⟨(f i).2.2.1, (f i).2.2.2.1, e0, e1, e2, (hff i hi).2.1, (hff i hi).2.2.1, (hff i hi).2.2.2⟩
end Go.Proofs.Ytabapkbfolncoaa
