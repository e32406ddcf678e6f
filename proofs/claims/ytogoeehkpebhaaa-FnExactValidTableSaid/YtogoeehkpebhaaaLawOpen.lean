/-
  From the reading of an argument to the words of the walks: slices of ints inside structs, ends, packets.
-/
import Derived.Test.YtogoeehkpebhaaaLawKit
import Derived.Deep.Slices
import Derived.Test.YtogoeehkpebhaaaBox
import Derived.Test.YtogoeehkpebhaaaCon1
import Derived.Test.YtogoeehkpebhaaaMap1
namespace Go.Proofs.Ytogoeehkpebhaaa
open Go.ChangeShapes Go.WideShapes Go.ChangeAt Go.RowKit

section
variable {H : Type} {enc : TypeId × Value → H} {W : World} {base : Nat} {spare : Nat → Bool} {held : Bool} {fuel : Nat}
theorem cell_int {v : Value} {x : DataW H × List MemPlace} (h : DataW.trod enc Try.prog W base spare held fuel 3 [v] = some x) : ∃ n : Int, v = .int .i64 n ∧ (Lit.int .i64 n).wf = true := by
  obtain ⟨n, e, _, hw⟩ := DataW.trod_int Try.underlying3 h
  simp at e
  exact ⟨n, e, hw⟩
theorem cell_ints {v : Value} {x : DataW H × List MemPlace} (h : DataW.trod enc Try.prog W base (fun _ => true) held fuel 25 [v] = some x) :
    ∃ (A : Option Addr) (n c : Nat) (xs : List Int), v = .slice A n c ∧ Row .i64 W W.heap.size A xs ∧ xs.length = n ∧ n ≤ c ∧ c ≤ 9223372036854775807 := by
  rcases open_ints Try.underlying25 Try.underlying3 (by kernel_rfl) h with ⟨hcs, _⟩ | ⟨a, l, c, zs, hcs, _, hl, hm, hz, _, hcell, _⟩
  · simp at hcs
    exact ⟨none, 0, 0, [], hcs, Row.nil_, rfl, by omega, by omega⟩
  · simp at hcs
    have hz' : zs.length = c := by simpa using hz
    exact ⟨some a, l, c, zs.take l, hcs, row_of (by omega) hcell, by simp; omega, hl, hm⟩
theorem cells_end {v0 v1 : Value} {x : DataW H × List MemPlace} (h : DataW.trod enc Try.prog W base spare held fuel 31 [v0, v1] = some x) : ∃ a b : Int, v0 = .int .i64 a ∧ v1 = .int .i64 b := by
  obtain ⟨xs, n, _, _, _, hlen, hf⟩ := DataW.trod_struct Try.underlying31 h
  match xs, hlen with
  | [y0, y1], _ =>
    have c3 : Try.prog.cellsOf 3 = 1 := by kernel_rfl
    have h0 := hf 0 _ rfl
    have h1 := hf 1 _ rfl
    simp [c3] at h0 h1
    obtain ⟨a, e0, _⟩ := cell_int h0
    obtain ⟨b, e1, _⟩ := cell_int h1
    exact ⟨a, b, e0, e1⟩
end

theorem open_packet {H : Type} {enc : TypeId × Value → H} {W : World} {base : Nat} {held : Bool} {r : Reach} {b0 : Nat} {v : Value} {d : DataW H} {p : List MemPlace} (hv : Value.okWide Try.prog W r b0 33 v) (h : DataW.Trod enc Try.prog W base (fun _ => true) held 33 v d p) :
    ∃ (kd fa fp ta tp : Int) (A : Option Addr) (n c : Nat) (xs : List Int), v = .agg #[.int .i64 kd, .int .i64 fa, .int .i64 fp, .int .i64 ta, .int .i64 tp, .slice A n c] ∧ Row .i64 W W.heap.size A xs ∧ xs.length = n ∧ n ≤ c ∧ c ≤ 9223372036854775807 := by
  have hC : Try.prog.cellsOf 33 = 6 := by kernel_rfl
  have c3 : Try.prog.cellsOf 3 = 1 := by kernel_rfl
  have cE : Try.prog.cellsOf 31 = 2 := by kernel_rfl
  have cS : Try.prog.cellsOf 25 = 1 := by kernel_rfl
  obtain ⟨cs, rfl, hsz⟩ := okWide_struct Try.underlying33 hv
  obtain ⟨l⟩ := cs
  match l, hsz.trans hC with
  | [v0, v1, v2, v3, v4, v5], _ =>
    obtain ⟨fuel, hf⟩ := h
    obtain ⟨ys, n, _, _, _, hlen, hg⟩ := DataW.trod_struct Try.underlying33 hf
    match ys, hlen with
    | [y0, y1, y2, y3], _ =>
      have h0 := hg 0 _ rfl
      have h1 := hg 1 _ rfl
      have h2 := hg 2 _ rfl
      have h3 := hg 3 _ rfl
      simp [Value.cells, c3, cE, cS] at h0 h1 h2 h3
      obtain ⟨kd, rfl, _⟩ := cell_int h0
      obtain ⟨fa, fp, rfl, rfl⟩ := cells_end h1
      obtain ⟨ta, tp, rfl, rfl⟩ := cells_end h2
      obtain ⟨A, k, c, xs, rfl, hr, hx, hl, hc⟩ := cell_ints h3
      exact ⟨kd, fa, fp, ta, tp, A, k, c, xs, rfl, hr, hx, hl, hc⟩

/-- A row of elements that came in. -/
theorem rows_of {α : Type} [Inhabited α] {enc : α → List Value} {size : Nat} (hk : ∀ x, (enc x).length = size) (hs : 0 < size) {W : World} {base : Nat} {a : Addr} {len m : Nat} (hl : len ≤ m)
    (h : ∀ i, i < m → ∃ x, W.cells? base (a.add (i * size)) size = some (enc x)) : ∃ L : List α, L.length = len ∧ Sees W W.heap.size (some a) (L.flatMap enc) := by
  obtain ⟨f, hf⟩ := Go.Deep.choose_lt (n := len) (p := fun i x => W.cells? base (a.add (i * size)) size = some (enc x)) (fun i hi => h i (by omega))
  refine ⟨(List.range len).map f, by simp, fun h0 => ?_⟩
  have hlen : ((List.range len).map f).length = len := by simp
  rw [flat_len hk, hlen] at h0
  have hpos : 0 < len := by
    rcases Nat.eq_zero_or_pos len with e | e
    · rw [e, Nat.zero_mul] at h0; omega
    · exact e
  have hcell : ∀ i, i < len → ∀ j, j < size → W.cell? (a.add (i * size + j)) = (enc (f i))[j]? := fun i hi j hj => by
    obtain ⟨_, _, hat⟩ := World.cells?_some (hf i hi)
    rw [← Go.Deep.add_add]
    exact hat j hj
  obtain ⟨b, off, spot⟩ := a
  have h1 := hcell 0 hpos 0 hs
  have hv : ∃ v, (enc (f 0))[0]? = some v := ⟨_, List.getElem?_eq_getElem (by rw [hk]; exact hs)⟩
  obtain ⟨v, hv⟩ := hv
  rw [hv] at h1
  have hsp : spot = none := by simpa [Addr.add] using World.cell?_spot h1
  subst hsp
  have ha : ∀ k, (⟨b, off, none⟩ : Addr).add k = ⟨b, off + k, none⟩ := fun k => by unfold Addr.add; split <;> simp_all
  have hb := block_lt h1
  refine ⟨b, off, rfl, by simpa [ha] using hb, fun j hj => ?_⟩
  rw [flat_len hk, hlen] at hj
  have hd : j / size < len := Nat.div_lt_of_lt_mul (by rw [Nat.mul_comm]; exact hj)
  have hm := Nat.mod_lt j hs
  have e : j = j / size * size + j % size := by rw [Nat.mul_comm]; exact (Nat.div_add_mod j size).symm
  have hg := flat_get (d := default) hk ((List.range len).map f) (j / size) (by rw [hlen]; exact hd) (j % size) hm
  rw [← e] at hg
  rw [hg]
  have h2 := hcell (j / size) hd (j % size) hm
  rw [← e, ha] at h2
  rw [h2, List.getD_eq_getElem?_getD, List.getElem?_map, List.getElem?_range hd]
  rfl

theorem open_contacts {H : Type} {enc : TypeId × Value → H} {W : World} {base : Nat} {held : Bool} {r : Reach} {b0 : Nat} {v : Value} {d : DataW H} {p : List MemPlace} (hv : Value.okWide Try.prog W r b0 38 v) (h : DataW.Trod enc Try.prog W base (fun _ => true) held 38 v d p) :
    ∃ (A : Option Addr) (n c : Nat) (L : List (Int × Int × Int)), v = .slice A n c ∧ CRow W W.heap.size A L ∧ L.length = n ∧ n ≤ c ∧ c ≤ 9223372036854775807 := by
  have hC : Try.prog.cellsOf 67 = 3 := by kernel_rfl
  have c3 : Try.prog.cellsOf 3 = 1 := by kernel_rfl
  have cE : Try.prog.cellsOf 31 = 2 := by kernel_rfl
  obtain ⟨A, n, c, rfl⟩ := okWide_slice Try.underlying38 hv
  obtain ⟨fuel, hf⟩ := h
  rcases Go.Deep.open_slice Try.underlying38 hf with ⟨hcs, _⟩ | ⟨a, len, cap, m, k, D, Pl, hcs, _, hl, hm, hmm, _, hx⟩
  · simp [Value.cells] at hcs
    obtain ⟨rfl, rfl, rfl⟩ := hcs
    exact ⟨none, 0, 0, [], rfl, CRow.nil_, rfl, by omega, by omega⟩
  · simp [Value.cells] at hcs
    obtain ⟨rfl, rfl, rfl⟩ := hcs
    obtain ⟨L, hL, hS⟩ := rows_of (enc := encC) encC_len (by decide) (W := W) (base := base) (a := a) (len := n) (m := m) (by rw [hmm]; simpa using hl) (fun i hi => by
      obtain ⟨cs', h1, h2⟩ := hx i hi
      rw [hC] at h1
      obtain ⟨_, hlen, _⟩ := World.cells?_some h1
      obtain ⟨ys, _, _, _, _, hyl, hg⟩ := DataW.trod_struct Try.underlying67 h2
      match ys, hyl, cs', hlen with
      | [y0, y1], _, [v0, v1, v2], _ =>
        have g0 := hg 0 _ rfl
        have g1 := hg 1 _ rfl
        simp [c3, cE] at g0 g1
        obtain ⟨p, rfl, _⟩ := cell_int g0
        obtain ⟨x, y, rfl, rfl⟩ := cells_end g1
        exact ⟨(p, x, y), h1⟩)
    exact ⟨some a, n, c, L, rfl, hS, hL, hl, hm⟩

theorem open_table {H : Type} {enc : TypeId × Value → H} {W : World} {base : Nat} {held : Bool} {r : Reach} {b0 : Nat} {v : Value} {d : DataW H} {p : List MemPlace} (hv : Value.okWide Try.prog W r b0 45 v) (h : DataW.Trod enc Try.prog W base (fun _ => true) held 45 v d p) :
    ∃ (A : Option Addr) (n c : Nat) (L : List (Int × Int × Int × Int)), v = .slice A n c ∧ MRow W W.heap.size A L ∧ L.length = n ∧ n ≤ c ∧ c ≤ 9223372036854775807 := by
  have hC : Try.prog.cellsOf 74 = 4 := by kernel_rfl
  have c3 : Try.prog.cellsOf 3 = 1 := by kernel_rfl
  have cE : Try.prog.cellsOf 31 = 2 := by kernel_rfl
  obtain ⟨A, n, c, rfl⟩ := okWide_slice Try.underlying45 hv
  obtain ⟨fuel, hf⟩ := h
  rcases Go.Deep.open_slice Try.underlying45 hf with ⟨hcs, _⟩ | ⟨a, len, cap, m, k, D, Pl, hcs, _, hl, hm, hmm, _, hx⟩
  · simp [Value.cells] at hcs
    obtain ⟨rfl, rfl, rfl⟩ := hcs
    exact ⟨none, 0, 0, [], rfl, MRow.nil_, rfl, by omega, by omega⟩
  · simp [Value.cells] at hcs
    obtain ⟨rfl, rfl, rfl⟩ := hcs
    obtain ⟨L, hL, hS⟩ := rows_of (enc := encM) encM_len (by decide) (W := W) (base := base) (a := a) (len := n) (m := m) (by rw [hmm]; simpa using hl) (fun i hi => by
      obtain ⟨cs', h1, h2⟩ := hx i hi
      rw [hC] at h1
      obtain ⟨_, hlen, _⟩ := World.cells?_some h1
      obtain ⟨ys, _, _, _, _, hyl, hg⟩ := DataW.trod_struct Try.underlying74 h2
      match ys, hyl, cs', hlen with
      | [y0, y1, y2], _, [v0, v1, v2, v3], _ =>
        have g0 := hg 0 _ rfl
        have g1 := hg 1 _ rfl
        have g2 := hg 2 _ rfl
        simp [c3, cE] at g0 g1 g2
        obtain ⟨x, y, rfl, rfl⟩ := cells_end g0
        obtain ⟨p, rfl, _⟩ := cell_int g1
        obtain ⟨t, rfl, _⟩ := cell_int g2
        exact ⟨(x, y, p, t), h1⟩)
    exact ⟨some a, n, c, L, rfl, hS, hL, hl, hm⟩
end Go.Proofs.Ytogoeehkpebhaaa
