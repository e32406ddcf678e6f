/-
  From the reading of an argument to the words of the walks: slices of ints inside structs, ends, packets.
-/
import Derived.Test.YtogoeehkpebhaaaLawKit
import Derived.Deep.Slices
namespace Go.Proofs.Ytogoeehkpebhaaa
open Go.ChangeShapes Go.WideShapes Go.ChangeAt Go.RowKit

section
variable {H : Type} {enc : TypeId × Value → H} {W : World} {base : Nat} {spare : Nat → Bool} {held : Bool} {fuel : Nat}
theorem cell_int {v : Value} {x : DataW H × List MemPlace} (h : DataW.trod enc Try.prog W base spare held fuel 3 [v] = some x) : ∃ n : Int, v = .int .i64 n ∧ (Lit.int .i64 n).wf = true := by
  obtain ⟨n, e, _, hw⟩ := DataW.trod_int Try.underlying3 h
  simp at e
  exact ⟨n, e, hw⟩
theorem cell_ints {v : Value} {x : DataW H × List MemPlace} (h : DataW.trod enc Try.prog W base (fun _ => true) held fuel 25 [v] = some x) :
    ∃ (A : Option Addr) (n c : Nat) (xs : List Int), v = .slice A n c ∧ Row .i64 W W.heap.size A xs ∧ xs.length = n ∧ n ≤ c ∧ c ≤ 9223372036854775807 := by
  rcases open_ints Try.underlying25 Try.underlying3 (by kernel_rfl) h with ⟨hcs, _⟩ | ⟨a, l, c, zs, hcs, _, hl, hm, hz, _, hcell, _⟩
  · simp at hcs
    exact ⟨none, 0, 0, [], hcs, Row.nil_, rfl, by omega, by omega⟩
  · simp at hcs
    have hz' : zs.length = c := by simpa using hz
    exact ⟨some a, l, c, zs.take l, hcs, row_of (by omega) hcell, by simp; omega, hl, hm⟩
theorem cells_end {v0 v1 : Value} {x : DataW H × List MemPlace} (h : DataW.trod enc Try.prog W base spare held fuel 31 [v0, v1] = some x) : ∃ a b : Int, v0 = .int .i64 a ∧ v1 = .int .i64 b := by
  obtain ⟨xs, n, _, _, _, hlen, hf⟩ := DataW.trod_struct Try.underlying31 h
  match xs, hlen with
  | [y0, y1], _ =>
    have c3 : Try.prog.cellsOf 3 = 1 := by kernel_rfl
    have h0 := hf 0 _ rfl
    have h1 := hf 1 _ rfl
    simp [c3] at h0 h1
    obtain ⟨a, e0, _⟩ := cell_int h0
    obtain ⟨b, e1, _⟩ := cell_int h1
    exact ⟨a, b, e0, e1⟩
end

theorem open_packet {H : Type} {enc : TypeId × Value → H} {W : World} {base : Nat} {held : Bool} {r : Reach} {b0 : Nat} {v : Value} {d : DataW H} {p : List MemPlace} (hv : Value.okWide Try.prog W r b0 33 v) (h : DataW.Trod enc Try.prog W base (fun _ => true) held 33 v d p) :
    ∃ (kd fa fp ta tp : Int) (A : Option Addr) (n c : Nat) (xs : List Int), v = .agg #[.int .i64 kd, .int .i64 fa, .int .i64 fp, .int .i64 ta, .int .i64 tp, .slice A n c] ∧ Row .i64 W W.heap.size A xs ∧ xs.length = n ∧ n ≤ c ∧ c ≤ 9223372036854775807 := by
  have hC : Try.prog.cellsOf 33 = 6 := by kernel_rfl
  have c3 : Try.prog.cellsOf 3 = 1 := by kernel_rfl
  have cE : Try.prog.cellsOf 31 = 2 := by kernel_rfl
  have cS : Try.prog.cellsOf 25 = 1 := by kernel_rfl
  obtain ⟨cs, rfl, hsz⟩ := okWide_struct Try.underlying33 hv
  obtain ⟨l⟩ := cs
  match l, hsz.trans hC with
  | [v0, v1, v2, v3, v4, v5], _ =>
    obtain ⟨fuel, hf⟩ := h
    obtain ⟨ys, n, _, _, _, hlen, hg⟩ := DataW.trod_struct Try.underlying33 hf
    match ys, hlen with
    | [y0, y1, y2, y3], _ =>
      have h0 := hg 0 _ rfl
      have h1 := hg 1 _ rfl
      have h2 := hg 2 _ rfl
      have h3 := hg 3 _ rfl
      simp [Value.cells, c3, cE, cS] at h0 h1 h2 h3
      obtain ⟨kd, rfl, _⟩ := cell_int h0
      obtain ⟨fa, fp, rfl, rfl⟩ := cells_end h1
      obtain ⟨ta, tp, rfl, rfl⟩ := cells_end h2
      obtain ⟨A, k, c, xs, rfl, hr, hx, hl, hc⟩ := cell_ints h3
      exact ⟨kd, fa, fp, ta, tp, A, k, c, xs, rfl, hr, hx, hl, hc⟩
end Go.Proofs.Ytogoeehkpebhaaa
