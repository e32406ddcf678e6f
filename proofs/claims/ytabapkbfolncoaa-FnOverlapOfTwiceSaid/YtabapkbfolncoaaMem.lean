/-
  Words for memory: a slice of ints that reads as a list; the generator's reader; what stays over new blocks and writes elsewhere.
-/
import Derived.Test.YtabapkbfolncoaaProg
import Derived.WalkKit
import Derived.WalkSpells
import Derived.WalkLawsBesides
import Derived.Maps.AppendAt
import Derived.Maps.Range
import Derived.Deep.Draws
import Derived.Laws.BitsAllLaws
import Derived.Laws.BitsLemmas
import Derived.Lib.Hide
import Derived.Deep.QuietTactic
import Derived.BigQuiet
namespace Go.Proofs.Ytabapkbfolncoaa
open Go.RowKit

theorem ret_bool {a b : Bool} (h : a = b) : Ending.returned (.bool a) = .returned (.bool b) := by rw [h]
theorem ret_int {k : IntKind} {a b : Int} (h : a = b) : Ending.returned (.int k a) = .returned (.int k b) := by rw [h]

/-- A contract that leaves the world as it was, met in a quiet region. -/
theorem quietL {P : Program} {f : FuncId} {args : Array Value} {w : World} {n : Nat} {v : Value}
    (h : Calls P f args (w.drewN n) fun e w' => e = .returned v ∧ w.drewN n = w') : Calls P f args (w.drewN n) fun e w'' => e = .returned v ∧ ∃ m, w'' = w.drewN m :=
  h.mono fun _ _ ⟨he, hm⟩ => ⟨he, n, hm.symm⟩

/-- One step more, each said from its own world on. -/
theorem next {w0 w1 w2 : World} (h : Below w0.heap.size w0 w1) (k : Below w1.heap.size w1 w2) : Below w0.heap.size w0 w2 := h.trans (k.mono h.size)

/-- The slice address a leads to the numbers xs (kind k), in a block below B. -/
def Row (k : IntKind) (w : World) (B : Nat) (a : Option Addr) (xs : List Int) : Prop :=
  0 < xs.length → ∃ b o, a = some ⟨b, o, none⟩ ∧ b < B ∧ ∀ i, i < xs.length → w.cell? ⟨b, o + i, none⟩ = some (.int k (xs.getD i 0))

section
variable {k : IntKind} {w w' : World} {B B' : Nat} {a : Option Addr} {xs : List Int}
theorem Row.nil_ : Row k w B a [] := fun h => absurd h (by simp)
theorem Row.keep (h : Row k w B a xs) (hc : ∀ b o, b < B → w'.cell? ⟨b, o, none⟩ = w.cell? ⟨b, o, none⟩) : Row k w' B a xs := fun hn => by
  obtain ⟨b, o, e, hb, hi⟩ := h hn
  exact ⟨b, o, e, hb, fun i hl => (hc b _ hb).trans (hi i hl)⟩
theorem Row.more (h : Row k w B a xs) (hB : B ≤ B') : Row k w B' a xs := fun hn => by
  obtain ⟨b, o, e, hb, hi⟩ := h hn
  exact ⟨b, o, e, by omega, hi⟩
theorem Row.below (h : Row k w B a xs) (hb : Below B w w') : Row k w' B a xs := h.keep fun b o hlt => hb.cell (p := ⟨b, o, none⟩) hlt
theorem Row.alloc (h : Row k w B a xs) (hB : B ≤ w.heap.size) (o : Obj) : Row k (w.alloc o) B a xs := h.keep fun b o hlt => World.cell?_alloc_lt w _ ⟨b, o, none⟩ (Nat.lt_of_lt_of_le hlt hB)
theorem Row.drew (h : Row k w B a xs) : Row k w.drew B a xs := h
theorem Row.drewN (h : Row k w B a xs) (n : Nat) : Row k (w.drewN n) B a xs := h
end

/-- Only block R, and what is new, may differ. -/
theorem only_alloc {a w : World} {row : Option Nat} (h : a.grownBy w row) (o : Obj) : a.grownBy (w.alloc o) row := h.trans (World.grownBy_alloc w o row)
theorem only_setCell (w : World) (R i : Nat) (u : Value) : w.grownBy (w.setCell ⟨R, i, none⟩ u) (some R) :=
  ⟨rfl, rfl, rfl, by simp [World.setCell], fun j _ hne => Below.heap_setCell w ⟨R, i, none⟩ u j (fun e => hne (by rw [e]))⟩
theorem only_drewN {a w : World} {row : Option Nat} (h : a.grownBy w row) (n : Nat) : a.grownBy (w.drewN n) row := ⟨h.os, h.tape, h.output, h.size, h.block⟩
theorem only_of_below {a w : World} (h : Below a.heap.size a w) (R : Nat) : a.grownBy w (some R) := ⟨h.os, h.tape, h.output, h.size, fun j hj _ => h.block j hj⟩
theorem only_below {B : Nat} {w0 w w' : World} {R : Nat} (h : Below B w0 w) (hg : w.grownBy w' (some R)) (hB : B ≤ w.heap.size) (hR : B ≤ R) : Below B w0 w' :=
  h.grown hg hB fun j e => by injection e with e; omega

/-- Block R is a reader: its bytes lie below block B; its place is at most P. -/
def Rd (w : World) (B R P : Nat) : Prop :=
  B ≤ R ∧ R < w.heap.size ∧ ∃ (a : Option Addr) (n c p : Nat), w.heap[R]? = some (.cells #[.slice a n c, .int .i64 p] 70 (0, 0)) ∧ p ≤ P ∧ n ≤ 2000 ∧
    (0 < n → ∃ b o, a = some ⟨b, o, none⟩ ∧ b < B ∧ ∀ i, i < n → ∃ z : Int, 0 ≤ z ∧ z ≤ 255 ∧ w.cell? ⟨b, o + i, none⟩ = some (.int .u8 z))

theorem Rd.lt {w : World} {B R P : Nat} (h : Rd w B R P) : R < w.heap.size := h.2.1
theorem Rd.low {w : World} {B R P : Nat} (h : Rd w B R P) : B ≤ R := h.1
theorem Rd.mono {w : World} {B R P P' : Nat} (h : Rd w B R P) (hP : P ≤ P') : Rd w B R P' := by
  obtain ⟨h1, h2, a, n, c, p, hh, hp, hn, hc⟩ := h
  exact ⟨h1, h2, a, n, c, p, hh, by omega, hn, hc⟩
theorem Rd.keep {w w' : World} {B R P : Nat} (h : Rd w B R P) (hs : w.heap.size ≤ w'.heap.size) (hb : ∀ j, j < w.heap.size → j < B ∨ j = R → w'.heap[j]? = w.heap[j]?) : Rd w' B R P := by
  obtain ⟨h1, h2, a, n, c, p, hh, hp, hn, hc⟩ := h
  refine ⟨h1, by omega, a, n, c, p, by rw [hb R h2 (.inr rfl)]; exact hh, hp, hn, fun h0 => ?_⟩
  obtain ⟨b, o, e, hlt, hi⟩ := hc h0
  refine ⟨b, o, e, hlt, fun i hl => ?_⟩
  obtain ⟨z, z0, z1, hz⟩ := hi i hl
  exact ⟨z, z0, z1, (World.cell?_of_block (a := ⟨b, o + i, none⟩) (hb b (by omega) (.inl hlt))).trans hz⟩
theorem Rd.alloc {w : World} {B R P : Nat} (h : Rd w B R P) (o : Obj) : Rd (w.alloc o) B R P := h.keep (by simp) fun j hj _ => Below.heap_alloc w o j hj
/-- A write into another block than the reader's, from B on. -/
theorem Rd.far {w w' : World} {B R P g : Nat} (h : Rd w B R P) (hg : w.grownBy w' (some g)) (hB : B ≤ g) (hR : g ≠ R) : Rd w' B R P :=
  h.keep hg.size fun j hj hor => hg.block j hj (fun e => by injection e with e; omega)
theorem Rd.below {w w' : World} {B R P : Nat} (h : Rd w B R P) (hb : Below w.heap.size w w') : Rd w' B R P :=
  h.keep hb.size fun j hj _ => hb.block j hj

/-- What pick leaves. -/
def Picked (w : World) (B R P : Nat) (Q : Int → Prop) (e : Ending) (w' : World) : Prop :=
  ∃ m : Int, e = .returned (.int .i64 m) ∧ Q m ∧ Rd w' B R P ∧ w.grownBy w' (some R)
theorem Picked.mk {w w' : World} {B R P : Nat} {Q : Int → Prop} {e : Ending} (m : Int) (he : e = .returned (.int .i64 m)) (hm : Q m) (hr : Rd w' B R P) (hg : w.grownBy w' (some R)) : Picked w B R P Q e w' := ⟨m, he, hm, hr, hg⟩

/-- A list of ints that the call has just made, one block. -/
theorem lit_cells (w : World) (t : TypeId) (xs : List Int) : ∀ i, i < xs.length → (w.alloc (.cells (xs.map (Value.int .i64)).toArray t)).cell? ⟨w.heap.size, 0 + i, none⟩ = some (.int .i64 (xs.getD i 0)) := by
  intro i hi
  rw [cell_of_row (w.alloc (.cells (xs.map (Value.int .i64)).toArray t)) w.heap.size (0 + i) _ t (0, 0) (heap_alloc_new w _)]
  simp [hi]
theorem lit_cells_at (w : World) (t : TypeId) (xs : List Int) (H : Nat) (hH : w.heap.size = H) : ∀ i, i < xs.length → (w.alloc (.cells (xs.map (Value.int .i64)).toArray t)).cell? ⟨H, 0 + i, none⟩ = some (.int .i64 (xs.getD i 0)) := by
  subst hH; exact lit_cells w t xs
theorem lit_row_at (w : World) (t : TypeId) (xs : List Int) (H : Nat) (hH : w.heap.size = H) : Row .i64 (w.alloc (.cells (xs.map (Value.int .i64)).toArray t)) (H + 1) (some ⟨H, 0, none⟩) xs := by
  subst hH
  exact fun _ => ⟨w.heap.size, 0, rfl, by omega, lit_cells w t xs⟩
theorem lit_row (w : World) (t : TypeId) (xs : List Int) : Row .i64 (w.alloc (.cells (xs.map (Value.int .i64)).toArray t)) (w.heap.size + 1) (some ⟨w.heap.size, 0, none⟩) xs :=
  fun _ => ⟨w.heap.size, 0, rfl, by omega, lit_cells w t xs⟩

/-- A struct of two cells in a new block. -/
theorem box2 (w : World) (t : TypeId) (x y : Value) : (w.alloc (.cells #[x, y] t)).cell? ⟨w.heap.size, 0, none⟩ = some x ∧ (w.alloc (.cells #[x, y] t)).cell? ⟨w.heap.size, 1, none⟩ = some y :=
  ⟨by rw [cell_of_row _ w.heap.size 0 _ t (0, 0) (heap_alloc_new w _)]; rfl, by rw [cell_of_row _ w.heap.size 1 _ t (0, 0) (heap_alloc_new w _)]; rfl⟩

theorem wrap_in {n : Int} (h : -9223372036854775808 ≤ n ∧ n ≤ 9223372036854775807) : IntKind.i64.wrap n = n := by rw [IntKind.wrap_i64]; omega

/-! Bits of numbers not below 0. -/
theorem ofInt_nat64 (a : Nat) (ha : a < 9223372036854775808) : (BitVec.ofInt 64 (a : Int)).toNat = a := by
  rw [BitVec.ofInt_natCast, BitVec.toNat_ofNat]; exact Nat.mod_eq_of_lt (by omega)
theorem xor_nonneg (a b : Int) (ha : 0 ≤ a) (ha' : a < 9223372036854775808) (hb : 0 ≤ b) (hb' : b < 9223372036854775808) : 0 ≤ bits .xor .i64 a b := by
  obtain ⟨m, rfl⟩ := Int.eq_ofNat_of_zero_le ha
  obtain ⟨n, rfl⟩ := Int.eq_ofNat_of_zero_le hb
  have hx : m ^^^ n < 2 ^ 63 := Nat.xor_lt_two_pow (by omega) (by omega)
  have : bits .xor .i64 (m : Int) (n : Int) = ((m ^^^ n : Nat) : Int) := by
    show IntKind.i64.wrap ((BitVec.ofInt 64 (m : Int) ^^^ BitVec.ofInt 64 (n : Int)).toNat : Int) = _
    rw [BitVec.toNat_xor, ofInt_nat64 m (by omega), ofInt_nat64 n (by omega), IntKind.wrap_i64]
    omega
  rw [this]; omega

end Go.Proofs.Ytabapkbfolncoaa
