/-
  A variable of several cells of our own; a result of several cells; rows of elements of several cells.
-/
import Derived.Test.YtabapkbfolncoaaOwn
import Derived.Laws.Rows
import Derived.Deep.DrawnRows
namespace Go.Proofs.Ytabapkbfolncoaa
open Go.RowKit

/-- A variable of our own. -/
def Box (w : World) (base g : Nat) (xs : List Value) : Prop := Mine w base 1 (some ⟨g, 0, none⟩) xs.length xs.length xs
section
variable {w w' : World} {base base' g : Nat} {xs : List Value}
theorem Box.at_ (h : Box w base g xs) (j : Nat) {v : Value} (hv : xs[j]? = some v) : w.cell? ⟨g, j, none⟩ = some v := by
  have hj : j < xs.length := by
    rcases Nat.lt_or_ge j xs.length with h | h
    · exact h
    · rw [List.getElem?_eq_none h] at hv; cases hv
  exact (Mine.at0 h (j := j) (by omega)).trans hv
theorem Box.free (h : Box w base g xs) (j : Nat) (hj : j < xs.length) : w.frozen? ⟨g, j, none⟩ = false := (Mine.can0 h (j := j) (by omega)).2
theorem Box.lt (h : Box w base g xs) : base ≤ g ∧ g < w.heap.size := Mine.lt h rfl
theorem Box.below (h : Box w base g xs) (hb : Below w.heap.size w w') : Box w' base g xs := Mine.below h hb
theorem Box.alloc (h : Box w base g xs) (o : Obj) : Box (w.alloc o) base g xs := Mine.alloc h o
theorem Box.drew (h : Box w base g xs) : Box w.drew base g xs := Mine.drewN h 1
theorem Box.drewN (h : Box w base g xs) (n : Nat) : Box (w.drewN n) base g xs := Mine.drewN h n
theorem Box.mono (h : Box w base g xs) (hb : base' ≤ base) : Box w base' g xs := Mine.mono h hb
theorem Box.far {R : Nat} (h : Box w base g xs) (hg : w.grownBy w' (some R)) (hR : R ≠ g) : Box w' base g xs := Mine.kept h hg (fun g' e e' => by simp at e; injection e' with e'; omega)
theorem Box.set (h : Box w base g xs) (j : Nat) (hj : j < xs.length) (u : Value) : Box (w.setCell ⟨g, j, none⟩ u) base g (xs.set j u) := by
  have := Mine.set0 h (j := j) (by omega) u
  unfold Box
  rw [List.length_set]
  exact this
end
theorem Box.new_at (w : World) (H : Nat) (hH : w.heap.size = H) (t : TypeId) (C : Array Value) (hC : C.size ≤ maxLen) : Box (w.alloc (.cells C t)) H H C.toList := by
  have := Mine.new_at w H hH t 1 C.size C (by omega) hC
  unfold Box
  simpa using this

/-! A result that lies in memory. -/
theorem run_loadVar_cells {P : Program} (w : World) (g : Nat) (ty : TypeId) (xs : List Value) (d : TypeDesc) (h : ∀ j v, xs[j]? = some v → w.cell? ⟨g, j, none⟩ = some v)
    (hu : P.underlying ty = some d) (hd : (match d with | .struct _ | .array _ _ => true | _ => false) = true) (hi : (P.info? ty).map (·.size) = some xs.length) :
    (loadVar ty ⟨g, 0, none⟩).run P w = .ok (.agg xs.toArray) w := by
  have hl : (loadCells ⟨g, 0, none⟩ xs.length).run P w = .ok xs.toArray w :=
    run_loadCells_list (P := P) w ⟨g, 0, none⟩ xs (fun j v hv => by
      have hadd : (⟨g, 0, none⟩ : Addr).add j = ⟨g, j, none⟩ := by unfold Addr.add; split <;> simp_all
      rw [hadd]
      exact h j v hv)
  cases hq : P.info? ty with
  | none => simp [hq] at hi
  | some i =>
    have hs : i.size = xs.length := by simpa [hq] using hi
    have hagg : (isAgg ty).run P w = .ok true w := by
      unfold isAgg
      rw [Sem.run_bind, run_underlying hu w]
      cases d <;> simp_all
    simp [loadVar, Sem.run_bind, hagg, sizeOf, typeInfo, hq, hs, hl]
theorem results_cells {P : Program} {fn : Func} {p : Tmp} {ty : TypeId} (h : fn.results = #[.cell p ty]) (tmps : Array Value) (w : World) (g : Nat) (xs : List Value) (d : TypeDesc)
    (hp : tmps.getD p undef = .pointer (some ⟨g, 0, none⟩)) (hc : ∀ j v, xs[j]? = some v → w.cell? ⟨g, j, none⟩ = some v)
    (hu : P.underlying ty = some d) (hd : (match d with | .struct _ | .array _ _ => true | _ => false) = true) (hi : (P.info? ty).map (·.size) = some xs.length) :
    (results fn tmps).run P w = .ok (.agg xs.toArray) w := by
  have hp' : tmps[p]?.getD undef = .pointer (some ⟨g, 0, none⟩) := by simpa using hp
  simp [results, h, hp', asAddr, run_loadVar_cells w g ty xs d hc hu hd hi]

/-! Rows of elements. -/
section
variable {α : Type} {enc : α → List Value} {size : Nat} {d : α}
theorem flat_len (hk : ∀ x, (enc x).length = size) (L : List α) : (L.flatMap enc).length = L.length * size := by
  induction L with
  | nil => simp
  | cons p r ih => rw [List.flatMap_cons, List.length_append, ih, hk, List.length_cons, Nat.add_mul]; omega
theorem flat_get (hk : ∀ x, (enc x).length = size) (L : List α) : ∀ i, i < L.length → ∀ c, c < size → (L.flatMap enc)[i * size + c]? = (enc (L.getD i d))[c]? := by
  induction L with
  | nil => intro i hi; simp at hi
  | cons p r ih =>
    intro i hi c hc
    rw [List.flatMap_cons]
    cases i with
    | zero =>
      rw [Nat.zero_mul, Nat.zero_add, List.getElem?_append_left (by rw [hk]; exact hc)]
      rfl
    | succ i =>
      have h := ih i (by simpa using hi) c hc
      rw [List.getElem?_append_right (by rw [hk, Nat.add_mul]; omega), hk, show (i + 1) * size + c - size = i * size + c by rw [Nat.add_mul]; omega, h]
      rfl
theorem flat_snoc (L : List α) (x : α) : (L ++ [x]).flatMap enc = L.flatMap enc ++ enc x := by simp
/-- Cells that show the first k elements. -/
def ShowsE (enc : α → List Value) (size : Nat) (d : α) (ys : List Value) (L : List α) (k : Nat) : Prop := ∀ t, t < k → ∀ c, c < size → ys[t * size + c]? = (enc (L.getD t d))[c]?
def setAll (ys : List Value) (o : Nat) : List Value → List Value
  | [] => ys
  | v :: r => setAll (ys.set o v) (o + 1) r
theorem setAll_get : ∀ (vs ys : List Value) (o j : Nat), o + vs.length ≤ ys.length → (setAll ys o vs)[j]? = if o ≤ j ∧ j < o + vs.length then vs[j - o]? else ys[j]?
  | [], ys, o, j, _ => by simp [setAll]; intro h1 h2; omega
  | v :: r, ys, o, j, h => by
    simp only [List.length_cons] at h
    rw [setAll, setAll_get r (ys.set o v) (o + 1) j (by simp; omega)]
    by_cases h1 : j = o
    · subst h1
      rw [if_neg (by omega), if_pos (by simp), Nat.sub_self, List.getElem?_set_self (by omega)]
      rfl
    · by_cases h2 : o + 1 ≤ j ∧ j < o + 1 + r.length
      · rw [if_pos h2, if_pos (by simp; omega), show j - o = (j - (o + 1)) + 1 by omega, List.getElem?_cons_succ]
      · rw [if_neg h2, if_neg (by simp; omega), List.getElem?_set, if_neg (fun e => h1 e.symm)]
theorem setAll_len : ∀ (vs ys : List Value) (o : Nat), (setAll ys o vs).length = ys.length
  | [], _, _ => rfl
  | v :: r, ys, o => by rw [setAll, setAll_len r]; simp
theorem ShowsE.step (hk : ∀ x, (enc x).length = size) {ys : List Value} {L : List α} {k : Nat} (h : ShowsE enc size d ys L k) (hl : (k + 1) * size ≤ ys.length) : ShowsE enc size d (setAll ys (k * size) (enc (L.getD k d))) L (k + 1) := by
  intro t ht c hc
  rw [Nat.add_mul] at hl
  rw [setAll_get _ _ _ _ (by rw [hk]; omega), hk]
  by_cases e : t = k
  · subst e
    rw [if_pos (by omega), show t * size + c - t * size = c by omega]
  · have hlt : t + 1 ≤ k := by omega
    have := Nat.mul_le_mul_right size hlt
    rw [Nat.add_mul] at this
    rw [if_neg (by omega)]
    exact h t (by omega) c hc
theorem ShowsE.full (hk : ∀ x, (enc x).length = size) (hs : 0 < size) {ys : List Value} {L : List α} (h : ShowsE enc size d ys L L.length) (hl : ys.length = L.length * size) : ys = L.flatMap enc := by
  apply List.ext_getElem?
  intro j
  rcases Nat.lt_or_ge j (L.length * size) with hj | hj
  · have hd : j / size < L.length := Nat.div_lt_of_lt_mul (by rw [Nat.mul_comm]; exact hj)
    have hm := Nat.mod_lt j hs
    have e : j = j / size * size + j % size := by rw [Nat.mul_comm]; exact (Nat.div_add_mod j size).symm
    rw [e, h _ hd _ hm, flat_get hk L _ hd _ hm]
  · rw [List.getElem?_eq_none (by omega), List.getElem?_eq_none (by rw [flat_len hk]; omega)]
/-- What a row shows, element by element. -/
theorem Sees.elems (hk : ∀ x, (enc x).length = size) (hs : 0 < size) {w : World} {B : Nat} {A : Option Addr} {L : List α} (h : Sees w B A (L.flatMap enc)) (d : α) (h0 : 0 < L.length) :
    ∃ b o, A = some ⟨b, o, none⟩ ∧ b < B ∧ ∀ i, i < L.length → ∀ c v, (enc (L.getD i d))[c]? = some v → w.cell? ⟨b, o + i * size + c, none⟩ = some v := by
  obtain ⟨b, o, e, hb, hi⟩ := h (by rw [flat_len hk]; exact Nat.mul_pos h0 hs)
  refine ⟨b, o, e, hb, fun i hil c v hv => ?_⟩
  have hc : c < size := by
    rcases Nat.lt_or_ge c size with h | h
    · exact h
    · rw [List.getElem?_eq_none (by rw [hk]; exact h)] at hv; cases hv
  have hlt : i * size + c < L.length * size := by
    have := Nat.mul_le_mul_right size (show i + 1 ≤ L.length from hil)
    rw [Nat.add_mul] at this; omega
  rw [Nat.add_assoc, hi _ (by rw [flat_len hk]; exact hlt), flat_get hk L i hil c hc]
  exact hv
end
end Go.Proofs.Ytabapkbfolncoaa
