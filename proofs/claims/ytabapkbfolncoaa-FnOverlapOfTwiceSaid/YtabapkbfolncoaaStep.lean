/-
  append to a slice of our own, as one step of a region that draws its order.
-/
import Derived.Test.YtabapkbfolncoaaOwn
import Derived.Test.YtabapkbfolncoaaBox
import Derived.Deep.RegionLaw
namespace Go.Proofs.Ytabapkbfolncoaa
open Go.RowKit

theorem Mine.empty {w : World} {base size g o : Nat} (h : base ≤ g) (hg : g < w.heap.size) : Mine w base size (some ⟨g, o, none⟩) 0 0 [] :=
  ⟨by simp, Nat.le_refl _, by simp [maxLen], .inr ⟨g, o, rfl, h, hg, by simp, by simp⟩⟩

theorem step_append_mine {P : Program} {ops : Array Oper} {o : Oper} {a : Act} {w : World} {K : Act → World → Prop} {Q : Exit → Act → World → Prop} {E : Prop}
    (hgd : o.guard = none) (s x : Operand) (t : TypeId)
    (ho : o.op = .call { callee := .builtin .append, args := #[s, x], argTypes := #[t, t] })
    (base : Nat) (e : TypeId) (i : TypeInfo) (z : Value) (size bytes : Nat) (ht : P.underlying t = some (.slice e)) (hi : P.info? e = some i) (hz : i.zero = some z)
    (hsize : i.size = size) (hby : i.bytes = bytes) (hzs : z.cells.size = size) (hsz : 0 < size)
    (A : Option Addr) (n cap : Nat) (xs : List Value) (hs : a.eval s = .slice A n cap) (hown : Mine w base size A n cap xs)
    (B : Nat) (X : Option Addr) (m c : Nat) (news : List Value) (hxv : a.eval x = .slice X m c) (hl : news.length = m * size) (hx : Sees w B X news) (h1 : ∀ u ∈ news, u.oneCell' = true)
    (h63 : n + m ≤ maxLen) (hbytes : (n + m) * bytes ≤ 140737488355328) (hbase : base ≤ w.heap.size)
    (h : ∀ A' cap' w', Mine w' base size A' (n + m) cap' (xs ++ news) → w.grownBy w' (A.map (·.block)) → (A'.map (·.block) = A.map (·.block) ∨ ∃ g', A'.map (·.block) = some g' ∧ w.heap.size ≤ g') → K (a.put o.dst (.slice A' (n + m) cap')) w') :
    if Region.wanted o (yielded ops a.tmps) = true then Oper.wp P o a w K Q else E := by
  have hw : Region.wanted o (yielded ops a.tmps) = true := by simp [Region.wanted, hgd]
  rw [if_pos hw]
  obtain ⟨A', cap', w', hr, h2, h3, h4⟩ := run_append_mine (P := P) w base t o.type e i z size bytes ht hi hz hsize hby hzs hsz A n cap xs hown B X m c news hl hx h1 h63 hbytes hbase
  unfold Oper.wp execOp
  simp only [ho, resolve, invoke, builtin, Sem.run_bind, Sem.run_pure, Result.andThen_ok, List.map_toArray, List.map_cons, List.map_nil, hs, hxv, hr]
  exact h A' cap' w' h2 h3 h4
theorem Sees.take {w : World} {B : Nat} {A : Option Addr} {xs : List Value} (h : Sees w B A xs) (k : Nat) : Sees w B A (xs.take k) := fun h0 => by
  rw [List.length_take] at h0
  obtain ⟨b, o, e, hb, hi⟩ := h (by omega)
  refine ⟨b, o, e, hb, fun j hj => ?_⟩
  rw [List.length_take] at hj
  rw [hi j (by omega), List.getElem?_take, if_pos (by omega)]
theorem Sees.drop {w : World} {B b o : Nat} {xs : List Value} (h : Sees w B (some ⟨b, o, none⟩) xs) (k : Nat) : Sees w B (some ⟨b, o + k, none⟩) (xs.drop k) := fun h0 => by
  rw [List.length_drop] at h0
  obtain ⟨b', o', e, hb, hi⟩ := h (by omega)
  injection e with e; injection e with e1 e2; subst e1; subst e2
  refine ⟨b, o + k, rfl, hb, fun j hj => ?_⟩
  rw [List.length_drop] at hj
  rw [Nat.add_assoc, hi (k + j) (by omega), List.getElem?_drop]
theorem flat_take {α : Type} {enc : α → List Value} {size : Nat} (hk : ∀ x, (enc x).length = size) (U : List α) {k : Nat} (h : k ≤ U.length) : (U.flatMap enc).take (k * size) = (U.take k).flatMap enc := by
  have h1 : U.flatMap enc = (U.take k).flatMap enc ++ (U.drop k).flatMap enc := by rw [← List.flatMap_append, List.take_append_drop]
  rw [h1, List.take_left' (by rw [flat_len hk, List.length_take, Nat.min_eq_left h])]
theorem flat_drop {α : Type} {enc : α → List Value} {size : Nat} (hk : ∀ x, (enc x).length = size) (U : List α) {k : Nat} (h : k ≤ U.length) : (U.flatMap enc).drop (k * size) = (U.drop k).flatMap enc := by
  have h1 : U.flatMap enc = (U.take k).flatMap enc ++ (U.drop k).flatMap enc := by rw [← List.flatMap_append, List.take_append_drop]
  rw [h1, List.drop_left' (by rw [flat_len hk, List.length_take, Nat.min_eq_left h])]
end Go.Proofs.Ytabapkbfolncoaa
