/-
  A region that draws its order: first operations that read and calls that only make memory, in any order; then a tail in one forced order (a store, say) that waits for all of them. The first part is walked once, over a class of worlds; the tail in each world of the class.
-/
import Derived.Test.YtmaecadflilbgaaCls
import Derived.StillTailTactics
namespace Go.Proofs.Ytmaecadflilbgaa
open Go.RowKit

section
variable {P : Program} {C : World → Prop}

/-- What is asked of the first n operations: each waits for earlier ones alone, and its guard is an earlier one; and each later operation waits for each of the first n. -/
def headB (l : List Oper) (n : Nat) : Bool :=
  ((List.range n).all fun i => match l[i]? with
    | some o => (o.after.all fun e => decide (e.on < i)) && (match o.guard with | some (j, _) => decide (j < n) | none => true)
    | none => false) &&
  ((List.range l.length).all fun t => decide (t < n) || ((List.range n).all fun i => match l[t]? with
    | some o => o.after.any fun e => Region.binds .any e && e.on == i
    | none => false))

theorem headB_one {l : List Oper} {n i : Nat} (h : headB l n = true) (hi : i < n) : ∃ o, l[i]? = some o ∧ (∀ e ∈ o.after, e.on < i) ∧ (∀ j b, o.guard = some (j, b) → j < n) := by
  simp only [headB, Bool.and_eq_true] at h
  have h1 := List.all_eq_true.1 h.1 i (List.mem_range.2 hi)
  split at h1
  · rename_i o ho
    simp only [Bool.and_eq_true] at h1
    refine ⟨o, ho, fun e he => by simpa using Array.all_eq_true_iff_forall_mem.1 h1.1 e he, fun j b hg => ?_⟩
    have h2 := h1.2
    rw [hg] at h2
    simpa using h2
  · cases h1
theorem headB_tail {l : List Oper} {n i t : Nat} (h : headB l n = true) (hi : i < n) (ht : n ≤ t) (htl : t < l.length) : ∃ o, l[t]? = some o ∧ ∃ e ∈ o.after, Region.binds .any e = true ∧ e.on = i := by
  simp only [headB, Bool.and_eq_true] at h
  have h1 := List.all_eq_true.1 h.2 t (List.mem_range.2 htl)
  simp only [Bool.or_eq_true, decide_eq_true_eq] at h1
  rcases h1 with h1 | h1
  · omega
  · have h2 := List.all_eq_true.1 h1 i (List.mem_range.2 hi)
    split at h2
    · rename_i o ho
      obtain ⟨e, he, hb⟩ := Array.any_eq_true'.1 h2
      simp only [Bool.and_eq_true, beq_iff_eq] at hb
      exact ⟨o, ho, e, he, hb.1, hb.2⟩
    · cases h2

/-- What has come up: of the first ones those that s tells, of the tail none. -/
def come (s : List Bool) (m : Nat) : Array Bool := (s ++ List.replicate m false).toArray
theorem come_head {s : List Bool} {m j : Nat} (d : Bool) (hj : j < s.length) : (come s m).getD j d = s[j] := by
  have h1 : j < (s ++ List.replicate m false).length := by rw [List.length_append]; omega
  simp [come]
  rw [List.getElem?_eq_getElem h1, Option.getD_some, List.getElem_append_left hj]
theorem come_set {s : List Bool} {m i : Nat} (hi : i < s.length) : (come s m).setIfInBounds i true = come (s.set i true) m := by
  simp [come, List.setIfInBounds_toArray, List.set_append_left _ _ hi]
theorem come_in {s : List Bool} {j : Nat} (d : Bool) (hj : j < s.length) : s.toArray.getD j d = s[j] := by
  simp [List.getElem?_eq_getElem hj]
theorem wanted_head {l : List Oper} {n : Nat} {o : Oper} (hg : ∀ j b, o.guard = some (j, b) → j < n) (tmps : Array Value) :
    Region.wanted o (yielded l.toArray tmps) = Region.wanted o (yielded (l.take n).toArray tmps) := by
  unfold Region.wanted
  cases ho : o.guard with
  | none => rfl
  | some q =>
    obtain ⟨j, b⟩ := q
    have := hg j b ho
    simp [yielded, this]
theorem qOp_head {l : List Oper} {n i : Nat} {K : Act → Prop} {a : Act} (hH : headB l n = true) (hi : i < n) (h : qOp P (l.take n).toArray C i K a) : qOp P l.toArray C i K a := by
  obtain ⟨o, ho, _, hg⟩ := headB_one hH hi
  unfold qOp at *
  simp only [List.getElem?_toArray, List.getElem?_take, hi, if_true, ho] at *
  rw [wanted_head (n := n) hg]
  exact h
/-- As long as one of the first is not there, one of the first may come up. -/
theorem ready_some {l : List Oper} {n m : Nat} {s : List Bool} (hH : headB l n = true) (hs : s.length = n) : ∀ (d j : Nat) (hj : j < s.length), j ≤ d → s[j] = false → ∃ i, i < n ∧ i ∈ Region.ready .any l.toArray (come s m)
  | d, j, hj, hd, hf => by
    obtain ⟨o, ho, ha, _⟩ := headB_one hH (show j < n by omega)
    by_cases hr : j ∈ Region.ready .any l.toArray (come s m)
    · exact ⟨j, by omega, hr⟩
    · have hex : ∃ e ∈ o.after, Region.binds .any e = true ∧ (come s m).getD e.on false = false := by
        refine Classical.byContradiction fun hc => hr (mem_ready.2 ⟨by rw [come_head true hj]; exact hf, o, by simpa using ho, fun e he hb => ?_⟩)
        cases hq : (come s m).getD e.on false with
        | true => rfl
        | false => exact absurd ⟨e, he, hb, hq⟩ hc
      obtain ⟨e, he, _, hq⟩ := hex
      have hlt := ha e he
      have hlt' : e.on < s.length := by omega
      rw [come_head false hlt'] at hq
      match d, hd with
      | 0, hd => omega
      | d + 1, hd => exact ready_some hH hs d e.on hlt' (by omega) hq

theorem head_any {Q : Exit → Act → World → Prop} {Lq : Act → Prop} {l : List Oper} {n g : Nat} (hn : n ≤ l.length) (hH : headB l n = true)
    (hT : ∀ a w, C w → Lq a → wpAny P .any l.toArray Q g (come (List.replicate n true) g) a w) :
    ∀ (f : Nat) (s : List Bool) (a : Act) (w : World), s.length = n → s.count false = f → C w → wpAnyQ P .any (l.take n).toArray C Lq f s.toArray a → wpAny P .any l.toArray Q (f + g) (come s g) a w
  | 0, s, a, w, hs, hc, hw, h => by
    have he : s = List.replicate n true := by
      refine List.eq_replicate_iff.2 ⟨hs, fun b hb => ?_⟩
      cases b with
      | true => rfl
      | false => exact absurd hb (List.count_eq_zero.1 hc)
    rw [Nat.zero_add, he]
    exact hT a w hw h.2
  | f + 1, s, a, w, hs, hc, hw, h => by
    have hmem : false ∈ s := List.count_pos_iff.1 (by omega)
    obtain ⟨j, hj, hjf⟩ := List.getElem_of_mem hmem
    obtain ⟨i0, _, hi0⟩ := ready_some (m := g) hH hs j j hj (Nat.le_refl _) hjf
    rw [show f + 1 + g = (f + g) + 1 by omega]
    refine ⟨fun h0 => (by rw [h0] at hi0; cases hi0), fun i hi => ?_⟩
    obtain ⟨hun, o, ho, hall⟩ := mem_ready.1 hi
    have hil : i < l.length := by
      have := (Array.getElem?_eq_some_iff.1 ho).1
      simpa using this
    have hin : i < n := by
      rcases Nat.lt_or_ge i n with h' | h'
      · exact h'
      · obtain ⟨o', ho', e, he, hb, hon⟩ := headB_tail hH (show j < n by omega) h' hil
        have e1 : o' = o := by
          have : l[i]? = some o := by simpa using ho
          exact Option.some.inj (ho'.symm.trans this)
        subst e1
        have := hall e he hb
        rw [hon, come_head false hj, hjf] at this
        cases this
    have his : i < s.length := by omega
    have hready : i ∈ Region.ready .any (l.take n).toArray s.toArray := by
      refine mem_ready.2 ⟨?_, o, ?_, fun e he hb => ?_⟩
      · rw [come_in true his, ← come_head (m := g) true his]; exact hun
      · have : l[i]? = some o := by simpa using ho
        simp [hin, this]
      · obtain ⟨o', ho', ha, _⟩ := headB_one hH hin
        have e1 : o' = o := by
          have : l[i]? = some o := by simpa using ho
          exact Option.some.inj (ho'.symm.trans this)
        subst e1
        have hlt : e.on < s.length := by have := ha e he; omega
        rw [come_in false hlt, ← come_head (m := g) false hlt]
        exact hall e he hb
    have hq := qOp_head hH hin (h.2 i hready)
    refine wpOp_of_qOp hw (fun a' w' hw' hk => ?_) hq
    rw [come_set his]
    have hsf : s[i] = false := by rw [← come_head (m := g) true his]; exact hun
    refine head_any hn hH hT f (s.set i true) a' w' (by simpa using hs) ?_ hw' (by simpa using hk)
    rw [List.count_set his]
    simp [hsf]
    omega

/-- A region whose first n operations read, or only make memory, and whose tail comes in one order behind all of them. -/
theorem wp_region_cls_tail {S : Type} (f : S → World) {id : Nat} {Q : Exit → Act → World → Prop} {a : Act} {w : World} {l : List Oper} (n : Nat) (hm : P.follows .mixedOrders = true) (hn : n ≤ l.length) (hH : headB l n = true)
    (hB : Region.lexB .any (l.take n).toArray = true) (hS : Region.seqB .any l.toArray (l.length - n) n (come (List.replicate n true) (l.length - n)) = true) (hC : ∃ x, w.drew = f x)
    (h : wpQuiet P (l.take n).toArray (fun w' => ∃ x, w' = f x) (fun a' => ∀ w', (∃ x, w' = f x) → wpList P l.toArray Q (l.drop n) a' w') (l.take n) a) : (Code.region id l.toArray true).wp P Q a w := by
  refine wp_region_any hm ?_
  simp only [Region.lexB, Bool.and_eq_true] at hB
  have htl : (l.take n).length = n := by simp; omega
  have hdl : (l.drop n).length = l.length - n := by simp
  have H := wpAnyQ_lex (md := .any) hB.1 (l.take n) 0 (List.replicate n false).toArray a (fun j => by simp) (by
    have := hB.2
    simpa [htl] using this) h
  rw [htl] at H
  have := head_any (Q := Q) (g := l.length - n) hn hH (fun a' w' hw' hL => by
    have := wpAny_of_seq (md := .any) (Q' := Q) (l.drop n) n (come (List.replicate n true) (l.length - n)) a' w' (fun j => by simp [List.getElem?_drop]) (by rw [hdl]; exact hS) (hL w' hw')
    rwa [hdl] at this) n (List.replicate n false) a w.drew (by simp) (by simp) hC H
  rw [show n + (l.length - n) = l.toArray.size by simp; omega] at this
  have e : come (List.replicate n false) (l.length - n) = Array.replicate l.toArray.size false := by
    simp only [come, List.replicate_append_replicate]
    rw [show n + (l.length - n) = l.length by omega]
    simp
  rw [e] at this
  exact this
end
end Go.Proofs.Ytmaecadflilbgaa
