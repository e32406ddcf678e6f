/-
  Parts joined, plainly: the parts in the order of their places, one behind the other, just the last one without More.
-/
import Derived.Test.YtabapkbfolncoaaPart6
import Derived.Test.YtabapkbfolncoaaPlainPart
namespace Go.Proofs.Ytabapkbfolncoaa
open Go.RowKit

def dataP (L : List Pt) : List Int := L.flatMap fun p => p.2.2
/-- The parts in the order of their places. Not reducible. -/
def srtP (L : List Pt) : List Pt := L.mergeSort fun p q => decide (p.1 ≤ q.1)
/-- One part behind the other, from place o on; just the last one is without More. Not reducible. -/
def chainP : List Pt → Int → Bool
  | [], _ => true
  | p :: S, o => (decide (p.1 = o) && (p.2.1 == !S.isEmpty)) && chainP S (o + (p.2.2.length : Int))
/-- What JoinParts gives: the numbers, or nothing. Not reducible. -/
def joinOf (L : List Pt) : Option (List Int) := if ((validP L && !L.isEmpty) && decide (overL L = -1)) && chainP (srtP L) 0 then some (dataP (srtP L)) else none
theorem pw_of {α : Type} {R Q : α → α → Prop} {S : List α} (h : S.Pairwise R) (hq : ∀ a b, R a b → Q a b) : S.Pairwise Q := by
  rw [List.pairwise_iff_getElem] at h ⊢
  exact fun i j hi hj hij => hq _ _ (h i j hi hj hij)
section
variable {L S T : List Pt} {p q : Pt} {o : Int} {i : Nat}
theorem dataP_len (S T : List Pt) : (dataP (S ++ T)).length = (dataP S).length + (dataP T).length := by simp [dataP]
theorem dataP_cons (p : Pt) (S : List Pt) : dataP (p :: S) = p.2.2 ++ dataP S := by simp [dataP]
theorem good_len (hv : validP L = true) (hp : p ∈ L) : 1 ≤ p.2.2.length ∧ 0 ≤ p.1 ∧ p.1 + (p.2.2.length : Int) ≤ 12 := by
  simp only [validP, Bool.and_eq_true] at hv
  obtain ⟨t, m, xs⟩ := p
  have h := goodP_range (List.all_eq_true.1 hv.1 _ hp)
  exact ⟨h.2.1, h.1.1, h.2.2⟩
theorem meetP_symm : meetP p q = meetP q p := by unfold meetP; rw [Bool.and_comm]
theorem overL_pw (h : overL L = -1) : L.Pairwise fun p q => meetP p q = false := by
  rw [List.pairwise_iff_getElem]
  intro i j hi hj hij
  rcases leastB (hitP L) L.length with h1 | ⟨k, hk, hp, hno⟩
  · have h2 := h1 j hj
    rw [← Bool.not_eq_true] at h2
    rw [← Bool.not_eq_true]
    intro h3
    refine h2 (hitP_at hj hij ?_)
    rw [List.getD_eq_getElem?_getD, List.getD_eq_getElem?_getD, List.getElem?_eq_getElem hj, List.getElem?_eq_getElem hi, meetP_symm]
    exact h3
  · rw [overL_at hk hp hno] at h
    omega
theorem pw_overL (h : L.Pairwise fun p q => meetP p q = false) : overL L = -1 := by
  refine overL_none fun j hj => hitP_none fun l hl hl' => ?_
  rw [List.pairwise_iff_getElem] at h
  rw [List.getD_eq_getElem?_getD, List.getD_eq_getElem?_getD, List.getElem?_eq_getElem hj, List.getElem?_eq_getElem hl', meetP_symm]
  exact h l j hl' hj hl
theorem overL_perm (h : S.Perm L) (ho : overL L = -1) : overL S = -1 := pw_overL ((h.pairwise_iff (fun h => by rw [meetP_symm]; exact h)).2 (overL_pw ho))
/-- Parts that have no place in common, sorted by their places: each ends ahead of the next. -/
theorem ends_of (hv : validP L = true) (ho : overL L = -1) (h : S.Perm L) (hs : S.Pairwise fun p q => p.1 ≤ q.1) : S.Pairwise fun p q => p.1 + (p.2.2.length : Int) ≤ q.1 := by
  have hm := overL_pw (overL_perm h ho)
  rw [List.pairwise_iff_getElem] at hs hm ⊢
  intro i j hi hj hij
  have h1 := hs i j hi hj hij
  have h2 := hm i j hi hj hij
  have h3 := good_len hv (h.mem_iff.1 (List.getElem_mem hj))
  simp only [meetP, Bool.and_eq_false_iff, decide_eq_false_iff_not] at h2
  omega
theorem srtP_perm (L : List Pt) : (srtP L).Perm L := List.mergeSort_perm _ _
theorem srtP_pw (L : List Pt) : (srtP L).Pairwise fun p q => p.1 ≤ q.1 := by
  have h := List.pairwise_mergeSort (le := fun p q : Pt => decide (p.1 ≤ q.1)) (fun a b c h1 h2 => by simp at h1 h2 ⊢; omega) (fun a b => by simp; omega) L
  exact pw_of h fun a b h => by simpa using h
/-- There is one sorted order. -/
theorem srtP_unique (hv : validP L = true) (ho : overL L = -1) (h : S.Perm L) (hs : S.Pairwise fun p q => p.1 ≤ q.1) : S = srtP L := by
  refine List.Perm.eq_of_pairwise (le := fun p q : Pt => p.1 + (p.2.2.length : Int) ≤ q.1) (fun a b ha hb h1 h2 => ?_) (ends_of hv ho h hs) (ends_of hv ho (srtP_perm L) (srtP_pw L)) (h.trans (srtP_perm L).symm)
  have := good_len hv (h.mem_iff.1 ha)
  omega
theorem chain_low : ∀ {S : List Pt} {o : Int}, chainP S o = true → ∀ p ∈ S, o ≤ p.1
  | [], _, _, p, hp => by simp at hp
  | r :: S, o, h, p, hp => by
    simp only [chainP, Bool.and_eq_true, decide_eq_true_eq] at h
    rcases List.mem_cons.1 hp with rfl | hp
    · omega
    · have := chain_low h.2 p hp
      omega
theorem chain_pw : ∀ {S : List Pt} {o : Int}, chainP S o = true → S.Pairwise fun p q => p.1 + (p.2.2.length : Int) ≤ q.1
  | [], _, _ => .nil
  | r :: S, o, h => by
    simp only [chainP, Bool.and_eq_true, decide_eq_true_eq] at h
    refine List.pairwise_cons.2 ⟨fun q hq => ?_, chain_pw h.2⟩
    have := chain_low h.2 q hq
    omega
theorem chain_over (h : chainP S o = true) : overL S = -1 := by
  refine pw_overL (pw_of (chain_pw h) fun p q h => ?_)
  simp only [meetP, Bool.and_eq_false_iff, decide_eq_false_iff_not]
  omega
/-- Parts that stand one behind the other in some order are joined. -/
theorem joinOf_mk (hv : validP L = true) (h : S.Perm L) (h0 : S ≠ []) (hc : chainP S 0 = true) : joinOf L = some (dataP S) ∧ overOf L = -1 := by
  have ho : overL L = -1 := overL_perm h.symm (chain_over hc)
  have hs : S = srtP L := srtP_unique hv ho h (pw_of (chain_pw hc) fun p q h => by omega)
  have h1 : L.isEmpty = false := by
    cases L with
    | nil => exact absurd (List.perm_nil.1 h) h0
    | cons _ _ => rfl
  refine ⟨?_, by unfold overOf; rw [hv, if_pos rfl, ho]⟩
  unfold joinOf
  rw [← hs, hv, h1, ho, hc]; rfl
theorem joinOf_some {xs : List Int} (h : joinOf L = some xs) : validP L = true ∧ L ≠ [] ∧ overL L = -1 ∧ (srtP L).Perm L ∧ chainP (srtP L) 0 = true ∧ xs = dataP (srtP L) := by
  unfold joinOf at h
  split at h
  · rename_i hc
    simp only [Bool.and_eq_true, decide_eq_true_eq, Bool.not_eq_true'] at hc
    injection h with h
    exact ⟨hc.1.1.1, fun e => by rw [e] at hc; simp at hc, hc.1.2, srtP_perm L, hc.2, h.symm⟩
  · cases h
theorem joinOf_bad (hv : validP L = false) : joinOf L = none := by unfold joinOf; rw [hv]; rfl
theorem joinOf_nil : joinOf [] = none := by unfold joinOf; simp
theorem joinOf_over (h : overL L ≠ -1) : joinOf L = none := by unfold joinOf; simp [h]
theorem joinOf_broken (h : chainP (srtP L) 0 = false) : joinOf L = none := by unfold joinOf; simp [h]
theorem joinOf_yes (hv : validP L = true) (h0 : 0 < L.length) (ho : overL L = -1) (h : chainP (srtP L) 0 = true) : joinOf L = some (dataP (srtP L)) := by
  have h1 : L.isEmpty = false := by cases L with | nil => simp at h0 | cons _ _ => rfl
  unfold joinOf; rw [hv, h1, ho, h]; rfl

/-- How the walks go along the sorted parts: the first i are joined, up to o. -/
def Along (S : List Pt) (i : Nat) (o : Nat) : Prop :=
  (∀ p ∈ S.take i, p.1 < (o : Int)) ∧ (∀ p ∈ S.drop i, (o : Int) ≤ p.1) ∧ o = (dataP (S.take i)).length ∧ chainP S 0 = chainP (S.drop i) (o : Int)
theorem along_start (hv : validP L = true) (h : S.Perm L) : Along S 0 0 :=
  ⟨fun p hp => by simp at hp, fun p hp => (good_len hv (h.mem_iff.1 (by simpa using hp))).2.1, rfl, rfl⟩
theorem drop_cons (hi : i < S.length) : S.drop i = S.getD i dP :: S.drop (i + 1) := by
  rw [List.getD_eq_getElem?_getD, List.getElem?_eq_getElem hi, Option.getD_some]
  exact List.drop_eq_getElem_cons hi
theorem take_snocP (hi : i < S.length) : S.take (i + 1) = S.take i ++ [S.getD i dP] := by
  rw [List.getD_eq_getElem?_getD, List.getElem?_eq_getElem hi, Option.getD_some]
  exact List.take_succ_eq_append_getElem hi
/-- The next part: what the chain says of it. -/
theorem along_next {a : Nat} (h : Along S i a) (hi : i < S.length) : chainP S 0 = ((decide ((S.getD i dP).1 = (a : Int)) && ((S.getD i dP).2.1 == decide (i + 1 < S.length))) && chainP (S.drop (i + 1)) ((a : Int) + ((S.getD i dP).2.2.length : Int))) := by
  rw [h.2.2.2, drop_cons hi]
  have e : (!(S.drop (i + 1)).isEmpty) = decide (i + 1 < S.length) := by
    by_cases h1 : i + 1 < S.length
    · rw [drop_cons h1]; simp [h1]
    · rw [List.drop_eq_nil_of_le (by omega)]; simp [h1]
  simp only [chainP, e]
theorem along_step {a : Nat} (h : Along S i a) (hv : validP L = true) (hS : S.Perm L) (hw : S.Pairwise fun p q => p.1 + (p.2.2.length : Int) ≤ q.1) (hi : i < S.length) (h1 : (S.getD i dP).1 = (a : Int)) (h2 : (S.getD i dP).2.1 = decide (i + 1 < S.length)) :
    Along S (i + 1) (a + (S.getD i dP).2.2.length) := by
  have hm : S.getD i dP ∈ S := getP_mem hi
  have hg := good_len hv (hS.mem_iff.1 hm)
  refine ⟨fun p hp => ?_, fun p hp => ?_, ?_, ?_⟩
  · rw [take_snocP hi] at hp
    rcases List.mem_append.1 hp with hp | hp
    · have := h.1 p hp; omega
    · simp only [List.mem_singleton] at hp; subst hp; omega
  · have hd := hw.drop (i := i)
    rw [drop_cons hi] at hd
    have := (List.pairwise_cons.1 hd).1 p hp
    omega
  · rw [take_snocP hi, dataP_len, ← h.2.2.1]; simp [dataP]
  · rw [along_next h hi, h1, h2]; simp
theorem along_one {a : Nat} (h : Along S i a) (hv : validP L = true) (hS : S.Perm L) (hw : S.Pairwise fun p q => p.1 + (p.2.2.length : Int) ≤ q.1) (hi : i < S.length) (hp : p ∈ L) (he : p.1 = (a : Int)) : p = S.getD i dP := by
  have hp' := hS.mem_iff.2 hp
  rw [← List.take_append_drop i S] at hp'
  rcases List.mem_append.1 hp' with hp' | hp'
  · have := h.1 p hp'; omega
  · have hd := hw.drop (i := i)
    have h3 := h.2.1
    rw [drop_cons hi] at hp' hd h3
    rcases List.mem_cons.1 hp' with e | hp'
    · exact e
    · have h4 := (List.pairwise_cons.1 hd).1 p hp'
      have h5 := h3 _ List.mem_cons_self
      have h6 := good_len hv (hS.mem_iff.1 (getP_mem hi))
      omega
theorem along_end {a : Nat} (h : Along S i a) (hi : S.length ≤ i) : chainP S 0 = true ∧ a = (dataP S).length ∧ S.take i = S := by
  have e := List.take_of_length_le hi
  have h3 := h.2.2.1
  have h4 := h.2.2.2
  rw [e] at h3
  rw [List.drop_eq_nil_of_le hi] at h4
  exact ⟨h4, h3, e⟩
end
end Go.Proofs.Ytabapkbfolncoaa
