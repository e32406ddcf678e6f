/-
  Laws of checks: plain arithmetic, no program in sight.
-/
import Derived.Test.YtbanibjafmimfaaPlainSum
namespace Go.Proofs.Ytbanibjafmimfaa

theorem vw_snoc {xs : List Int} {x : Int} (h : vw xs = true) (hl : xs.length < 20) (hx : 0 ≤ x ∧ x ≤ 65535) : vw (xs ++ [x]) = true :=
  vw_yes (by simp; omega) (areW_append (vw_areW h) (areW_one hx))
theorem sumL_snoc {xs : List Int} {x : Int} (h : vw xs = true) (hx : 0 ≤ x ∧ x ≤ 65535) : sumL (xs ++ [x]) = addW (sumL xs) x := by
  rw [sumL_append (vw_areW h) (areW_one hx), sumL_one hx]
theorem cof_range {xs : List Int} (h : vw xs = true) : 0 ≤ cof xs ∧ cof xs ≤ 65535 := by
  have := sumL_word (vw_areW h); rw [cof_yes h]; omega
theorem isr_vw {xs : List Int} (h : vw xs = true) : isr xs = (sumL xs == 65535) := by rw [isr, sof_yes h]
theorem isr_check {xs : List Int} (h : vw xs = true) (hl : xs.length < 20) : isr (xs ++ [cof xs]) = true := by
  have hc := cof_range h
  have hs := sumL_word (vw_areW h)
  rw [isr_vw (vw_snoc h hl hc), sumL_snoc h hc, cof_yes h, addW_lo (by omega)]
  simp; omega
theorem sof_cof {xs : List Int} (h : vw xs = true) : sof xs + cof xs = 65535 := by rw [sof_yes h, cof_yes h]; omega
theorem isr_other {xs : List Int} {y : Int} (h : vw xs = true) (hl : xs.length < 20) (hy : 0 ≤ y ∧ y ≤ 65535) (h1 : y ≠ cof xs) (h2 : ¬ (y = 0 ∧ cof xs = 65535)) (h3 : ¬ (cof xs = 0 ∧ y = 65535)) : isr (xs ++ [y]) = false := by
  have hs := sumL_word (vw_areW h)
  rw [cof_yes h] at h1 h2 h3
  rw [isr_vw (vw_snoc h hl hy), sumL_snoc h hy, beq_eq_false_iff_ne]
  unfold addW
  split <;> omega
theorem isr_reverse (xs : List Int) : isr xs.reverse = isr xs := by rw [isr, isr, sof_reverse]
theorem isr_zero {xs : List Int} (h : vw xs = true) (hl : xs.length < 20) : isr (xs ++ [0]) = isr xs := by
  have hs := sumL_word (vw_areW h)
  rw [isr_vw (vw_snoc h hl (by omega)), isr_vw h, sumL_snoc h (by omega), addW_lo (by omega), Int.add_zero]
theorem cof_nil : cof [] = 65535 := rfl
theorem cof_one {xs : List Int} (h : vw xs = true) (hp : 0 < xs.length) : cof (xs.take 1) = 65535 - xs.getD 0 0 := by
  have hx := areW_get (vw_areW h) 0
  rw [cof_yes (vw_take h 1)]
  have : xs.take 1 = [xs.getD 0 0] := by
    cases xs with
    | nil => simp at hp
    | cons x r => simp
  rw [this, sumL_one hx]

theorem sum_set {xs : List Int} {k : Nat} (hk : k < xs.length) (y : Int) : (xs.set k y).sum = xs.sum - xs.getD k 0 + y := by
  induction xs generalizing k with
  | nil => simp at hk
  | cons x r ih =>
    cases k with
    | zero => simp; omega
    | succ j =>
      have := ih (k := j) (by simpa using hk)
      simp only [List.set_cons_succ, List.sum_cons, List.getD_cons_succ, this]; omega
theorem areW_set {xs : List Int} {k : Nat} {y : Int} (h : areW xs = true) (hy : 0 ≤ y ∧ y ≤ 65535) : areW (xs.set k y) = true := areW_of fun z hz => by
  rcases List.mem_or_eq_of_mem_set hz with hz | rfl
  · exact areW_mem h z hz
  · exact hy
theorem vw_set {xs : List Int} {k : Nat} {y : Int} (h : vw xs = true) (hy : 0 ≤ y ∧ y ≤ 65535) : vw (xs.set k y) = true := vw_yes (by simpa using vw_len h) (areW_set (vw_areW h) hy)
theorem sum_ge {xs : List Int} {k : Nat} (h : ∀ z ∈ xs, 0 ≤ z ∧ z ≤ 65535) (hk : k < xs.length) : xs.getD k 0 ≤ xs.sum := by
  induction xs generalizing k with
  | nil => simp at hk
  | cons x r ih =>
    have h1 := h x (by simp)
    have h2 := sum_nonneg (xs := r) fun z hz => h z (by simp [hz])
    cases k with
    | zero => simp; omega
    | succ j =>
      have := ih (k := j) (fun z hz => h z (by simp [hz])) (by simpa using hk)
      simp only [List.getD_cons_succ, List.sum_cons]; omega
/-- Right numbers of which one is 1 greater are not right. -/
theorem isr_set {xs : List Int} {k : Nat} (h : isr xs = true) (hk : k < xs.length) : isr (xs.set k (xs.getD k 0 + 1)) = false := by
  have hv : vw xs = true := by
    cases hv : vw xs
    · rw [isr, sof_no hv] at h; cases h
    · rfl
  have hw := vw_areW hv
  have hx := areW_get hw k
  by_cases hy : xs.getD k 0 + 1 ≤ 65535
  · have hy' : 0 ≤ xs.getD k 0 + 1 ∧ xs.getD k 0 + 1 ≤ 65535 := by omega
    rw [isr_vw hv, sumL_nrm hw, beq_iff_eq] at h
    rw [isr_vw (vw_set hv hy'), sumL_nrm (areW_set hw hy'), sum_set hk, beq_eq_false_iff_ne]
    have := sum_nonneg (areW_mem hw)
    unfold nrm at *
    split at h <;> split <;> omega
  · have hb : vw (xs.set k (xs.getD k 0 + 1)) = false := by
      refine vw_bad (areW_no k ?_)
      rw [List.getD_eq_getElem?_getD, List.getElem?_set_self hk]
      exact inR_no (show ¬ (0 ≤ xs.getD k 0 + 1 ∧ xs.getD k 0 + 1 ≤ 65535) by omega)
    rw [isr, sof_no hb]; rfl
/-- A check turned is the check of the turned numbers, if not all are 0 then. -/
theorem upd_sum {xs : List Int} {k : Nat} {y : Int} (h : vw xs = true) (hk : k < xs.length) (hy : 0 ≤ y ∧ y ≤ 65535) (h0 : sof (xs.set k y) ≠ 0) : upd (cof xs) (xs.getD k 0) y = cof (xs.set k y) := by
  have hw := vw_areW h
  have hx := areW_get hw k
  have hc := cof_range h
  have hs0 := sum_nonneg (areW_mem hw)
  have hge := sum_ge (areW_mem hw) hk
  rw [sof_yes (vw_set h hy), sumL_nrm (areW_set hw hy), sum_set hk] at h0
  rw [upd_yes (inR_yes hc) (inR_yes hx) (inR_yes hy), cof_yes h, cof_yes (vw_set h hy), sumL_nrm hw, sumL_nrm (areW_set hw hy), sum_set hk]
  unfold addW nrm at *
  repeat' split
  all_goals (try omega)
  all_goals (split at h0 <;> omega)

end Go.Proofs.Ytbanibjafmimfaa
