/-
  Laws of sums in a circle: plain arithmetic, no program in sight.
-/
import Derived.Test.YtbanibjafmimfaaPlainAdw
namespace Go.Proofs.Ytbanibjafmimfaa

/-- The closed form of a sum in a circle. -/
def nrm (s : Int) : Int := if s = 0 then 0 else (s - 1) % 65535 + 1
theorem addW_nrm {s x : Int} (hs : 0 ≤ s) (hx : 0 ≤ x) (hx' : x ≤ 65535) : addW (nrm s) x = nrm (s + x) := by
  unfold addW nrm
  repeat' split
  all_goals omega
theorem fold_nrm (xs : List Int) : ∀ s : Int, 0 ≤ s → (∀ z ∈ xs, 0 ≤ z ∧ z ≤ 65535) → xs.foldl addW (nrm s) = nrm (s + xs.sum) := by
  induction xs with
  | nil => intro s _ _; simp
  | cons x r ih =>
    intro s hs hx
    have h1 := hx x (by simp)
    simp only [List.foldl_cons, List.sum_cons]
    rw [addW_nrm hs h1.1 h1.2, ih (s + x) (by omega) (fun z hz => hx z (by simp [hz])), Int.add_assoc]
theorem sumL_nrm {xs : List Int} (h : areW xs = true) : sumL xs = nrm xs.sum := by
  have := fold_nrm xs 0 (by omega) (areW_mem h)
  rw [Int.zero_add] at this
  exact this
theorem sum_nonneg {xs : List Int} (h : ∀ z ∈ xs, 0 ≤ z ∧ z ≤ 65535) : 0 ≤ xs.sum := by
  induction xs with
  | nil => simp
  | cons x r ih =>
    have h1 := h x (by simp)
    have := ih fun z hz => h z (by simp [hz])
    simp only [List.sum_cons]; omega
theorem nrm_range {s : Int} (_ : 0 ≤ s) : 0 ≤ nrm s ∧ nrm s ≤ 65535 := by unfold nrm; split <;> omega
theorem nrm_add {s t : Int} (hs : 0 ≤ s) (ht : 0 ≤ t) : addW (nrm s) (nrm t) = nrm (s + t) := by
  unfold addW nrm
  repeat' split
  all_goals omega
theorem areW_append {xs ys : List Int} (hx : areW xs = true) (hy : areW ys = true) : areW (xs ++ ys) = true := areW_of fun z hz => by
  rcases List.mem_append.1 hz with h | h
  · exact areW_mem hx z h
  · exact areW_mem hy z h
theorem areW_reverse {xs : List Int} (hx : areW xs = true) : areW xs.reverse = true := areW_of fun z hz => areW_mem hx z (List.mem_reverse.1 hz)
theorem areW_one {x : Int} (h : 0 ≤ x ∧ x ≤ 65535) : areW [x] = true := areW_of fun z hz => by simp at hz; subst hz; exact h
theorem sumL_append {xs ys : List Int} (hx : areW xs = true) (hy : areW ys = true) : sumL (xs ++ ys) = addW (sumL xs) (sumL ys) := by
  rw [sumL_nrm (areW_append hx hy), sumL_nrm hx, sumL_nrm hy, nrm_add (sum_nonneg (areW_mem hx)) (sum_nonneg (areW_mem hy)), List.sum_append]
theorem sum_reverse (xs : List Int) : xs.reverse.sum = xs.sum := by
  induction xs with
  | nil => rfl
  | cons x r ih => simp only [List.reverse_cons, List.sum_append, List.sum_cons, List.sum_nil, ih]; omega
theorem sumL_reverse {xs : List Int} (hx : areW xs = true) : sumL xs.reverse = sumL xs := by
  rw [sumL_nrm (areW_reverse hx), sumL_nrm hx, sum_reverse]
theorem sumL_one {x : Int} (h : 0 ≤ x ∧ x ≤ 65535) : sumL [x] = x := by
  show addW 0 x = x
  rw [addW_lo (by omega)]; omega
/-- All are 0. -/
def allZ (xs : List Int) : Bool := xs.all (· == 0)
theorem sum_zero {xs : List Int} (h : ∀ z ∈ xs, 0 ≤ z ∧ z ≤ 65535) : xs.sum = 0 ↔ allZ xs = true := by
  induction xs with
  | nil => simp [allZ]
  | cons x r ih =>
    have h1 := h x (by simp)
    have h2 := ih fun z hz => h z (by simp [hz])
    have h3 := sum_nonneg (xs := r) fun z hz => h z (by simp [hz])
    simp only [List.sum_cons, allZ, List.all_cons, Bool.and_eq_true, beq_iff_eq] at h2 ⊢
    rw [← h2]
    omega
theorem sumL_zero {xs : List Int} (hx : areW xs = true) : (sumL xs == 0) = allZ xs := by
  have h := sum_zero (areW_mem hx)
  have h0 := sum_nonneg (areW_mem hx)
  rw [sumL_nrm hx, Bool.eq_iff_iff, ← h, beq_iff_eq]
  unfold nrm
  split <;> omega
theorem sof_reverse (xs : List Int) : sof xs.reverse = sof xs := by
  have hv : vw xs.reverse = vw xs := by
    unfold vw
    have : areW xs.reverse = areW xs := by
      rw [Bool.eq_iff_iff]
      exact ⟨fun h => by have := areW_reverse h; simpa using this, areW_reverse⟩
    rw [this, List.length_reverse]
  cases h : vw xs
  · rw [sof_no h, sof_no (by rw [hv]; exact h)]
  · rw [sof_yes h, sof_yes (by rw [hv]; exact h), sumL_reverse (vw_areW h)]
theorem vw_take {xs : List Int} (h : vw xs = true) (k : Nat) : vw (xs.take k) = true := vw_yes (by have := vw_len h; simp; omega) (areW_take (vw_areW h) k)
theorem vw_drop {xs : List Int} (h : vw xs = true) (k : Nat) : vw (xs.drop k) = true := vw_yes (by have := vw_len h; simp; omega) (areW_drop (vw_areW h) k)
theorem sof_in {xs : List Int} (h : vw xs = true) : inR (sof xs) 0 65535 = true := inR_yes (sof_range h)
/-- SumOf goes number by number. -/
theorem sof_last {xs : List Int} {k : Nat} (h : vw xs = true) (hk : xs.length = k + 1) : adw (sof (xs.take k)) (xs.getD k 0) = sof xs := by
  have hw := vw_areW h
  have hx := areW_get hw k
  rw [adw_yes (sof_in (vw_take h k)) (inR_yes hx), sof_yes (vw_take h k), sof_yes h, ← sumL_take_snoc xs k (by omega), List.take_of_length_le (by omega)]
/-- Sums of parts add up. -/
theorem sof_parts {xs : List Int} (h : vw xs = true) (k : Nat) : adw (sof (xs.take k)) (sof (xs.drop k)) = sof xs := by
  have hw := vw_areW h
  rw [adw_yes (sof_in (vw_take h k)) (sof_in (vw_drop h k)), sof_yes (vw_take h k), sof_yes (vw_drop h k), sof_yes h, ← sumL_append (areW_take hw k) (areW_drop hw k), List.take_append_drop]
theorem sof_nil : sof [] = 0 := rfl

end Go.Proofs.Ytbanibjafmimfaa
