/-
  Plain arithmetic of words, added in a circle. No program is in sight here.
-/
namespace Go.Proofs.Ytabapkbfolncoaa

/-- n lies in lo..hi. Not reducible: the walk must not take it apart. -/
def inR (n lo hi : Int) : Bool := decide (lo ≤ n ∧ n ≤ hi)
theorem inR_yes {n lo hi : Int} (h : lo ≤ n ∧ n ≤ hi) : inR n lo hi = true := decide_eq_true h
theorem inR_no {n lo hi : Int} (h : ¬ (lo ≤ n ∧ n ≤ hi)) : inR n lo hi = false := decide_eq_false h
theorem inR_iff {n lo hi : Int} : inR n lo hi = true ↔ lo ≤ n ∧ n ≤ hi := decide_eq_true_iff
theorem inR_iff_no {n lo hi : Int} : inR n lo hi = false ↔ ¬ (lo ≤ n ∧ n ≤ hi) := decide_eq_false_iff_not

/-- The sum in a circle. -/
def addW (a b : Int) : Int := if a + b > 65535 then a + b - 65535 else a + b
theorem addW_lo {a b : Int} (h : a + b ≤ 65535) : addW a b = a + b := if_neg (by omega)
theorem addW_hi {a b : Int} (h : 65535 < a + b) : addW a b = a + b - 65535 := if_pos (by omega)
theorem addW_word {a b : Int} (ha : 0 ≤ a ∧ a ≤ 65535) (hb : 0 ≤ b ∧ b ≤ 65535) : 0 ≤ addW a b ∧ addW a b ≤ 65535 := by unfold addW; split <;> omega

/-- AddWords. -/
def adw (a b : Int) : Int := if inR a 0 65535 = true ∧ inR b 0 65535 = true then addW a b else -1
theorem adw_yes {a b : Int} (ha : inR a 0 65535 = true) (hb : inR b 0 65535 = true) : adw a b = addW a b := if_pos ⟨ha, hb⟩
theorem adw_no1 {a b : Int} (ha : inR a 0 65535 = false) : adw a b = -1 := if_neg (by simp [ha])
theorem adw_no2 {a b : Int} (hb : inR b 0 65535 = false) : adw a b = -1 := if_neg (by simp [hb])

/-- UpdateCheck. -/
def upd (c o n : Int) : Int :=
  if inR c 0 65535 = true ∧ inR o 0 65535 = true ∧ inR n 0 65535 = true then 65535 - addW (addW (65535 - c) (65535 - o)) n else -1
theorem upd_yes {c o n : Int} (hc : inR c 0 65535 = true) (ho : inR o 0 65535 = true) (hn : inR n 0 65535 = true) : upd c o n = 65535 - addW (addW (65535 - c) (65535 - o)) n := if_pos ⟨hc, ho, hn⟩
theorem upd_no {c o n : Int} (h : inR c 0 65535 = false ∨ inR o 0 65535 = false ∨ inR n 0 65535 = false) : upd c o n = -1 := by
  unfold upd; rw [if_neg]; rintro ⟨h1, h2, h3⟩; simp [h1, h2, h3] at h

/-- All lie in lo..hi. -/
def allR (xs : List Int) (lo hi : Int) : Bool := xs.all fun z => inR z lo hi
/-- All are words. -/
def areW (xs : List Int) : Bool := allR xs 0 65535
/-- The sum of words, from the first on. -/
def sumL (xs : List Int) : Int := xs.foldl addW 0

theorem allR_take_snoc (xs : List Int) (lo hi : Int) (k : Nat) (h : k < xs.length) : allR (xs.take (k + 1)) lo hi = (allR (xs.take k) lo hi && inR (xs.getD k 0) lo hi) := by
  unfold allR
  rw [List.take_succ_eq_append_getElem h, List.all_append]
  simp [List.getD_eq_getElem?_getD, h]
theorem areW_take_snoc (xs : List Int) (k : Nat) (h : k < xs.length) : areW (xs.take (k + 1)) = (areW (xs.take k) && inR (xs.getD k 0) 0 65535) := allR_take_snoc xs 0 65535 k h
theorem allR_no {xs : List Int} {lo hi : Int} (k : Nat) (hk : k < xs.length) (h : inR (xs.getD k 0) lo hi = false) : allR xs lo hi = false := by
  rw [Bool.eq_false_iff]
  intro ha
  have h1 := List.all_eq_true.1 ha (xs.getD k 0) (by rw [List.getD_eq_getElem?_getD, List.getElem?_eq_getElem hk]; exact List.getElem_mem hk)
  rw [h] at h1; cases h1
theorem sumL_take_snoc (xs : List Int) (k : Nat) (h : k < xs.length) : sumL (xs.take (k + 1)) = addW (sumL (xs.take k)) (xs.getD k 0) := by
  unfold sumL
  rw [List.take_succ_eq_append_getElem h, List.foldl_append]
  simp [List.getD_eq_getElem?_getD, h]
theorem areW_mem {xs : List Int} (h : areW xs = true) : ∀ z ∈ xs, 0 ≤ z ∧ z ≤ 65535 := fun z hz => inR_iff.1 (List.all_eq_true.1 h z hz)
theorem areW_of {xs : List Int} (h : ∀ z ∈ xs, 0 ≤ z ∧ z ≤ 65535) : areW xs = true := List.all_eq_true.2 fun z hz => inR_yes (h z hz)
theorem areW_get {xs : List Int} (h : areW xs = true) (k : Nat) : 0 ≤ xs.getD k 0 ∧ xs.getD k 0 ≤ 65535 := by
  rw [List.getD_eq_getElem?_getD]
  rcases Nat.lt_or_ge k xs.length with hk | hk
  · rw [List.getElem?_eq_getElem hk]; exact areW_mem h _ (List.getElem_mem hk)
  · rw [List.getElem?_eq_none hk]; simp
theorem areW_no {xs : List Int} (k : Nat) (h : inR (xs.getD k 0) 0 65535 = false) : areW xs = false := by
  rw [Bool.eq_false_iff]
  intro ha
  have := areW_get ha k
  rw [inR_iff_no] at h
  exact h this
theorem sum_fold (xs : List Int) : ∀ s : Int, 0 ≤ s ∧ s ≤ 65535 → (∀ z ∈ xs, 0 ≤ z ∧ z ≤ 65535) → 0 ≤ xs.foldl addW s ∧ xs.foldl addW s ≤ 65535 := by
  induction xs with
  | nil => intro s hs _; exact hs
  | cons x r ih => intro s hs hx; exact ih _ (addW_word hs (hx x (by simp))) fun z hz => hx z (by simp [hz])
theorem sumL_word {xs : List Int} (h : areW xs = true) : 0 ≤ sumL xs ∧ sumL xs ≤ 65535 := sum_fold xs 0 (by omega) (areW_mem h)
theorem areW_take {xs : List Int} (h : areW xs = true) (k : Nat) : areW (xs.take k) = true := areW_of fun z hz => areW_mem h z (List.mem_of_mem_take hz)
theorem areW_drop {xs : List Int} (h : areW xs = true) (k : Nat) : areW (xs.drop k) = true := areW_of fun z hz => areW_mem h z (List.mem_of_mem_drop hz)

/-- SumOf, CheckOf, IsRight. -/
def vw (xs : List Int) : Bool := decide (xs.length ≤ 20) && areW xs
def sof (xs : List Int) : Int := if vw xs = true then sumL xs else -1
def cof (xs : List Int) : Int := if vw xs = true then 65535 - sumL xs else -1
def isr (xs : List Int) : Bool := sof xs == 65535
theorem vw_yes {xs : List Int} (h : xs.length ≤ 20) (hw : areW xs = true) : vw xs = true := by simp [vw, h, hw]
theorem vw_long {xs : List Int} (h : 20 < xs.length) : vw xs = false := by simp [vw]; intro h'; omega
theorem vw_bad {xs : List Int} (hw : areW xs = false) : vw xs = false := by simp [vw, hw]
theorem sof_yes {xs : List Int} (h : vw xs = true) : sof xs = sumL xs := if_pos h
theorem sof_no {xs : List Int} (h : vw xs = false) : sof xs = -1 := if_neg (by simp [h])
theorem cof_yes {xs : List Int} (h : vw xs = true) : cof xs = 65535 - sumL xs := if_pos h
theorem cof_no {xs : List Int} (h : vw xs = false) : cof xs = -1 := if_neg (by simp [h])
theorem vw_areW {xs : List Int} (h : vw xs = true) : areW xs = true := by simp [vw] at h; exact h.2
theorem vw_len {xs : List Int} (h : vw xs = true) : xs.length ≤ 20 := by simp [vw] at h; exact h.1
theorem sof_range {xs : List Int} (h : vw xs = true) : 0 ≤ sof xs ∧ sof xs ≤ 65535 := by rw [sof_yes h]; exact sumL_word (vw_areW h)

end Go.Proofs.Ytabapkbfolncoaa
