/-
  What the laws on joined parts and on cut data lean on, plainly.
-/
import Derived.Test.YtabapkbfolncoaaPlainJoin
namespace Go.Proofs.Ytabapkbfolncoaa
open Go.RowKit
section
variable {L S T : List Pt} {p q : Pt} {o : Int} {i : Nat}
theorem chain_more : ∀ {S : List Pt} {o : Int}, chainP S o = true → ∀ j, j < S.length → (S.getD j dP).2.1 = decide (j + 1 < S.length)
  | [], _, _, j, hj => by simp at hj
  | r :: S, o, h, 0, hj => by
    simp only [chainP, Bool.and_eq_true, decide_eq_true_eq] at h
    have e := h.1.2
    cases S with
    | nil => simpa using e
    | cons a S => simpa using e
  | r :: S, o, h, j + 1, hj => by
    simp only [chainP, Bool.and_eq_true, decide_eq_true_eq] at h
    have := chain_more h.2 j (by simpa using hj)
    simpa using this
theorem chain_pos : ∀ {S : List Pt} {o : Int}, chainP S o = true → ∀ j, j < S.length → (S.getD j dP).1 = o + ((dataP (S.take j)).length : Int)
  | [], _, _, j, hj => by simp at hj
  | r :: S, o, h, 0, hj => by
    simp only [chainP, Bool.and_eq_true, decide_eq_true_eq] at h
    simp [dataP]; exact h.1.1
  | r :: S, o, h, j + 1, hj => by
    simp only [chainP, Bool.and_eq_true, decide_eq_true_eq] at h
    have := chain_pos h.2 j (by simpa using hj)
    rw [List.take_succ_cons, dataP_cons, List.length_append]
    have e : (r :: S).getD (j + 1) dP = S.getD j dP := rfl
    rw [e, this]; omega
theorem chain_last : ∀ {S : List Pt} {o : Int}, chainP S o = true → S ≠ [] → ∃ p ∈ S, p.2.1 = false
  | [], _, _, h => absurd rfl h
  | [r], o, h, _ => by
    simp [chainP] at h
    exact ⟨r, by simp, h.2⟩
  | r :: a :: S, o, h, _ => by
    rw [chainP, Bool.and_eq_true] at h
    obtain ⟨p, hp, he⟩ := chain_last h.2 (by simp)
    exact ⟨p, List.mem_cons_of_mem _ hp, he⟩
/-- A place is in a part of the chain just if it is ahead of its end. -/
theorem chain_cov : ∀ {S : List Pt} {o : Int}, chainP S o = true → ∀ t : Int, (∃ p ∈ S, p.1 ≤ t ∧ t < p.1 + (p.2.2.length : Int)) ↔ (o ≤ t ∧ t < o + ((dataP S).length : Int))
  | [], _, _, t => by simp [dataP]
  | r :: S, o, h, t => by
    simp only [chainP, Bool.and_eq_true, decide_eq_true_eq] at h
    have ih := chain_cov h.2 t
    rw [dataP_cons, List.length_append]
    constructor
    · rintro ⟨p, hp, h1, h2⟩
      rcases List.mem_cons.1 hp with rfl | hp
      · omega
      · have := ih.1 ⟨p, hp, h1, h2⟩
        omega
    · rintro ⟨h1, h2⟩
      by_cases h3 : t < o + (r.2.2.length : Int)
      · exact ⟨r, List.mem_cons_self, by omega, by omega⟩
      · obtain ⟨p, hp, h4⟩ := ih.2 ⟨by omega, by omega⟩
        exact ⟨p, List.mem_cons_of_mem _ hp, h4⟩
theorem covL_iff {t : Int} : covL L t = true ↔ ∃ p ∈ L, p.1 ≤ t ∧ t < p.1 + (p.2.2.length : Int) := by
  unfold covL
  rw [List.any_eq_true]
  constructor
  · rintro ⟨p, hp, h⟩
    have := inR_iff.1 h
    exact ⟨p, hp, by omega, by omega⟩
  · rintro ⟨p, hp, h1, h2⟩
    exact ⟨p, hp, inR_yes ⟨h1, by omega⟩⟩
theorem covL_false {t : Int} (h : ¬ ∃ p ∈ L, p.1 ≤ t ∧ t < p.1 + (p.2.2.length : Int)) : covL L t = false := by
  rw [← Bool.not_eq_true]
  exact fun e => h (covL_iff.1 e)
theorem dataP_perm (h : S.Perm L) : (dataP S).length = (dataP L).length := by
  unfold dataP
  rw [List.length_flatMap, List.length_flatMap]
  exact (h.map _).sum_nat
/-- Joined parts miss nothing but what is behind them. -/
theorem miss_chain (hv : validP L = true) (h : S.Perm L) (hc : chainP S 0 = true) : missOf L = ((dataP S).length : Int) := by
  have cov : ∀ t : Int, covL L t = true ↔ (0 ≤ t ∧ t < ((dataP S).length : Int)) := fun t => by
    rw [covL_iff]
    have h1 := chain_cov hc t
    rw [Int.zero_add] at h1
    rw [← h1]
    exact ⟨fun ⟨p, hp, e⟩ => ⟨p, h.mem_iff.2 hp, e⟩, fun ⟨p, hp, e⟩ => ⟨p, h.mem_iff.1 hp, e⟩⟩
  have h12 : (dataP S).length ≤ 12 := by
    rcases Nat.lt_or_ge 12 (dataP S).length with hlt | hlt
    · have := covL_low hv (k := 12) ((cov 12).2 (by omega))
      omega
    · exact hlt
  rw [miss_yes hv, missN_at h12 _ fun j hj => (cov j).2 (by omega)]
  rw [← Bool.not_eq_true]
  intro e
  have := (cov _).1 e
  omega
/-- Each part of a chain stands at its place in the numbers; just the last one is without More. -/
theorem chain_part : ∀ {S : List Pt} {o : Int}, chainP S o = true → (∀ p ∈ S, 1 ≤ p.2.2.length) → ∀ p ∈ S, o ≤ p.1 ∧ p.1 + (p.2.2.length : Int) ≤ o + ((dataP S).length : Int) ∧ ((dataP S).drop (p.1 - o).toNat).take p.2.2.length = p.2.2 ∧ p.2.1 = decide (p.1 + (p.2.2.length : Int) < o + ((dataP S).length : Int))
  | [], _, _, _, p, hp => by simp at hp
  | r :: S, o, h, hl, p, hp => by
    simp only [chainP, Bool.and_eq_true, decide_eq_true_eq] at h
    rw [dataP_cons, List.length_append]
    rcases List.mem_cons.1 hp with rfl | hp
    · refine ⟨by omega, by omega, ?_, ?_⟩
      · rw [show (p.1 - o).toNat = 0 by omega]; simp
      · have e := h.1.2
        cases S with
        | nil => simp at e; rw [e]; simp [dataP]; omega
        | cons a S =>
          have := hl a (by simp)
          simp at e
          rw [e, dataP_cons]
          simp only [List.length_append]
          simp; omega
    · obtain ⟨h1, h2, h3, h4⟩ := chain_part h.2 (fun p hp => hl p (List.mem_cons_of_mem _ hp)) p hp
      refine ⟨by omega, by omega, ?_, ?_⟩
      · rw [List.drop_append, List.drop_of_length_le (by omega), List.nil_append]
        have e : (p.1 - o).toNat - r.2.2.length = (p.1 - (o + (r.2.2.length : Int))).toNat := by omega
        rw [e]; exact h3
      · rw [h4]; congr 1; apply propext; constructor <;> intro <;> omega
/-- A part left out is missing. -/
theorem miss_less {k : Nat} (hv : validP L = true) (hc : chainP L 0 = true) (hk : k < L.length) : missOf (L.take k ++ L.drop (k + 1)) = (L.getD k dP).1 ∧ joinOf (L.take k ++ L.drop (k + 1)) = none := by
  obtain ⟨M, hM⟩ : ∃ M, M = L.take k ++ L.drop (k + 1) := ⟨_, rfl⟩
  obtain ⟨x, hx⟩ : ∃ x, x = L.getD k dP := ⟨_, rfl⟩
  have hL : L = L.take k ++ x :: L.drop (k + 1) := by rw [hx, ← drop_cons hk, List.take_append_drop]
  have hmem : ∀ p ∈ M, p ∈ L := fun p hp => by
    rw [hM] at hp
    rcases List.mem_append.1 hp with hp | hp
    · exact List.mem_of_mem_take hp
    · exact List.mem_of_mem_drop hp
  have hlen : M.length ≤ L.length := by rw [hM, List.length_append, List.length_take, List.length_drop]; omega
  have hvM := validP_sub hv hmem hlen
  have hxL : x ∈ L := by rw [hx]; exact getP_mem hk
  have hg := good_len hv hxL
  have hpw := chain_pw hc
  rw [hL] at hpw
  have ⟨_, hp2, hp3⟩ := List.pairwise_append.1 hpw
  have hlo : ∀ p ∈ L.take k, p.1 + (p.2.2.length : Int) ≤ x.1 := fun p hp => hp3 p hp x List.mem_cons_self
  have hhi : ∀ p ∈ L.drop (k + 1), x.1 + (x.2.2.length : Int) ≤ p.1 := fun p hp => (List.pairwise_cons.1 hp2).1 p hp
  have hcov := chain_cov hc
  have hmiss : missOf M = x.1 := by
    have e : ((x.1.toNat : Nat) : Int) = x.1 := by omega
    rw [miss_yes hvM, missN_at (k := x.1.toNat) (by omega) (covL_false ?_) (fun j hj => covL_iff.2 ?_), e]
    · rw [e, hM]
      rintro ⟨p, hp, h1, h2⟩
      rcases List.mem_append.1 hp with hp | hp
      · have := hlo p hp; omega
      · have := hhi p hp; omega
    · have hx0 := (hcov x.1).1 ⟨x, hxL, by omega, by omega⟩
      obtain ⟨p, hp, h1, h2⟩ := (hcov (j : Int)).2 ⟨by omega, by omega⟩
      refine ⟨p, ?_, h1, h2⟩
      rw [hL] at hp
      rw [hM]
      rcases List.mem_append.1 hp with hp | hp
      · exact List.mem_append_left _ hp
      · rcases List.mem_cons.1 hp with rfl | hp
        · omega
        · have := hhi p hp; omega
  refine ⟨by rw [← hM, ← hx]; exact hmiss, ?_⟩
  rw [← hM]
  cases hj : joinOf M with
  | none => rfl
  | some ys =>
    exfalso
    obtain ⟨_, h0, _, hP, hcM, _⟩ := joinOf_some hj
    have h1 := miss_chain hvM hP hcM
    rw [hmiss, dataP_perm hP] at h1
    have h2 : (dataP L).length = (dataP M).length + x.2.2.length := by
      rw [hL, hM, dataP_len, dataP_len, dataP_cons, List.length_append]; omega
    have hlast : ¬ k + 1 < L.length := fun hlt => by
      have hm : L.getD (k + 1) dP ∈ L.drop (k + 1) := by rw [drop_cons hlt]; exact List.mem_cons_self
      have h3 := hhi _ hm
      have h4 := good_len hv (List.mem_of_mem_drop hm)
      have h5 := (hcov (L.getD (k + 1) dP).1).1 ⟨_, List.mem_of_mem_drop hm, by omega, by omega⟩
      omega
    obtain ⟨p, hp, he⟩ := chain_last hcM (fun e => h0 (List.perm_nil.1 (e ▸ hP.symm)))
    have hp' := hP.mem_iff.1 hp
    rw [hM, List.drop_eq_nil_of_le (by omega), List.append_nil] at hp'
    obtain ⟨j, hj, rfl⟩ := List.getElem_of_mem hp'
    rw [List.length_take] at hj
    have h6 := chain_more hc j (by omega)
    rw [List.getD_eq_getElem?_getD, List.getElem?_eq_getElem (by omega), Option.getD_some] at h6
    rw [List.getElem_take] at he
    rw [he, decide_eq_true (by omega : j + 1 < L.length)] at h6
    cases h6
/-- The same part twice. -/
theorem twice_over (hv : validP L = true) (h0 : 0 < L.length) (h6 : L.length < 6) : 0 ≤ overOf (L ++ [L.getD 0 dP]) ∧ joinOf (L ++ [L.getD 0 dP]) = none := by
  have hm : L.getD 0 dP ∈ L := getP_mem h0
  have hg := good_len hv hm
  have hv2 : validP (L ++ [L.getD 0 dP]) = true := by
    simp only [validP, Bool.and_eq_true, decide_eq_true_eq] at hv ⊢
    refine ⟨List.all_eq_true.2 fun p hp => ?_, by simp; omega⟩
    rcases List.mem_append.1 hp with hp | hp
    · exact List.all_eq_true.1 hv.1 _ hp
    · simp only [List.mem_singleton] at hp; subst hp; exact List.all_eq_true.1 hv.1 _ hm
  have hno : overL (L ++ [L.getD 0 dP]) ≠ -1 := fun e => by
    have h1 := (List.pairwise_append.1 (overL_pw e)).2.2 _ hm _ (List.mem_singleton.2 rfl)
    simp only [meetP, Bool.and_eq_false_iff, decide_eq_false_iff_not] at h1
    omega
  refine ⟨?_, joinOf_over hno⟩
  unfold overOf
  rw [hv2, if_pos rfl]
  unfold overL at hno ⊢
  split
  · omega
  · rename_i h; rw [if_neg h] at hno; exact absurd rfl hno

/-- Cut data stand one behind the other. -/
theorem cut_tail {xs : List Int} {m k : Nat} (hm : 0 < m) (h1 : xs.length ≤ k * m) (h2 : k * m < xs.length + m) : ∀ r j, j + r = k →
    chainP ((List.range' j r).map fun j => cutP xs m (j * m)) ((j * m : Nat) : Int) = true ∧ dataP ((List.range' j r).map fun j => cutP xs m (j * m)) = xs.drop (j * m)
  | 0, j, hj => by
    refine ⟨rfl, ?_⟩
    have : j = k := by omega
    subst this
    rw [List.drop_of_length_le h1]; rfl
  | r + 1, j, hj => by
    have ih := cut_tail hm h1 h2 r (j + 1) (by omega)
    have e1 : (j + 1) * m = j * m + m := Nat.succ_mul j m
    have hle : (j + 1) * m ≤ k * m := Nat.mul_le_mul_right _ (by omega)
    have hlt : j * m < xs.length := by omega
    rw [List.range'_succ, List.map_cons]
    constructor
    · have hlen : (cutP xs m (j * m)).2.2.length = min m (xs.length - j * m) := by simp [cutP]
      rcases Nat.eq_zero_or_pos r with rfl | hr
      · have : j + 1 = k := by omega
        rw [← this] at h1
        simp [chainP, cutP]; omega
      · have hle2 : (j + 1 + 1) * m ≤ k * m := Nat.mul_le_mul_right _ (by omega)
        have e2 : (j + 1 + 1) * m = (j + 1) * m + m := Nat.succ_mul (j + 1) m
        have e3 : ((j * m : Nat) : Int) + ((cutP xs m (j * m)).2.2.length : Int) = (((j + 1) * m : Nat) : Int) := by rw [hlen]; omega
        have e4 : ((List.range' (j + 1) r).map fun j => cutP xs m (j * m)).isEmpty = false := by
          cases r with
          | zero => omega
          | succ r => rfl
        unfold chainP
        rw [e3, ih.1, e4]
        simp [cutP]; omega
    · rw [dataP_cons, ih.2, e1]
      show (xs.drop (j * m)).take m ++ xs.drop (j * m + m) = xs.drop (j * m)
      rw [← List.drop_drop, List.take_append_drop]
/-- Cut data: valid parts that stand one behind the other, and together are the data. -/
theorem cut_all {xs : List Int} {m : Int} (h : 0 < (cutOf xs m).length) : validP (cutOf xs m) = true ∧ chainP (cutOf xs m) 0 = true ∧ dataP (cutOf xs m) = xs ∧ (1 ≤ m ∧ m ≤ 12) ∧ (1 ≤ xs.length ∧ xs.length ≤ 12) ∧ (cutOf xs m).length = cutN xs m.toNat ∧ (cutOf xs m).length ≤ 6 ∧
    ∀ i, i < (cutOf xs m).length → (((cutOf xs m).getD i dP).2.2.length : Int) ≤ m ∧ (i + 1 < (cutOf xs m).length → (((cutOf xs m).getD i dP).2.2.length : Int) = m) := by
  have hc : okCut xs m = true ∧ cutN xs m.toNat ≤ 6 := by
    unfold cutOf at h
    split at h
    · rename_i h'
      simpa using h'
    · simp at h
  have e := cutOf_yes hc.1 hc.2
  have hok := hc.1
  simp only [okCut, Bool.and_eq_true] at hok
  have hn := inR_iff.1 hok.1
  have hm := inR_iff.1 hok.2.2
  obtain ⟨k, hk⟩ : ∃ k, k = cutN xs m.toNat := ⟨_, rfl⟩
  obtain ⟨M, hM⟩ : ∃ M, M = m.toNat := ⟨_, rfl⟩
  have h1 : xs.length ≤ k * M := by
    have := Nat.lt_div_mul_add (a := xs.length + M - 1) (b := M) (by omega)
    rw [hk, ← hM]; unfold cutN; omega
  have h2 : k * M < xs.length + M := by
    have := Nat.div_mul_le_self (xs.length + M - 1) M
    rw [hk, ← hM]; unfold cutN; omega
  have hk6 : k ≤ 6 := by rw [hk]; exact hc.2
  rw [← hk, ← hM] at e
  have ht := cut_tail (xs := xs) (m := M) (k := k) (by omega) h1 h2 k 0 (by omega)
  rw [← List.range_eq_range'] at ht
  have hget : ∀ i, i < k → (cutK xs M k).getD i dP = cutP xs M (i * M) := fun i hi => by
    unfold cutK
    rw [List.getD_eq_getElem?_getD, List.getElem?_map, List.getElem?_range hi]; rfl
  have hlt : ∀ i, i < k → i * M < xs.length ∧ (i + 1 < k → i * M + M < xs.length) := fun i hi => by
    have e1 : (i + 1) * M = i * M + M := Nat.succ_mul i M
    have e2 : (i + 1) * M ≤ k * M := Nat.mul_le_mul_right _ (by omega)
    refine ⟨by omega, fun h3 => ?_⟩
    have e3 : (i + 1 + 1) * M ≤ k * M := Nat.mul_le_mul_right _ (by omega)
    have e4 : (i + 1 + 1) * M = (i + 1) * M + M := Nat.succ_mul (i + 1) M
    omega
  have hl : (cutK xs M k).length = k := cutK_len M k
  rw [e]
  refine ⟨?_, by have := ht.1; simpa [cutK] using this, by have := ht.2; simpa [cutK] using this, hm, by omega, by rw [hl, hk], by omega, fun i hi => ?_⟩
  · rw [validP_end (fun i hi => ?_), hl, decide_eq_true hk6]
    rw [hl] at hi
    rw [hget i hi]
    have h3 := hlt i hi
    refine (goodP_yes (inR_yes ⟨by omega, by omega⟩) (inR_yes ⟨?_, ?_⟩)).trans (areW_of fun z hz => areW_mem hok.2.1 z (List.mem_of_mem_drop (List.mem_of_mem_take hz)))
    · rw [List.length_take, List.length_drop]; omega
    · rw [List.length_take, List.length_drop]; omega
  · rw [hl] at hi
    rw [hget i hi, hl]
    have h3 := hlt i hi
    have h4 : (cutP xs M (i * M)).2.2.length = min M (xs.length - i * M) := by simp [cutP]
    rw [h4]
    exact ⟨by omega, fun h5 => by have := h3.2 h5; omega⟩
theorem cut_join {xs : List Int} {m : Int} (h : 0 < (cutOf xs m).length) : joinOf (cutOf xs m) = some xs := by
  obtain ⟨h1, h2, h3, _⟩ := cut_all h
  have := (joinOf_mk h1 (List.Perm.refl _) (fun e => by rw [e] at h; simp at h) h2).1
  rw [h3] at this; exact this
theorem cut_back {xs : List Int} {m : Int} (h : 0 < (cutOf xs m).length) : joinOf (cutOf xs m).reverse = some xs ∧ overOf (cutOf xs m).reverse = -1 := by
  obtain ⟨h1, h2, h3, _⟩ := cut_all h
  have := joinOf_mk (L := (cutOf xs m).reverse) (validP_sub h1 (fun p hp => by simpa using hp) (by simp)) (List.reverse_perm _).symm (fun e => by rw [e] at h; simp at h) h2
  rw [h3] at this; exact this
/-- Joined numbers: 1 to 12 words; cut anew they are joined again. -/
theorem join_cut {xs : List Int} (h : joinOf L = some xs) : (1 ≤ xs.length ∧ xs.length ≤ 12) ∧ joinOf (cutOf xs 4) = some xs ∧ missOf L = (xs.length : Int) := by
  obtain ⟨hv, h0, _, hP, hc, hxs⟩ := joinOf_some h
  have hms := miss_chain hv hP hc
  rw [← hxs] at hms
  have h12 : xs.length ≤ 12 := by
    have h1 := (missN_spec hv).1
    have h2 := miss_yes hv
    omega
  have h1 : 1 ≤ xs.length := by
    have hS : 0 < (srtP L).length := by rw [hP.length_eq]; cases L with | nil => exact absurd rfl h0 | cons _ _ => simp
    have hm := getP_mem hS
    have hg := good_len hv (hP.mem_iff.1 hm)
    have h3 := (chain_cov hc (((srtP L).getD 0 dP).1)).1 ⟨_, hm, by omega, by omega⟩
    rw [← hxs] at h3
    omega
  have hw : areW xs = true := areW_of fun z hz => by
    rw [hxs] at hz
    obtain ⟨p, hp, hz⟩ := List.mem_flatMap.1 hz
    have hp := hP.mem_iff.1 hp
    simp only [validP, Bool.and_eq_true] at hv
    have hg := List.all_eq_true.1 hv.1 _ hp
    simp only [goodP, Bool.and_eq_true] at hg
    exact areW_mem hg.2.2 z hz
  have hok := okCut_yes (m := 4) (xs := xs) (inR_yes ⟨by omega, by omega⟩) hw (by decide)
  have hN : cutN xs (4 : Int).toNat ≤ 6 ∧ 0 < cutN xs (4 : Int).toNat := by
    show cutN xs 4 ≤ 6 ∧ 0 < cutN xs 4
    unfold cutN; omega
  refine ⟨⟨h1, h12⟩, cut_join ?_, hms⟩
  rw [cutOf_yes hok hN.1, cutK_len]; exact hN.2
/-- The numbers of the first i parts. -/
theorem data_succ (hi : i < L.length) : (dataP (L.take (i + 1))).length = (dataP (L.take i)).length + (L.getD i dP).2.2.length := by
  rw [take_snocP hi, dataP_len]; simp [dataP]
end
end Go.Proofs.Ytabapkbfolncoaa
