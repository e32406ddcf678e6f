/-
  A slice of the call's own making, anywhere in its block: what it holds, and that it may be written and appended to. The law of append on it, whatever the source (nil and empty, too).
-/
import Derived.Test.YtabapkbfolncoaaMem
import Derived.ArgAppend
import Derived.Deep.Upon
import Derived.Laws.OwnMore
namespace Go.Proofs.Ytabapkbfolncoaa
open Go.RowKit

theorem out_of_heap {w : World} {a : Addr} {v : Value} (h : w.cell? a = some v) : a.block < w.heap.size := by
  rcases Nat.lt_or_ge a.block w.heap.size with hl | hl
  · exact hl
  · unfold World.cell? at h; rw [Array.getElem?_eq_none hl] at h; simp at h

theorem below_setCells_any (g : Nat) : ∀ (vs : List Value) (o : Nat) (w : World), w.grownBy (w.setCells g o vs) (some g)
  | [], _, w => World.grownBy.refl w _
  | v :: r, o, w => (only_setCell w g o v).trans (below_setCells_any g r (o + 1) _)

/-- The slice (A, n, cap), of elements of 'size' cells, is nil without capacity, or lies in a block from 'base' on that is ours; its cells are xs; up to the capacity the cells are there and may be written. -/
def Mine (w : World) (base size : Nat) (A : Option Addr) (n cap : Nat) (xs : List Value) : Prop :=
  xs.length = n * size ∧ n ≤ cap ∧ cap ≤ maxLen ∧
  ((A = none ∧ cap = 0) ∨
   ∃ g o, A = some ⟨g, o, none⟩ ∧ base ≤ g ∧ g < w.heap.size ∧ (∀ j, j < n * size → w.cell? ⟨g, o + j, none⟩ = xs[j]?) ∧
     ∀ j, j < cap * size → (w.cell? ⟨g, o + j, none⟩).isSome = true ∧ w.frozen? ⟨g, o + j, none⟩ = false)

section
variable {w w' : World} {base base' size : Nat} {A : Option Addr} {n cap : Nat} {xs : List Value}

theorem Mine.nil_ : Mine w base size none 0 0 [] := ⟨by simp, by omega, by simp [maxLen], .inl ⟨rfl, rfl⟩⟩
theorem Mine.keep (h : Mine w base size A n cap xs) (hs : w.heap.size ≤ w'.heap.size) (hb : ∀ g, A.map (·.block) = some g → w'.heap[g]? = w.heap[g]?) : Mine w' base size A n cap xs := by
  obtain ⟨h1, h2, h3, h4⟩ := h
  refine ⟨h1, h2, h3, ?_⟩
  rcases h4 with h4 | ⟨g, o, rfl, hg, hl, hc, hf⟩
  · exact .inl h4
  · have e := hb g rfl
    refine .inr ⟨g, o, rfl, hg, by omega, fun j hj => ?_, fun j hj => ?_⟩
    · rw [World.cell?_of_block (w := w) (a := ⟨g, o + j, none⟩) e]; exact hc j hj
    · rw [World.cell?_of_block (w := w) (a := ⟨g, o + j, none⟩) e, World.frozen?_of_block (w := w) (a := ⟨g, o + j, none⟩) e]; exact hf j hj
theorem Mine.lt (h : Mine w base size A n cap xs) {g : Nat} (hg : A.map (·.block) = some g) : base ≤ g ∧ g < w.heap.size := by
  obtain ⟨_, _, _, ⟨rfl, _⟩ | ⟨g', o, rfl, h1, h2, _⟩⟩ := h
  · cases hg
  · simp at hg; subst hg; exact ⟨h1, h2⟩
theorem Mine.below (h : Mine w base size A n cap xs) (hb : Below w.heap.size w w') : Mine w' base size A n cap xs := h.keep hb.size fun g hg => hb.block g (h.lt hg).2
theorem Mine.alloc (h : Mine w base size A n cap xs) (o : Obj) : Mine (w.alloc o) base size A n cap xs := h.keep (by simp) fun g hg => Below.heap_alloc w o g (h.lt hg).2
theorem Mine.drewN (h : Mine w base size A n cap xs) (k : Nat) : Mine (w.drewN k) base size A n cap xs := h
/-- A write to another block, below base. -/
theorem Mine.far (h : Mine w base size A n cap xs) {R : Nat} (hg : w.grownBy w' (some R)) (hR : R < base) : Mine w' base size A n cap xs :=
  h.keep hg.size fun g hgg => hg.block g (h.lt hgg).2 (fun e => by have := (h.lt hgg).1; injection e; omega)
theorem Mine.kept (h : Mine w base size A n cap xs) {row : Option Nat} (hg : w.grownBy w' row) (hR : ∀ g, A.map (·.block) = some g → row ≠ some g) : Mine w' base size A n cap xs :=
  h.keep hg.size fun g hgg => hg.block g (h.lt hgg).2 (fun e => hR g hgg e.symm)
theorem Mine.mono (h : Mine w base size A n cap xs) (hb : base' ≤ base) : Mine w base' size A n cap xs := by
  obtain ⟨h1, h2, h3, h4 | ⟨g, o, e, hg, r⟩⟩ := h
  · exact ⟨h1, h2, h3, .inl h4⟩
  · exact ⟨h1, h2, h3, .inr ⟨g, o, e, by omega, r⟩⟩
theorem Mine.of_own {e : TypeId} (h : w.ownsRow base e size (.slice A n cap) n xs) : Mine w base size A n cap xs := by
  have h' := h
  obtain ⟨h1, h2⟩ := h
  rcases h2 with ⟨hv, rfl⟩ | ⟨g, cap', cur, hv, hb, hh, hnc, hcm, hcs, htake⟩
  · injection hv with e1 e2 e3
    subst e1; subst e3
    exact ⟨h1, by omega, by simp [maxLen], .inl ⟨rfl, rfl⟩⟩
  · injection hv with e1 e2 e3
    subst e1; subst e3
    have hlt : g < w.heap.size := by
      rcases Nat.lt_or_ge g w.heap.size with hl | hl
      · exact hl
      · rw [Array.getElem?_eq_none hl] at hh; cases hh
    refine ⟨h1, hnc, hcm, .inr ⟨g, 0, rfl, hb, hlt, fun j hj => ?_, fun j hj => ⟨?_, ?_⟩⟩⟩
    · simpa using h'.cellAt j hj
    · rw [cell_of_row w g (0 + j) cur e (0, 0) hh]
      simp; omega
    · simpa using h'.frozenAt j
theorem Mine.new (w : World) (e : TypeId) (size n : Nat) (C : Array Value) (hC : C.size = n * size) (hn : n ≤ maxLen) : Mine (w.alloc (.cells C e)) w.heap.size size (some ⟨w.heap.size, 0, none⟩) n n C.toList := by
  have hh := heap_alloc_new w (.cells C e)
  refine ⟨by simpa using hC, Nat.le_refl _, hn, .inr ⟨w.heap.size, 0, rfl, Nat.le_refl _, by simp, fun j hj => ?_, fun j hj => ⟨?_, ?_⟩⟩⟩
  · rw [cell_of_row _ w.heap.size (0 + j) C e (0, 0) hh]; simp
  · rw [cell_of_row _ w.heap.size (0 + j) C e (0, 0) hh]; simp; omega
  · unfold World.frozen?; rw [hh]; simp
theorem Mine.new_at (w : World) (H : Nat) (hH : w.heap.size = H) (e : TypeId) (size n : Nat) (C : Array Value) (hC : C.size = n * size) (hn : n ≤ maxLen) : Mine (w.alloc (.cells C e)) H size (some ⟨H, 0, none⟩) n n C.toList := by
  subst hH; exact Mine.new w e size n C hC hn

/-- v[:k] -/
theorem Mine.take (h : Mine w base size A n cap xs) {k : Nat} (hk : k ≤ n) : Mine w base size A k cap (xs.take (k * size)) := by
  obtain ⟨h1, h2, h3, h4⟩ := h
  have hle : k * size ≤ n * size := Nat.mul_le_mul_right _ hk
  refine ⟨by rw [List.length_take, h1]; omega, by omega, h3, ?_⟩
  rcases h4 with h4 | ⟨g, o, e, hg, hl, hc, hf⟩
  · exact .inl h4
  · refine .inr ⟨g, o, e, hg, hl, fun j hj => ?_, hf⟩
    rw [List.getElem?_take, if_pos hj]; exact hc j (by omega)
/-- v[k:], away from the capacity's end -/
theorem Mine.drop {g o : Nat} (h : Mine w base size (some ⟨g, o, none⟩) n cap xs) {k : Nat} (hk : k ≤ n) : Mine w base size (some ⟨g, o + k * size, none⟩) (n - k) (cap - k) (xs.drop (k * size)) := by
  obtain ⟨h1, h2, h3, h4⟩ := h
  have hle : k * size ≤ n * size := Nat.mul_le_mul_right _ hk
  refine ⟨by rw [List.length_drop, h1, Nat.sub_mul], by omega, by omega, ?_⟩
  rcases h4 with ⟨h4, _⟩ | ⟨g', o', e, hg, hl, hc, hf⟩
  · cases h4
  · injection e with e
    injection e with e1 e2
    subst e1; subst e2
    refine .inr ⟨g, o + k * size, rfl, hg, hl, fun j hj => ?_, fun j hj => ?_⟩
    · rw [Nat.sub_mul] at hj
      rw [List.getElem?_drop, Nat.add_assoc]; exact hc _ (by omega)
    · rw [Nat.sub_mul] at hj
      rw [Nat.add_assoc]; exact hf _ (by omega)
/-- v[j] = u (one cell) -/
theorem Mine.set_ {g o : Nat} (h : Mine w base size (some ⟨g, o, none⟩) n cap xs) {j : Nat} (hj : j < n * size) (u : Value) : Mine (w.setCell ⟨g, o + j, none⟩ u) base size (some ⟨g, o, none⟩) n cap (xs.set j u) := by
  obtain ⟨h1, h2, h3, h4⟩ := h
  refine ⟨by simpa using h1, h2, h3, ?_⟩
  rcases h4 with ⟨h4, _⟩ | ⟨g', o', e, hg, hl, hc, hf⟩
  · cases h4
  · injection e with e
    injection e with e1 e2
    subst e1; subst e2
    have hs : (w.cell? ⟨g, o + j, none⟩).isSome = true := (hf j (Nat.lt_of_lt_of_le hj (Nat.mul_le_mul_right _ h2))).1
    have hcell : ∀ i, (w.setCell ⟨g, o + j, none⟩ u).cell? ⟨g, o + i, none⟩ = if i = j then some u else w.cell? ⟨g, o + i, none⟩ := by
      intro i
      have h1 := World.cell?_setCells_in g [u] (o + j) w (by intro k hk; simp at hk; subst hk; simpa using hs)
      by_cases e : i = j
      · subst e
        rw [if_pos rfl]
        have h2 := h1 0 (by simp)
        simp only [List.getElem_cons_zero, Nat.add_zero] at h2
        exact h2
      · rw [if_neg e]
        exact World.cell?_setCells_out g [u] (o + j) w ⟨g, o + i, none⟩ (fun _ _ => by simp; omega)
    have hfz : ∀ i, (w.setCell ⟨g, o + j, none⟩ u).frozen? ⟨g, o + i, none⟩ = w.frozen? ⟨g, o + i, none⟩ := fun i => World.frozen?_setCells g [u] (o + j) w ⟨g, o + i, none⟩
    refine .inr ⟨g, o, rfl, hg, by simpa [World.setCell] using hl, fun i hi => ?_, fun i hi => ?_⟩
    · rw [hcell i, List.getElem?_set]
      by_cases e : i = j
      · subst e; rw [if_pos rfl, if_pos rfl, if_pos (by omega)]
      · rw [if_neg e, if_neg (fun h => e h.symm)]; exact hc i hi
    · rw [hcell i, hfz i]
      refine ⟨?_, (hf i hi).2⟩
      split
      · rfl
      · exact (hf i hi).1
end

theorem Mine.at_ {w : World} {base size n cap g o : Nat} {xs : List Value} (h : Mine w base size (some ⟨g, o, none⟩) n cap xs) {j : Nat} (hj : j < n * size) : w.cell? ⟨g, o + j, none⟩ = xs[j]? := by
  obtain ⟨_, _, _, ⟨h4, _⟩ | ⟨g', o', e, _, _, hc, _⟩⟩ := h
  · cases h4
  · injection e with e; injection e with e1 e2; subst e1; subst e2; exact hc j hj
theorem Mine.can {w : World} {base size n cap g o : Nat} {xs : List Value} (h : Mine w base size (some ⟨g, o, none⟩) n cap xs) {j : Nat} (hj : j < cap * size) : (∃ v, w.cell? ⟨g, o + j, none⟩ = some v) ∧ w.frozen? ⟨g, o + j, none⟩ = false := by
  obtain ⟨_, _, _, ⟨h4, _⟩ | ⟨g', o', e, _, _, _, hf⟩⟩ := h
  · cases h4
  · injection e with e; injection e with e1 e2; subst e1; subst e2; exact ⟨Option.isSome_iff_exists.1 (hf j hj).1, (hf j hj).2⟩
theorem Mine.at0 {w : World} {base size n cap g : Nat} {xs : List Value} (h : Mine w base size (some ⟨g, 0, none⟩) n cap xs) {j : Nat} (hj : j < n * size) : w.cell? ⟨g, j, none⟩ = xs[j]? := by simpa using h.at_ hj
theorem Mine.can0 {w : World} {base size n cap g : Nat} {xs : List Value} (h : Mine w base size (some ⟨g, 0, none⟩) n cap xs) {j : Nat} (hj : j < cap * size) : (∃ v, w.cell? ⟨g, j, none⟩ = some v) ∧ w.frozen? ⟨g, j, none⟩ = false := by simpa using h.can hj
theorem Mine.set0 {w : World} {base size n cap g : Nat} {xs : List Value} (h : Mine w base size (some ⟨g, 0, none⟩) n cap xs) {j : Nat} (hj : j < n * size) (u : Value) : Mine (w.setCell ⟨g, j, none⟩ u) base size (some ⟨g, 0, none⟩) n cap (xs.set j u) := by simpa using h.set_ hj u

theorem some_of' {A' : Option Addr} {w : World} {base size n cap : Nat} {xs : List Value} (hm : Mine w base size A' n cap xs) (hn : 0 < n) : ∃ g o, A' = some ⟨g, o, none⟩ := by
  obtain ⟨_, hnc, _, ⟨rfl, h0⟩ | ⟨g', o', rfl, _⟩⟩ := hm
  · omega
  · exact ⟨g', o', rfl⟩

/-- What a slice shows: its cells, in a block below B. -/
def Sees (w : World) (B : Nat) (A : Option Addr) (xs : List Value) : Prop :=
  0 < xs.length → ∃ b o, A = some ⟨b, o, none⟩ ∧ b < B ∧ ∀ j, j < xs.length → w.cell? ⟨b, o + j, none⟩ = xs[j]?
section
variable {w w' : World} {B B' base size n cap : Nat} {A : Option Addr} {xs : List Value}
theorem Mine.sees (h : Mine w base size A n cap xs) : Sees w w.heap.size A xs := fun hn => by
  obtain ⟨h1, h2, _, ⟨rfl, h0⟩ | ⟨g, o, rfl, _, hl, hc, _⟩⟩ := h
  · have : n = 0 := by omega
    subst this; simp at h1; simp [h1] at hn
  · exact ⟨g, o, rfl, hl, fun j hj => hc j (by omega)⟩
theorem Sees.nil_ : Sees w B A [] := fun h => absurd h (by simp)
theorem Sees.keep (h : Sees w B A xs) (hc : ∀ b o, b < B → w'.cell? ⟨b, o, none⟩ = w.cell? ⟨b, o, none⟩) : Sees w' B A xs := fun hn => by
  obtain ⟨b, o, e, hb, hi⟩ := h hn
  exact ⟨b, o, e, hb, fun i hl => (hc b _ hb).trans (hi i hl)⟩
theorem Sees.more (h : Sees w B A xs) (hB : B ≤ B') : Sees w B' A xs := fun hn => by
  obtain ⟨b, o, e, hb, hi⟩ := h hn
  exact ⟨b, o, e, by omega, hi⟩
theorem Sees.below (h : Sees w B A xs) (hb : Below B w w') : Sees w' B A xs := h.keep fun b o hlt => hb.cell (p := ⟨b, o, none⟩) hlt
theorem Sees.alloc (h : Sees w B A xs) (hB : B ≤ w.heap.size) (o : Obj) : Sees (w.alloc o) B A xs := h.keep fun b o hlt => World.cell?_alloc_lt w _ ⟨b, o, none⟩ (Nat.lt_of_lt_of_le hlt hB)
theorem Sees.on (h : Sees w w.heap.size A xs) (hb : Below w.heap.size w w') : Sees w' w'.heap.size A xs := (h.below hb).more hb.size
theorem Sees.row {k : IntKind} {zs : List Int} (h : Sees w B A (zs.map (Value.int k))) : Row k w B A zs := fun hn => by
  obtain ⟨b, o, e, hb, hi⟩ := h (by simpa using hn)
  refine ⟨b, o, e, hb, fun i hl => ?_⟩
  rw [hi i (by simpa using hl)]
  simp [hl]
theorem Row.sees {k : IntKind} {zs : List Int} (h : Row k w B A zs) : Sees w B A (zs.map (Value.int k)) := fun hn => by
  obtain ⟨b, o, e, hb, hi⟩ := h (by simpa using hn)
  refine ⟨b, o, e, hb, fun i hl => ?_⟩
  rw [hi i (by simpa using hl)]
  simp at hl
  simp [hl]
theorem Row.on {k : IntKind} {zs : List Int} (h : Row k w w.heap.size A zs) (hb : Below w.heap.size w w') : Row k w' w'.heap.size A zs := (h.below hb).more hb.size
end

section
variable {P : Program} (w : World)

theorem run_append_none {t ty e : TypeId} {i : TypeInfo} (ht : P.underlying t = some (.slice e)) (hi : P.info? e = some i) (A X : Option Addr) (n cap c : Nat) (hnc : n ≤ cap) :
    (Builtin.append_ #[t, t] ty #[.slice A n cap, .slice X 0 c]).run P w = .ok (.slice A n cap) w := by
  cases A <;> cases X <;> simp [Builtin.append_, run_underlying ht, sizeOf, typeInfo, hi, Builtin.lenOf, Builtin.firstCells, hnc, storeCells, loadCells, loadCellsFrom]

theorem run_append_mine (base : Nat) (t ty e : TypeId) (i : TypeInfo) (z : Value) (size bytes : Nat) (ht : P.underlying t = some (.slice e)) (hi : P.info? e = some i) (hz : i.zero = some z)
    (hsize : i.size = size) (hby : i.bytes = bytes) (hzs : z.cells.size = size) (hsz : 0 < size)
    (A : Option Addr) (n cap : Nat) (xs : List Value) (hown : Mine w base size A n cap xs)
    (B : Nat) (X : Option Addr) (m c : Nat) (news : List Value) (hl : news.length = m * size) (hx : Sees w B X news) (h1 : ∀ u ∈ news, u.oneCell' = true)
    (h63 : n + m ≤ maxLen) (hbytes : (n + m) * bytes ≤ 140737488355328) (hbase : base ≤ w.heap.size) :
    ∃ A' cap' w', (Builtin.append_ #[t, t] ty #[.slice A n cap, .slice X m c]).run P w = .ok (.slice A' (n + m) cap') w' ∧ Mine w' base size A' (n + m) cap' (xs ++ news) ∧ w.grownBy w' (A.map (·.block)) ∧
      (A'.map (·.block) = A.map (·.block) ∨ ∃ g', A'.map (·.block) = some g' ∧ w.heap.size ≤ g') := by
  subst hsize
  have hown' := hown
  obtain ⟨hxl, hnc, hcm, h4⟩ := hown
  rcases Nat.eq_zero_or_pos m with rfl | hm
  · have hn : news = [] := List.eq_nil_of_length_eq_zero (by simpa using hl)
    subst hn
    exact ⟨A, cap, w, run_append_none w ht hi A X n cap c hnc, by simpa using hown', World.grownBy.refl w _, .inl rfl⟩
  · have hpos : 0 < news.length := by rw [hl]; exact Nat.mul_pos hm hsz
    obtain ⟨b, o, rfl, _, hcells⟩ := hx hpos
    have hnews : ∀ j u, news[j]? = some u → w.cell? ((⟨b, o, none⟩ : Addr).add j) = some u := by
      intro j u hu
      have hj : j < news.length := by rcases Nat.lt_or_ge j news.length with h | h; exact h; rw [List.getElem?_eq_none h] at hu; cases hu
      rw [← hu, ← hcells j hj]
      unfold Addr.add
      split
      · subst_vars; rfl
      · rfl
    rcases h4 with ⟨rfl, rfl⟩ | ⟨g, og, rfl, hg, hlt, hc, hf⟩
    · have hn0 : n = 0 := by omega
      subst hn0
      have hx0 : xs = [] := List.eq_nil_of_length_eq_zero (by simpa using hxl)
      subst hx0
      obtain ⟨v', w', hr, r1, r2, _, r4⟩ := run_append_own_at (P := P) w base t ty e i z i.size bytes ht hi hz rfl hby hzs hsz (.slice none 0 0) 0 [] (World.ownsRow_nil w base e i.size) ⟨b, o, none⟩ m c news hl hnews h1 h63 hbytes hbase
      rcases r1.2 with ⟨_, h0⟩ | ⟨g', cap', cur, rfl, _⟩
      · omega
      · exact ⟨_, cap', w', hr, Mine.of_own r1, r2, .inr ⟨g', rfl, by rcases r4 with r4 | r4 <;> simp [Value.ownBlock] at r4; omega⟩⟩
    · by_cases hroom : n + m ≤ cap
      · have hle : n * i.size + news.length ≤ cap * i.size := by rw [hl, ← Nat.add_mul]; exact Nat.mul_le_mul_right _ hroom
        have hin : ∀ j, j < news.length → (w.cell? ⟨g, og + n * i.size + j, none⟩).isSome = true ∧ w.frozen? ⟨g, og + n * i.size + j, none⟩ = false := by
          intro j hj
          have h := hf (n * i.size + j) (by omega)
          rw [← Nat.add_assoc] at h
          exact h
        have hr := run_append_room_cells (P := P) w t ty e i ht hi g og n cap ⟨b, o, none⟩ m c news hl hnews h1 hroom (fun j hj => (hin j hj).1) (fun j hj => (hin j hj).2)
        have hsz' : w.heap.size ≤ (w.setCells g (og + n * i.size) news).heap.size := by
          have := below_setCells_any g news (og + n * i.size) w
          exact this.size
        refine ⟨_, cap, _, hr, ⟨?_, hroom, hcm, .inr ⟨g, og, rfl, hg, by omega, fun j hj => ?_, fun j hj => ?_⟩⟩, below_setCells_any g news (og + n * i.size) w, .inl rfl⟩
        · rw [List.length_append, hxl, hl, Nat.add_mul]
        · rw [Nat.add_mul] at hj
          rcases Nat.lt_or_ge j (n * i.size) with h | h
          · rw [World.cell?_setCells_out g news (og + n * i.size) w ⟨g, og + j, none⟩ (fun _ _ => by simp; omega), List.getElem?_append_left (by omega)]
            exact hc j h
          · have e1 : og + j = og + n * i.size + (j - n * i.size) := by omega
            rw [e1, World.cell?_setCells_in g news (og + n * i.size) w (fun k hk => (hin k hk).1) (j - n * i.size) (by omega), List.getElem?_append_right (by omega), hxl, List.getElem?_eq_getElem (by omega)]
        · rw [World.frozen?_setCells]
          refine ⟨?_, (hf j hj).2⟩
          rcases Nat.lt_or_ge j (n * i.size) with h | h
          · rw [World.cell?_setCells_out g news (og + n * i.size) w ⟨g, og + j, none⟩ (fun _ _ => by simp; omega)]; exact (hf j hj).1
          · rcases Nat.lt_or_ge j (n * i.size + news.length) with h' | h'
            · have e1 : og + j = og + n * i.size + (j - n * i.size) := by omega
              rw [e1, World.cell?_setCells_in g news (og + n * i.size) w (fun k hk => (hin k hk).1) (j - n * i.size) (by omega)]; rfl
            · rw [World.cell?_setCells_out g news (og + n * i.size) w ⟨g, og + j, none⟩ (fun _ _ => by simp; omega)]; exact (hf j hj).1
      · have holds : ∀ j u, xs[j]? = some u → w.cell? ((⟨g, og, none⟩ : Addr).add j) = some u := by
          intro j u hu
          have hj : j < xs.length := by rcases Nat.lt_or_ge j xs.length with h | h; exact h; rw [List.getElem?_eq_none h] at hu; cases hu
          rw [← hu, ← hc j (by omega)]
          unfold Addr.add
          split
          · subst_vars; rfl
          · rfl
        obtain ⟨v', w', hr, r1, r2⟩ := run_append_arg_grows (P := P) w t ty e i z i.size bytes ht hi hz rfl hby hzs hsz ⟨g, og, none⟩ n cap xs hxl holds ⟨b, o, none⟩ m c news hl hnews (by omega) h63 hbytes
        rcases r1.2 with ⟨_, h0⟩ | ⟨g', cap', cur, rfl, hb', hh', _⟩
        · omega
        · exact ⟨_, cap', w', hr, (Mine.of_own r1).mono hbase, ⟨r2.os, r2.tape, r2.output, r2.size, fun k hk _ => r2.block k hk (by simp)⟩, .inr ⟨g', rfl, hb'⟩⟩

/-- At the operation, for the walk. -/
theorem wpList_append_mine {ops : Array Oper} {rest : List Oper} {o : Oper} {a : Act} {Q : Exit → Act → World → Prop} (hgd : o.guard = none) (s x : Operand) (t : TypeId)
    (ho : o.op = .call { callee := .builtin .append, args := #[s, x], argTypes := #[t, t] })
    (base : Nat) (e : TypeId) (i : TypeInfo) (z : Value) (size bytes : Nat) (ht : P.underlying t = some (.slice e)) (hi : P.info? e = some i) (hz : i.zero = some z)
    (hsize : i.size = size) (hby : i.bytes = bytes) (hzs : z.cells.size = size) (hsz : 0 < size)
    (A : Option Addr) (n cap : Nat) (xs : List Value) (hs : a.eval s = .slice A n cap) (hown : Mine w base size A n cap xs)
    (B : Nat) (X : Option Addr) (m c : Nat) (news : List Value) (hxv : a.eval x = .slice X m c) (hl : news.length = m * size) (hx : Sees w B X news) (h1 : ∀ u ∈ news, u.oneCell' = true)
    (h63 : n + m ≤ maxLen) (hbytes : (n + m) * bytes ≤ 140737488355328) (hbase : base ≤ w.heap.size)
    (h : ∀ A' cap' w', Mine w' base size A' (n + m) cap' (xs ++ news) → w.grownBy w' (A.map (·.block)) → (A'.map (·.block) = A.map (·.block) ∨ ∃ g', A'.map (·.block) = some g' ∧ w.heap.size ≤ g') → wpList P ops Q rest (a.put o.dst (.slice A' (n + m) cap')) w') :
    wpList P ops Q (o :: rest) a w := by
  refine wpList_plain hgd fun K hK => ?_
  obtain ⟨A', cap', w', hr, h2, h3, h4⟩ := run_append_mine (P := P) w base t o.type e i z size bytes ht hi hz hsize hby hzs hsz A n cap xs hown B X m c news hl hx h1 h63 hbytes hbase
  unfold Oper.wp execOp
  simp only [ho, resolve, invoke, builtin, Sem.run_bind, Sem.run_pure, Result.andThen_ok, List.map_toArray, List.map_cons, List.map_nil, hs, hxv, hr]
  exact hK _ _ (h A' cap' w' h2 h3 h4)

/-- The same where the operation is guarded, and the guard says yes. -/
theorem wpList_append_mine_g {ops : Array Oper} {rest : List Oper} {o : Oper} {a : Act} {Q : Exit → Act → World → Prop} (hgd : Region.wanted o (yielded ops a.tmps) = true) (s x : Operand) (t : TypeId)
    (ho : o.op = .call { callee := .builtin .append, args := #[s, x], argTypes := #[t, t] })
    (base : Nat) (e : TypeId) (i : TypeInfo) (z : Value) (size bytes : Nat) (ht : P.underlying t = some (.slice e)) (hi : P.info? e = some i) (hz : i.zero = some z)
    (hsize : i.size = size) (hby : i.bytes = bytes) (hzs : z.cells.size = size) (hsz : 0 < size)
    (A : Option Addr) (n cap : Nat) (xs : List Value) (hs : a.eval s = .slice A n cap) (hown : Mine w base size A n cap xs)
    (B : Nat) (X : Option Addr) (m c : Nat) (news : List Value) (hxv : a.eval x = .slice X m c) (hl : news.length = m * size) (hx : Sees w B X news) (h1 : ∀ u ∈ news, u.oneCell' = true)
    (h63 : n + m ≤ maxLen) (hbytes : (n + m) * bytes ≤ 140737488355328) (hbase : base ≤ w.heap.size)
    (h : ∀ A' cap' w', Mine w' base size A' (n + m) cap' (xs ++ news) → w.grownBy w' (A.map (·.block)) → (A'.map (·.block) = A.map (·.block) ∨ ∃ g', A'.map (·.block) = some g' ∧ w.heap.size ≤ g') → wpList P ops Q rest (a.put o.dst (.slice A' (n + m) cap')) w') :
    wpList P ops Q (o :: rest) a w := by
  refine BigFrame.wpList_want hgd fun K hK => ?_
  obtain ⟨A', cap', w', hr, h2, h3, h4⟩ := run_append_mine (P := P) w base t o.type e i z size bytes ht hi hz hsize hby hzs hsz A n cap xs hown B X m c news hl hx h1 h63 hbytes hbase
  unfold Oper.wp execOp
  simp only [ho, resolve, invoke, builtin, Sem.run_bind, Sem.run_pure, Result.andThen_ok, List.map_toArray, List.map_cons, List.map_nil, hs, hxv, hr]
  exact hK _ _ (h A' cap' w' h2 h3 h4)
end

end Go.Proofs.Ytabapkbfolncoaa
