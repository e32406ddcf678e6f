/-
  The generator's nets: someNet, anyNet.
-/
import Derived.Test.YtmaecadflilbgaaDraw2
import Derived.Test.YtmaecadflilbgaaOwn
import Derived.Test.YtmaecadflilbgaaNetR
import Derived.Deep.DrawnRows
import Derived.Test.YtmaecadflilbgaaClsTail
import Derived.BigQuiet
namespace Go.Proofs.Ytmaecadflilbgaa
open Go.RowKit
attribute [local go_sem ↓] Go.wp_at_zero Go.wp_at_succ

/-- Two cells of our own. -/
def Two (w : World) (base g : Nat) (x y : Int) : Prop := Mine w base 1 (some ⟨g, 0, none⟩) 2 2 [.int .i64 x, .int .i64 y]
theorem Two.at_ {w : World} {base g : Nat} {x y : Int} (h : Two w base g x y) : w.cell? ⟨g, 0, none⟩ = some (.int .i64 x) ∧ w.cell? ⟨g, 1, none⟩ = some (.int .i64 y) ∧ w.frozen? ⟨g, 0, none⟩ = false ∧ w.frozen? ⟨g, 1, none⟩ = false :=
  ⟨Mine.at0 h (j := 0) (by omega), Mine.at0 h (j := 1) (by omega), (Mine.can0 h (j := 0) (by omega)).2, (Mine.can0 h (j := 1) (by omega)).2⟩
theorem Two.new_at (w : World) (H : Nat) (hH : w.heap.size = H) (t : TypeId) (x y : Int) : Two (w.alloc (.cells #[.int .i64 x, .int .i64 y] t)) H H x y := Mine.new_at w H hH t 1 2 _ rfl (by decide)
theorem Two.lt {w : World} {base g : Nat} {x y : Int} (h : Two w base g x y) : base ≤ g ∧ g < w.heap.size := Mine.lt h rfl
theorem Two.below {w w' : World} {base g : Nat} {x y : Int} (h : Two w base g x y) (hb : Below w.heap.size w w') : Two w' base g x y := Mine.below h hb
theorem Two.alloc {w : World} {base g : Nat} {x y : Int} (h : Two w base g x y) (o : Obj) : Two (w.alloc o) base g x y := Mine.alloc h o
theorem Two.drew {w : World} {base g : Nat} {x y : Int} (h : Two w base g x y) : Two w.drew base g x y := Mine.drewN h 1
theorem Two.mono {w : World} {base base' g : Nat} {x y : Int} (h : Two w base g x y) (hb : base' ≤ base) : Two w base' g x y := Mine.mono h hb
theorem Two.far {w w' : World} {base g R : Nat} {x y : Int} (h : Two w base g x y) (hg : w.grownBy w' (some R)) (hR : R ≠ g) : Two w' base g x y := Mine.kept h hg (fun g' e e' => by simp at e; injection e' with e'; omega)
theorem Two.set0 {w : World} {base g : Nat} {x y : Int} (h : Two w base g x y) (u : Int) : Two (w.setCell ⟨g, 0, none⟩ (.int .i64 u)) base g u y := Mine.set0 h (j := 0) (by omega) (.int .i64 u)
theorem Two.set1 {w : World} {base g : Nat} {x y : Int} (h : Two w base g x y) (u : Int) : Two (w.setCell ⟨g, 1, none⟩ (.int .i64 u)) base g x u := Mine.set0 h (j := 1) (by omega) (.int .i64 u)

/-- What a net's generator leaves. -/
def GaveNet (w : World) (B R P : Nat) (Q : Int → Int → Prop) (e : Ending) (w' : World) : Prop :=
  ∃ b s : Int, e = .returned (.agg #[.int .i64 b, .int .i64 s]) ∧ Q b s ∧ Rd w' B R P ∧ w.grownBy w' (some R)
theorem GaveNet.mk {w w' : World} {B R P : Nat} {Q : Int → Int → Prop} {e : Ending} (b s : Int) (he : e = .returned (.agg #[.int .i64 b, .int .i64 s])) (hQ : Q b s) (hr : Rd w' B R P) (hg : w.grownBy w' (some R)) : GaveNet w B R P Q e w' := ⟨b, s, he, hQ, hr, hg⟩
/-- Writes into a block that is new. -/
theorem only_new {w0 w w' : World} {R g : Nat} (h : w0.grownBy w (some R)) (hg : w.grownBy w' (some g)) (hn : w0.heap.size ≤ g) : w0.grownBy w' (some R) := h.andThen hg (by intro j hj; injection hj with hj; omega)

/-- What stands while a net is made: it, and the result's place. -/
def TwoTwo (w : World) (B R P : Nat) (g : Nat) (x y : Int) (h : Nat) (u v : Int) (w' : World) : Prop := Two w' g g x y ∧ Two w' h h u v ∧ Rd w' B R P ∧ w.grownBy w' (some R)
theorem TwoTwo.step {w w1 w2 : World} {B R P g h : Nat} {x y u v : Int} (H : TwoTwo w B R P g x y h u v w1) (hb : Below w1.heap.size w1 w2) : TwoTwo w B R P g x y h u v w2 :=
  ⟨H.1.below hb, H.2.1.below hb, H.2.2.1.below hb, H.2.2.2.trans (only_of_below hb R)⟩
theorem Rd.drew {w : World} {B R P : Nat} (h : Rd w B R P) : Rd w.drew B R P := h
theorem _root_.Go.World.grownBy.drew' {w w' : World} {r : Option Nat} (h : w.grownBy w' r) : w.grownBy w'.drew r := only_drewN h 1

set_option maxHeartbeats 3200000 in
theorem someNet_any (B R P : Nat) (w : World) (h : Rd w B R P) (hP : P ≤ 800000) :
    Calls Try.prog 40 #[.pointer (some ⟨R, 0, none⟩)] w (GaveNet w B R (P + 6) fun b s => 0 ≤ s ∧ s ≤ 16 ∧ 0 ≤ b ∧ b ≤ 65535) := by
  have hRl := h.lt
  have hlow := h.low
  have HG0 := Lib.hid ((World.grownBy_alloc w (.cells #[.int .i64 0, .int .i64 0] 24) (some R)).trans (World.grownBy_alloc _ (.cells (([8, 12, 16, 4, 0, 15, 9] : List Int).map (Value.int .i64)).toArray 3) (some R)))
  have HT0 := Lib.hid ((Two.new_at w w.heap.size rfl 24 0 0).alloc (.cells (([8, 12, 16, 4, 0, 15, 9] : List Int).map (Value.int .i64)).toArray 3))
  have hr0 := (h.alloc (.cells #[.int .i64 0, .int .i64 0] 24)).alloc (.cells (([8, 12, 16, 4, 0, 15, 9] : List Int).map (Value.int .i64)).toArray 3)
  go_enter Try.func40, Try.ntmps40
  go_wp2_with fail
  refine (one_any B R P (w.heap.size + 1) 0 7 7 [8, 12, 16, 4, 0, 15, 9] _ hr0 (by omega) (by simp) rfl (by omega) (by omega) (by omega) (lit_cells_at _ 3 _ _ (by simp))).mono ?_
  rintro e w1 ⟨s, rfl, hs, r1, g1⟩
  have hs' : 0 ≤ s ∧ s ≤ 16 := by
    simp only [List.mem_cons, List.not_mem_nil, or_false] at hs
    omega
  have G1 := Lib.hid (HG0.out.trans g1)
  have T1 := Lib.hid (HT0.out.far g1 (by omega))
  have hw1 := G1.out.size
  have hw1' := T1.out.lt.2
  have N1 := Lib.hid (Two.new_at w1 w1.heap.size rfl 24 0 s)
  have M1 := Lib.hid (T1.out.alloc (.cells #[.int .i64 0, .int .i64 s] 24))
  have R1 := r1.alloc (.cells #[.int .i64 0, .int .i64 s] 24)
  clear hs g1 hr0 h r1
  go_wp2_with fail
  refine (someWord_any B R (P + 1) _ R1 (by omega)).mono ?_
  rintro e w2 ⟨m, rfl, ⟨m0, m1⟩, r2, g2⟩
  have N2 := N1.out.far g2 (by omega)
  have M2 := Lib.hid (M1.out.far g2 (by omega))
  have G2 := Lib.hid ((G1.out.trans (World.grownBy_alloc w1 _ _)).trans g2)
  have ⟨k0, k1, f0, f1⟩ := N2.at_
  have HN := Lib.hid (N2.set0 m)
  have g3 := only_setCell w2 w1.heap.size 0 (.int .i64 m)
  have HM := Lib.hid (M2.out.far g3 (by omega))
  have HG := Lib.hid (only_new G2.out g3 hw1)
  have HR := Lib.hid (r2.far g3 (by omega) (by omega))
  have hz2 := g2.size
  simp at hz2
  have HZ := Lib.hid g3.size
  clear g2 g3 r2 R1 N2
  have hp := szN_pos s
  have hp2 : ¬ szN s = 0 := by omega
  have hp0 : (szN s == 0) = false := by simp; omega
  have e0 : m.tmod (szN s) = m % szN s := Int.tmod_eq_emod_of_nonneg m0
  have e1 := Int.emod_nonneg m hp2
  have e2 := Int.emod_lt_of_pos m (show 0 < szN s by omega)
  have e3 : m % szN s ≤ m := by have := Int.mul_ediv_add_emod m (szN s); have := Int.mul_nonneg (show 0 ≤ szN s by omega) (Int.ediv_nonneg m0 (show 0 ≤ szN s by omega)); omega
  obtain ⟨r, hr⟩ : ∃ r, r = m % szN s := ⟨_, rfl⟩
  rw [← hr] at e0 e1 e2 e3
  have e4 : IntKind.i64.wrap (m - r) = m - r := wrap_in (by omega)
  have e5 : IntKind.i64.wrap r = r := wrap_in (by omega)
  clear hr
  have ⟨q0, q1, q2, q3⟩ := HN.out.at_
  go_wp2
  have h0 : TwoTwo w B R (P + 1 + 5) w1.heap.size m s w.heap.size 0 0 (w2.setCell ⟨w1.heap.size, 0, none⟩ (.int .i64 m)).drew := ⟨HN.out.drew, HM.out.drew, HR.out.drew, HG.out.drew'⟩
  have H0 := Lib.hid h0
  obtain ⟨S, f, hne, HF, HI⟩ := cls_of (TwoTwo w B R (P + 1 + 5) w1.heap.size m s w.heap.size 0 0) h0
  clear h0 q0 q1 q2 q3 k0 k1 f0 f1
  have k0 : ∀ z, (f z).cell? ⟨w1.heap.size, 0, none⟩ = some (.int .i64 m) := fun z => (HF.out z).1.at_.1
  have k1 : ∀ z, (f z).cell? ⟨w1.heap.size, 1, none⟩ = some (.int .i64 s) := fun z => (HF.out z).1.at_.2.1
  have c1 := Lib.hid (fun z => cls_call (x := z) HI (fun w' => (HF.out z).step) (specsize_any m s (f z) hs'.1 hs'.2))
  refine wp_region_cls_tail f 8 (by kernel_rfl) (by decide) (by kernel_rfl) (by kernel_rfl) (by kernel_rfl) (HI.out _ H0.out) ?_
  simp only [List.take_succ_cons, List.take_zero, List.drop_succ_cons, List.drop_zero]
  repeat (go_big_quiet_step ((first | (go_at_call 30; exact c1.out _))))
  refine wpQuiet_nil ?_
  rintro _ ⟨z, rfl⟩
  obtain ⟨N8, M8, R8, G8⟩ := HF.out z
  generalize f z = w8 at N8 M8 R8 G8 ⊢
  clear k0 k1 c1 HF HI H0
  have ⟨q0, q1, q2, q3⟩ := N8.at_
  have ⟨p0, p1, p2, p3⟩ := M8.at_
  have HN9 := Lib.hid (N8.set0 (m - r))
  have g9 := only_setCell w8 w1.heap.size 0 (.int .i64 (m - r))
  have HM9 := M8.far g9 (by omega)
  have HG9 := Lib.hid (only_new G8 g9 hw1)
  have HR9 := Lib.hid (R8.far g9 (by omega) (by omega))
  clear g9
  go_wp2
  have T := ((HM9.set0 (m - r)).set1 s).at_
  have gA := only_setCell (w8.setCell ⟨w1.heap.size, 0, none⟩ (.int .i64 (m - r))) w.heap.size 0 (.int .i64 (m - r))
  have gB := only_setCell ((w8.setCell ⟨w1.heap.size, 0, none⟩ (.int .i64 (m - r))).setCell ⟨w.heap.size, 0, none⟩ (.int .i64 (m - r))) w.heap.size 1 (.int .i64 s)
  refine bodyPost_ret (v := .agg #[.int .i64 (m - r), .int .i64 s]) (results_two (g := w.heap.size) rfl _ _ _ _ _ rfl T.1 T.2.1 Try.underlying24 rfl (by kernel_rfl)) rfl ?_
  exact .mk _ _ rfl ⟨hs'.1, hs'.2, by omega, by omega⟩ (((HR9.out.far gA (by omega) (by omega)).far gB (by omega) (by omega)).mono (by omega)) (only_new (only_new HG9.out gA (Nat.le_refl _)) gB (Nat.le_refl _))
end Go.Proofs.Ytmaecadflilbgaa
