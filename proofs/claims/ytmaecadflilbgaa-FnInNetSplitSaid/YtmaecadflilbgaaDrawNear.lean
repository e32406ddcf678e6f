/-
  The generator's addresses: addrNear.
-/
import Derived.Test.YtmaecadflilbgaaDrawNet2
import Derived.Test.YtmaecadflilbgaaNet2
namespace Go.Proofs.Ytmaecadflilbgaa
open Go.RowKit
attribute [local go_sem ↓] Go.wp_at_zero Go.wp_at_succ

set_option maxHeartbeats 6400000 in
theorem addrNear_any (B R P : Nat) (b s : Int) (w : World) (h : Rd w B R P) (hP : P ≤ 700000) (hb0 : 0 ≤ b) (hb1 : b ≤ 131071) :
    Calls Try.prog 36 #[.pointer (some ⟨R, 0, none⟩), .agg #[.int .i64 b, .int .i64 s]] w (Picked w B R (P + 7) fun m => -1 ≤ m ∧ m ≤ 262144) := by
  have hRl := h.lt
  have hlow := h.low
  have T0 := Two.new_at w w.heap.size rfl 24 b s
  have R0 := h.alloc (.cells #[.int .i64 b, .int .i64 s] 24)
  have G0 := World.grownBy_alloc w (.cells #[.int .i64 b, .int .i64 s] 24) (some R)
  clear h
  go_enter Try.func36, Try.ntmps36
  go_wp2_with fail
  refine (specvalidNet_any b s _).mono ?_
  rintro e w1 ⟨rfl, b1⟩
  have T1 := T0.below b1
  have R1 := R0.below b1
  have G1 := G0.trans (only_of_below b1 R)
  clear T0 R0 G0 b1
  cases hv : vN b s
  · clear hv
    go_wp2_with fail
    refine (someWord_any B R P _ R1 (by omega)).mono ?_
    rintro e w2 ⟨m, rfl, ⟨m0, m1⟩, r2, g2⟩
    have G2 := Lib.hid (G1.trans g2)
    clear T1 R1 G1 g2
    go_wp2
    go_ret
    exact .mk m rfl ⟨by omega, by omega⟩ (r2.mono (by omega)) G2.out
  · have ⟨x0, x9⟩ := inR_iff.1 (vN_word hv)
    have ⟨y0, y9⟩ := inR_iff.1 (vN_bits hv)
    clear hv
    have hp := szN_pos s
    have hq := szN_le y0
    have hp2 : ¬ szN s = 0 := by omega
    have hp0 : (szN s == 0) = false := by simp; omega
    have e1 : IntKind.i64.wrap (b + szN s) = b + szN s := wrap_in (by omega)
    have e2 : IntKind.i64.wrap (b + szN s - 1) = b + szN s - 1 := wrap_in (by omega)
    have e3 : IntKind.i64.wrap (b - 1) = b - 1 := wrap_in (by omega)
    have ⟨q0, q1, _, _⟩ := T1.at_
    have T1' := T1.drew
    have R1' := R1.drew
    have G1' := G1.drew'
    clear T1 R1 G1
    go_wp2
    go_region_held3 (fun w' => w'.cell? ⟨w.heap.size, 0, none⟩ = some (.int .i64 b) ∧ w'.cell? ⟨w.heap.size, 1, none⟩ = some (.int .i64 s)) (go_keep)
      (first
      | (go_at_call 30; refine (specsize_any b s _ y0 y9).mono ?_; rintro e w6 ⟨rfl, b6⟩; have T6 := Two.below (by assumption) b6; have R6 := Rd.below (by assumption) b6; have G6 := World.grownBy.trans (by assumption) (only_of_below b6 R); have ⟨q0, q1, _, _⟩ := T6.at_)
      | (go_at_call 29; refine (pick_any B R _ 250 _ (by assumption) (by omega)).mono ?_; rintro e w7 ⟨m, rfl, ⟨m0, m1⟩, R7, g7⟩; have T7 := Two.far (by assumption) g7 (by omega); have G7 := World.grownBy.trans (by assumption) g7; have ⟨q0, q1, _, _⟩ := T7.at_; have f0 : m.tmod (szN s) = m % szN s := Int.tmod_eq_emod_of_nonneg m0; have f1 := Int.emod_nonneg m hp2; have f2 := Int.emod_lt_of_pos m (show 0 < szN s by omega); have f3 : IntKind.i64.wrap (m % szN s) = m % szN s := wrap_in (by omega); have f4 : IntKind.i64.wrap (b + m % szN s) = b + m % szN s := wrap_in (by omega))
      | (go_at_call 38; refine (someWord_any B R _ _ (by assumption) (by omega)).mono ?_; rintro e w8 ⟨u, rfl, ⟨u0, u1⟩, R8, g8⟩; have T8 := Two.far (by assumption) g8 (by omega); have G8 := World.grownBy.trans (by assumption) g8; have ⟨q0, q1, _, _⟩ := T8.at_)
      | (go_at_call 39; refine (one_any B R _ w8.heap.size 0 6 6 [b, b + szN s - 1, b + m % szN s, b - 1, b + szN s, u] _ (R8.alloc _) (by have := R8.lt; omega) (by simp) rfl (by omega) (by omega) (by omega) (lit_cells w8 3 _)).mono ?_; rintro e w9 ⟨v, rfl, hv, R9, g9⟩; have T9 := Two.far (T8.alloc (.cells (([b, b + szN s - 1, b + m % szN s, b - 1, b + szN s, u] : List Int).map (Value.int .i64)).toArray 3)) g9 (by omega); have ⟨q0, q1, _, _⟩ := T9.at_))
    all_goals go_wp2
    all_goals go_ret
    all_goals (
      have hv' : -1 ≤ v ∧ v ≤ 262144 := by
        simp only [List.mem_cons, List.not_mem_nil, or_false] at hv
        omega
      exact .mk v rfl hv' (R9.mono (by omega)) ((G8.trans (World.grownBy_alloc w8 _ _)).trans g9))
end Go.Proofs.Ytmaecadflilbgaa
