/-
  Words for the laws on joined parts and on cut data.
-/
import Derived.Test.YtabapkbfolncoaaPlainJoin2
import Derived.Test.YtabapkbfolncoaaJoin3
import Derived.Test.YtabapkbfolncoaaDrawPart
namespace Go.Proofs.Ytabapkbfolncoaa
open Go.RowKit

theorem equalInts_b (a a' : Option Addr) (n c c' B B' : Nat) (xs : List Int) (w : World) (hn : xs.length = n) (hb : n ≤ 1048576) (hr : Row .i64 w B a xs) (hr' : Row .i64 w B' a' xs) :
    Calls Try.prog 25 #[.slice a n c, .slice a' n c'] w fun e w' => e = .returned (.bool true) ∧ Below w.heap.size w w' :=
  (equalInts_same a a' n c c' B B' xs w hn hb hr hr').mono fun _ _ ⟨he, q, hq⟩ => ⟨he, by rw [hq]; exact below_drewN (Below.refl _ _) q⟩
theorem equalParts_b (a a' : Option Addr) (n c c' B B' : Nat) (L : List Pt) (w : World) (hn : L.length = n) (hb : n ≤ 1048576) (hx1 : ∀ i, i < L.length → (L.getD i dP).2.2.length ≤ 1048576) (hr : PRow w B a L) (hr' : PRow w B' a' L) :
    Calls Try.prog 32 #[.slice a n c, .slice a' n c'] w fun e w' => e = .returned (.bool true) ∧ Below w.heap.size w w' :=
  (equalParts_same a a' n c c' B B' L w hn hb hx1 hr hr').mono fun _ _ ⟨he, q, hq⟩ => ⟨he, by rw [hq]; exact below_drewN (Below.refl _ _) q⟩
theorem join_len {L : List Pt} : ((joinOf L).getD []).length ≤ 1048576 := by
  cases h : joinOf L with
  | none => simp
  | some xs => have := (join_cut h).1; simp; omega
theorem cut_len6 (xs : List Int) (m : Int) : ∀ i, i < (cutOf xs m).length → ((cutOf xs m).getD i dP).2.2.length ≤ 1048576 := fun i hi => by
  have := (cut_mem (getP_mem hi)).2.2.1
  omega
end Go.Proofs.Ytabapkbfolncoaa
