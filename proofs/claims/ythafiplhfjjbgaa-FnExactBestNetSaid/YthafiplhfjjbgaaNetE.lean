/-
  Lists of nets: the statements' helpers eqNet, eqNetS, toNetS, szNetS.
-/
import Derived.Test.YthafiplhfjjbgaaNetL
import Derived.Test.YthafiplhfjjbgaaNet3
import Derived.Test.YthafiplhfjjbgaaOwn
import Derived.Deep.DrawnRows
namespace Go.Proofs.Ythafiplhfjjbgaa
open Go.RowKit
attribute [local go_sem ↓] Go.wp_at_zero Go.wp_at_succ

/-- A row of nets that is read: its block lies below B. -/
def NRow (w : World) (B : Nat) (a : Option Addr) (L : List (Int × Int)) : Prop :=
  0 < L.length → ∃ b o, a = some ⟨b, o, none⟩ ∧ b < B ∧ ∀ i, i < L.length → w.cell? ⟨b, o + i * 2, none⟩ = some (.int .i64 (L.getD i (0, 0)).1) ∧ w.cell? ⟨b, o + i * 2 + 1, none⟩ = some (.int .i64 (L.getD i (0, 0)).2)
theorem NRow.nil_ {w : World} {B : Nat} {a : Option Addr} : NRow w B a [] := fun h => absurd h (by simp)
theorem NRow.keep {w w' : World} {B : Nat} {a : Option Addr} {L : List (Int × Int)} (h : NRow w B a L) (hc : ∀ b o, b < B → w'.cell? ⟨b, o, none⟩ = w.cell? ⟨b, o, none⟩) : NRow w' B a L := fun hn => by
  obtain ⟨b, o, e, hb, hi⟩ := h hn
  exact ⟨b, o, e, hb, fun i hl => ⟨(hc b _ hb).trans (hi i hl).1, (hc b _ hb).trans (hi i hl).2⟩⟩
theorem NRow.more {w : World} {B B' : Nat} {a : Option Addr} {L : List (Int × Int)} (h : NRow w B a L) (hB : B ≤ B') : NRow w B' a L := fun hn => by
  obtain ⟨b, o, e, hb, hi⟩ := h hn
  exact ⟨b, o, e, by omega, hi⟩
theorem NRow.below {w w' : World} {B : Nat} {a : Option Addr} {L : List (Int × Int)} (h : NRow w B a L) (hb : Below B w w') : NRow w' B a L := h.keep fun b o hlt => hb.cell (p := ⟨b, o, none⟩) hlt
theorem NRow.on {w w' : World} {a : Option Addr} {L : List (Int × Int)} (h : NRow w w.heap.size a L) (hb : Below w.heap.size w w') : NRow w' w'.heap.size a L := (h.below hb).more hb.size

theorem eqNet_same (b s : Int) (w : World) : Calls Try.prog 42 #[.agg #[.int .i64 b, .int .i64 s], .agg #[.int .i64 b, .int .i64 s]] w fun e w' => e = .returned (.bool true) ∧ Below w.heap.size w w' := by
  have HB := Lib.hid (((Below.refl w.heap.size w).alloc (Nat.le_refl _) (.cells #[.int .i64 b, .int .i64 s] 25)).alloc (by simp) (.cells #[.int .i64 b, .int .i64 s] 25))
  go_enter Try.func42, Try.ntmps42
  go_wp2
  go_ret
  exact ⟨rfl, HB.out⟩

set_option maxHeartbeats 1600000 in
theorem eqNetS_same (a a' : Option Addr) (n c c' : Nat) (L : List (Int × Int)) (w : World) (hn : L.length = n) (hb : n ≤ 1048576) (hr : NRow w w.heap.size a L) (hr' : NRow w w.heap.size a' L) :
    Calls Try.prog 23 #[.slice a n c, .slice a' n c'] w fun e w' => e = .returned (.bool true) ∧ Below w.heap.size w w' := by
  go_enter Try.func23, Try.ntmps23
  go_wp2
  go_loopw [5] (fun i wr => ∃ (k : Nat), k ≤ n ∧ i = .int .i64 k ∧ Below w.heap.size w wr) (fun i _ => n - (intOf i).toNat)
  case atStart => exact ⟨0, Nat.zero_le _, rfl, Below.refl _ _⟩
  case round wr =>
    obtain ⟨k, hk, rfl, hbw⟩ := hrel
    by_cases hlt : k < n
    · obtain ⟨b, o, rfl, h9, hc⟩ := hr (by omega)
      obtain ⟨b', o', rfl, h9', hc'⟩ := hr' (by omega)
      have ⟨hcell, hcell1⟩ := hc k (by omega)
      have ⟨hcell', hcell1'⟩ := hc' k (by omega)
      clear hc hc' hr hr'
      obtain ⟨⟨x, y⟩, hx⟩ : ∃ p, p = L.getD k (0, 0) := ⟨_, rfl⟩
      rw [← hx] at hcell hcell' hcell1 hcell1'
      clear hx
      have l1 : (k : Int) < (n : Int) := by omega
      have l2 : (0 : Int) ≤ (k : Int) := by omega
      have H0 := Lib.hid hbw.drew
      obtain ⟨S, f, hne, HF, HI⟩ := cls_of (fun w' => Below w.heap.size w w') hbw
      have k0 : ∀ z, (f z).cell? ⟨b, o + k * 2, none⟩ = some (.int .i64 x) := fun z => ((HF.out z).cell (p := ⟨b, o + k * 2, none⟩) h9).trans hcell
      have k1 : ∀ z, (f z).cell? ⟨b, o + k * 2 + 1, none⟩ = some (.int .i64 y) := fun z => ((HF.out z).cell (p := ⟨b, o + k * 2 + 1, none⟩) h9).trans hcell1
      have k2 : ∀ z, (f z).cell? ⟨b', o' + k * 2, none⟩ = some (.int .i64 x) := fun z => ((HF.out z).cell (p := ⟨b', o' + k * 2, none⟩) h9').trans hcell'
      have k3 : ∀ z, (f z).cell? ⟨b', o' + k * 2 + 1, none⟩ = some (.int .i64 y) := fun z => ((HF.out z).cell (p := ⟨b', o' + k * 2 + 1, none⟩) h9').trans hcell1'
      have c1 := Lib.hid (fun z => cls_call (x := z) HI (fun w' => next (HF.out z)) (eqNet_same x y (f z)))
      clear hcell hcell1 hcell' hcell1'
      go_wp2
      refine wp_region_cls f (by kernel_rfl) (by kernel_rfl) (HI.out _ H0.out) ?_
      repeat (go_big_quiet_step ((first | (go_at_call 42; exact c1.out _))))
      refine wpQuiet_nil ?_
      rintro _ ⟨z, rfl⟩
      have hb2 := HF.out z
      clear k0 k1 k2 k3
      go_wp2
      go_roundw
      case rel => exact ⟨k + 1, by omega, by go_num, hb2⟩
      case measure => simp [intOf]; omega
    · go_wp2
      go_ret
      exact ⟨rfl, hbw⟩
end Go.Proofs.Ythafiplhfjjbgaa
