/-
  A region that draws its order, whose operations read and whose callees only make memory: walked once, in the order of the text, over a class of worlds in which what is read stands.
-/
import Derived.Test.YtabapkbfolncoaaMem
namespace Go.Proofs.Ytabapkbfolncoaa
open Go.RowKit

theorem wp_region_cls {P : Program} {S : Type} (f : S → World) {id : Nat} {Q : Exit → Act → World → Prop} {a : Act} {w : World} {l : List Oper} (hm : P.follows .mixedOrders = true) (hB : Region.lexB .any l.toArray = true)
    (hC : ∃ x, w.drew = f x) (h : wpQuiet P l.toArray (fun w' => ∃ x, w' = f x) (fun a' => ∀ w', (∃ x, w' = f x) → Q .normal a' w') l a) : (Code.region id l.toArray true).wp P Q a w :=
  wp_region_quiet (C := fun w' => ∃ x, w' = f x) hm hB hC (by simpa using h)

/-- The class of the worlds at which F holds, told by a function whose text is out of sight. -/
theorem cls_of (F : World → Prop) {w0 : World} (h0 : F w0) : ∃ (S : Type) (f : S → World), Nonempty S ∧ Hid (∀ x, F (f x)) ∧ Hid (∀ w', F w' → ∃ x, w' = f x) :=
  ⟨{w' // F w'}, Subtype.val, ⟨⟨w0, h0⟩⟩, fun x => x.2, fun w' h => ⟨⟨w', h⟩, rfl⟩⟩

/-- A callee that makes memory and writes nothing that was there. -/
theorem cls_call {P : Program} {S : Type} {f : S → World} {F : World → Prop} {g : FuncId} {args : Array Value} {v : Value} {x : S} (HI : Hid (∀ w', F w' → ∃ x, w' = f x))
    (hk : ∀ w', Below (f x).heap.size (f x) w' → F w') (h : Calls P g args (f x) fun e w' => e = .returned v ∧ Below (f x).heap.size (f x) w') :
    Calls P g args (f x) fun e w'' => e = .returned v ∧ ∃ y, w'' = f y := h.mono fun _ w' ⟨he, hb⟩ => ⟨he, HI.out w' (hk w' hb)⟩
/-- A callee that leaves the world as it was. -/
theorem cls_same {P : Program} {S : Type} {f : S → World} {g : FuncId} {args : Array Value} {v : Value} {x : S}
    (h : Calls P g args (f x) fun e w' => e = .returned v ∧ f x = w') : Calls P g args (f x) fun e w'' => e = .returned v ∧ ∃ y, w'' = f y := h.mono fun _ _ ⟨he, hw⟩ => ⟨he, x, hw.symm⟩

end Go.Proofs.Ytabapkbfolncoaa
