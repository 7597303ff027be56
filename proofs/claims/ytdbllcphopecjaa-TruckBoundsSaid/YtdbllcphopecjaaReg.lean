/-
Regions that draw their order, whose calls only make memory of their own: one walk serves every order.
-/
import Derived.Test.YtdbllcphopecjaaMem
import Derived.BigQuiet
namespace Go.Proofs.Ytdbllcphopecjaa
open Go.RowKit

/-- A world behind w: of what was there, all stands. -/
structure Beh (w : World) where
  val : World
  property : Below w.heap.size w val

instance (w : World) : Nonempty (Beh w) := ⟨⟨w, Below.refl _ _⟩⟩

theorem Beh.cell {w : World} {a : Addr} {v : Value} (h : w.cell? a = some v) : ∀ i : Beh w, i.val.cell? a = some v := fun i => (i.property.cell (cell_lt h)).trans h

theorem reg_beh {P : Program} {id : Nat} {Q : Exit → Act → World → Prop} {a : Act} {w : World} {l : List Oper} (hm : P.follows .mixedOrders = true) (hB : Region.lexB .any l.toArray = true)
    (h : wpQuiet P l.toArray (fun w' => ∃ i : Beh w, w' = i.val) (fun a' => ∀ w', (∃ i : Beh w, w' = i.val) → Q .normal a' w') l a) : (Code.region id l.toArray true).wp P Q a w :=
  wp_region_quiet (C := fun w' => ∃ i : Beh w, w' = i.val) hm hB ⟨⟨w.drew, (Below.refl _ _).drew⟩, rfl⟩ (by simpa using h)

theorem Beh.calls {P : Program} {f : FuncId} {args : Array Value} {w : World} {i : Beh w} {v : Value} (h : Calls P f args i.val fun e w' => e = .returned v ∧ Below i.val.heap.size i.val w') :
    Calls P f args i.val fun e w'' => e = .returned v ∧ ∃ j : Beh w, w'' = j.val :=
  h.mono fun _ w' ⟨he, hb⟩ => ⟨he, ⟨w', bel i.property hb⟩, rfl⟩

theorem Beh.calls_same {P : Program} {f : FuncId} {args : Array Value} {w : World} {i : Beh w} {v : Value} (h : Calls P f args i.val fun e w' => e = .returned v ∧ i.val = w') :
    Calls P f args i.val fun e w'' => e = .returned v ∧ ∃ j : Beh w, w'' = j.val :=
  h.mono fun _ _ ⟨he, hb⟩ => ⟨he, i, hb.symm⟩
end Go.Proofs.Ytdbllcphopecjaa
