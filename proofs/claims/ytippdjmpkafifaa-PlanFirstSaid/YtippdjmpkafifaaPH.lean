/-
Routes: parts and labels by their numbers, as the statements read them.
-/
import Derived.Test.YtippdjmpkafifaaPG
namespace Go.Proofs.Ytippdjmpkafifaa
open Go.RowKit

namespace K
/-- The minute of the label with these numbers, or -1. -/
def atLab (bits last : Int) : List Lb → Int
  | [] => -1
  | x :: l => if x.set = bits ∧ x.last = last then x.time else atLab bits last l
theorem atLab_drop {bits last : Int} {l : List Lb} {k : Nat} {x : Lb} (h : l[k]? = some x) : atLab bits last (l.drop k) = if x.set = bits ∧ x.last = last then x.time else atLab bits last (l.drop (k + 1)) := by
  obtain ⟨hk, e⟩ := List.getElem?_eq_some_iff.1 h
  rw [List.drop_eq_getElem_cons hk, e]
  rfl
end K

end Go.Proofs.Ytippdjmpkafifaa
