/-
The walk of the reference's IsSet.
-/
import Derived.Test.YtdbllcphopecjaaT1
namespace Go.Proofs.Ytdbllcphopecjaa
open Go.RowKit
namespace T
/-- A list of numbers from 0 to n - 1, of which none of 'before' comes again. -/
def isSetFrom (n : Int) : List Int → List Int → Bool
  | _, [] => true
  | before, x :: l => decide (0 ≤ x) && (decide (x < n) && (!(before.any (· == x)) && isSetFrom n (before ++ [x]) l))
def isSet (n : Int) (l : List Int) : Bool := isSetFrom n [] l
end T

theorem T.isSet_drop {n : Int} {l : List Int} {k : Nat} {x : Int} (h : l[k]? = some x) :
    T.isSetFrom n (l.take k) (l.drop k) = (decide (0 ≤ x) && (decide (x < n) && (!((l.take k).any (· == x)) && T.isSetFrom n (l.take (k + 1)) (l.drop (k + 1))))) := by
  obtain ⟨hk, e⟩ := List.getElem?_eq_some_iff.1 h
  rw [List.drop_eq_getElem_cons hk, e, List.take_succ_eq_append_getElem hk, e]
  rfl

theorem T.any_take {l : List Int} {k j : Nat} {x y : Int} (hj : j < k) (h : l[j]? = some y) : ((l.take k).drop j).any (· == x) = ((y == x) || ((l.take k).drop (j + 1)).any (· == x)) := by
  have h' : (l.take k)[j]? = some y := by rw [List.getElem?_take, if_pos hj]; exact h
  obtain ⟨hk, e⟩ := List.getElem?_eq_some_iff.1 h'
  rw [List.drop_eq_getElem_cons hk, e]
  rfl
end Go.Proofs.Ytdbllcphopecjaa
