/-
The walk of hours.Both.
-/
import Derived.Test.YtdbllcphopecjaaH3
import Derived.Test.YtdbllcphopecjaaMem2
import Derived.Deep.DeepCutAuto
namespace Go.Proofs.Ytdbllcphopecjaa
open Go.RowKit

theorem inter_at {xo xc yo yc o c : Int} (h1 : max xo yo = o) (h2 : min xc yc = c) : H.inter (xo, xc) (yo, yc) = if o ≤ c then some (o, c) else none := by
  simp only [H.inter, h1, h2]

/-- The loop of Both: what holds of the list that grows, at the inner loop's head. -/
def BothIn (w3 : World) (base : Nat) (r3 : Option Nat) (n : Nat) (l : List (Int × Int)) (v : Value) (wr : World) : Prop :=
  wr.ownsRow base 56 2 v l.length (winCells l) ∧ w3.grownBy wr r3 ∧ (v.ownBlock = r3 ∨ v.ownBlock = none ∨ ∃ g, v.ownBlock = some g ∧ w3.heap.size ≤ g) ∧ l.length ≤ n

theorem BothIn.start {w3 : World} {base n : Nat} {l : List (Int × Int)} {v : Value} (h : w3.ownsRow base 56 2 v l.length (winCells l)) (hn : l.length ≤ n) : BothIn w3 base v.ownBlock n l v w3 :=
  ⟨h, grow_refl _ _, .inl rfl, hn⟩
end Go.Proofs.Ytdbllcphopecjaa
