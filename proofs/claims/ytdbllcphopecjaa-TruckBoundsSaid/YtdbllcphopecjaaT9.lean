/-
The walk of the reference's Few.
-/
import Derived.Test.YtdbllcphopecjaaT1
namespace Go.Proofs.Ytdbllcphopecjaa
open Go.RowKit
namespace T
def few (s : S) (r : List Q) (most : Nat) : Bool := !((r.take (most + 1)).any fun q => decide (10 < q.n)) && (decide (s.n ≤ 6) && decide (r.length ≤ most))
end T

theorem T.few_take {r : List Q} {m k : Nat} {q : Q} (hk : k < m) (h : r[k]? = some q) (p : Q → Bool) : ((r.take m).drop k).any p = (p q || ((r.take m).drop (k + 1)).any p) := by
  have h' : (r.take m)[k]? = some q := by rw [List.getElem?_take, if_pos hk]; exact h
  obtain ⟨hk, e⟩ := List.getElem?_eq_some_iff.1 h'
  rw [List.drop_eq_getElem_cons hk, e]
  rfl
end Go.Proofs.Ytdbllcphopecjaa
