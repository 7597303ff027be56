/-
Routes: small cases; and orders of a set.
-/
import Derived.Test.YtippdjmpkafifaaPI
namespace Go.Proofs.Ytippdjmpkafifaa
open Go.RowKit

namespace K
def size31 (n : Nat) : Bool := decide (n ≤ 4) || (decide (6 < n) && decide (n ≤ 20))
def few31 (nd : Int) (n : Nat) (s : S) (r : List Q) (vn : Nat) : Bool := few30 nd n s r && size31 vn
/-- Whether an order has exactly the elements of a set. -/
def inSet (o v : List Int) : Bool := (o.length == v.length) && (T.isSet 1000 o && v.all fun x => o.any (· == x))
end K

end Go.Proofs.Ytippdjmpkafifaa
