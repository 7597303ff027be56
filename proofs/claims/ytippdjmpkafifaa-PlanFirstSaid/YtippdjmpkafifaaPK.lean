/-
Routes: the search for the best tour, in plain terms.
-/
import Derived.Test.YtippdjmpkafifaaPJ
namespace Go.Proofs.Ytippdjmpkafifaa
open Go.RowKit

namespace K
/-- A truck on its way: what it has served, where and when it is, the stops and their minutes. -/
structure St where
  bits : Nat
  a : Int
  t : Int
  stops : List Int
  times : List Int
/-- Whether the best tour so far ends at this minute or earlier. -/
def late (best : Option Tr) (t : Int) : Bool := match best with | none => false | some b => decide (b.end_ ≤ t)
/-- Whether a tour that ends at this minute is better. -/
def better (best : Option Tr) (e : Int) : Bool := match best with | none => true | some b => decide (e < b.end_)
/-- The way back, if the tour ends earlier than the best one so far. -/
def home (nd : Int) (l : List Ro) (s : S) (r : List Q) (v : List Int) (st : St) (best : Option Tr) : Option Tr :=
  if way nd l st.a (T.weight s r (part v st.bits)) s.depot ≠ -1 ∧ st.t + way nd l st.a (T.weight s r (part v st.bits)) s.depot ≤ s.end_ ∧ better best (st.t + way nd l st.a (T.weight s r (part v st.bits)) s.depot) = true
  then some ⟨st.stops, st.times, st.t + way nd l st.a (T.weight s r (part v st.bits)) s.depot⟩ else best
/-- The state behind one more request. -/
def onward (nd : Int) (l : List Ro) (s : S) (r : List Q) (v : List Int) (st : St) (i : Nat) (k : Int) : Option St :=
  if st.bits.testBit i = true then none
  else if way nd l st.a (T.weight s r (part v st.bits)) (req r k).node = -1 then none
  else if (begins s r (req r k) (part v (st.bits + 2 ^ i)) (st.t + way nd l st.a (T.weight s r (part v st.bits)) (req r k).node)).2 = false then none
  else some ⟨st.bits + 2 ^ i, (req r k).node, (begins s r (req r k) (part v (st.bits + 2 ^ i)) (st.t + way nd l st.a (T.weight s r (part v st.bits)) (req r k).node)).1 + (req r k).service,
    st.stops ++ [k], st.times ++ [(begins s r (req r k) (part v (st.bits + 2 ^ i)) (st.t + way nd l st.a (T.weight s r (part v st.bits)) (req r k).node)).1]⟩
/-- The search, 'fuel' requests deep. -/
def seek (nd : Int) (l : List Ro) (s : S) (r : List Q) (v : List Int) : Nat → St → Option Tr → Option Tr
  | 0, _, best => best
  | f + 1, st, best =>
    if late best st.t = true then best
    else if st.bits = 2 ^ v.length - 1 then home nd l s r v st best
    else go (seek nd l s r v f) nd l s r v st best 0 v
where
  /-- All elements from place i on. -/
  go (rec : St → Option Tr → Option Tr) (nd : Int) (l : List Ro) (s : S) (r : List Q) (v : List Int) (st : St) (best : Option Tr) (i : Nat) : List Int → Option Tr
    | [] => best
    | k :: rest => match onward nd l s r v st i k with
      | none => go rec nd l s r v st best (i + 1) rest
      | some st' => go rec nd l s r v st (rec st' best) (i + 1) rest
/-- The best tour. -/
def best (nd : Int) (l : List Ro) (s : S) (r : List Q) (v : List Int) : Option Tr := seek nd l s r v (2 ^ v.length) ⟨0, s.depot, s.start, [], []⟩ none
end K
end Go.Proofs.Ytippdjmpkafifaa
