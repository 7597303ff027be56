/-
The law HoursFirst, both ways.
-/
import Derived.Test.YtdbllcphopecjaaHL1
import Derived.Test.YtdbllcphopecjaaHL2
namespace Go.Proofs.Ytdbllcphopecjaa
open Go.RowKit

theorem law_first (A : Option Addr) (n c : Nat) (l : List (Int × Int)) (t s o m : Int) (w : World) (hl : Wins w A n l) :
    Calls Try.prog 8 #[.slice A n c, .int .i64 t, .int .i64 s, .int .i64 o, .int .i64 m] w fun e w' => e = .returned (.bool true) ∧ Below w.heap.size w w' := by
  by_cases h : n ≤ 10 ∧ H.right l = true ∧ (0 ≤ t ∧ t ≤ 1000000) ∧ (0 ≤ s ∧ s ≤ 1000000)
  · exact law_first_in A n c l t s o m w hl h.1 h.2.1 h.2.2.1.1 h.2.2.1.2 h.2.2.2.1 h.2.2.2.2
  · exact law_first_out A n c l t s o m w hl h
end Go.Proofs.Ytdbllcphopecjaa
