/-
The law CalendarAdds, both ways.
-/
import Derived.Test.YtnknkjmaaagedaaL3
namespace Go.Proofs.Ytnknkjmaaagedaa
open Go.RowKit
theorem law_adds_any (a b m n : Int) (w : World) : Calls Try.prog 7 #[.int .i64 a, .int .i64 b, .int .i64 m, .int .i64 n] w fun e w' => e = .returned (.bool true) ∧ Below w.heap.size w w' := by
  by_cases hm : -5000 ≤ m ∧ m ≤ 5000 ∧ -5000 ≤ n ∧ n ≤ 5000
  · exact law_adds a b m n w hm
  · exact law_adds_out a b m n w hm
end Go.Proofs.Ytnknkjmaaagedaa
