/-
The walks of the small functions of the calendar: before, valid, number.
-/
import Derived.Test.YtnknkjmaaagedaaRows
import Derived.Test.YtnknkjmaaagedaaPlain
import Derived.WalkKit
import Derived.WalkSpells
import Derived.WalkLawsBesides
namespace Go.Proofs.Ytnknkjmaaagedaa
open Go.RowKit

theorem ret_int {k : IntKind} {a b : Int} (h : a = b) : Ending.returned (.int k a) = .returned (.int k b) := by rw [h]

set_option maxHeartbeats 400000 in
theorem before_any (m : Int) (w : World) (h0 : 0 ≤ m) (h1 : m ≤ 11) :
    Calls Try.prog 21 #[.int .i64 m] w fun e w' => e = .returned (.int .i64 ((153 * m + 2) / 5)) ∧ Below w.heap.size w w' := by
  have h : m = 0 ∨ m = 1 ∨ m = 2 ∨ m = 3 ∨ m = 4 ∨ m = 5 ∨ m = 6 ∨ m = 7 ∨ m = 8 ∨ m = 9 ∨ m = 10 ∨ m = 11 := by omega
  clear h0 h1
  rcases h with rfl | rfl | rfl | rfl | rfl | rfl | rfl | rfl | rfl | rfl | rfl | rfl
  all_goals
    go_enter Try.func21, Try.ntmps21
    go_wp2
    go_ret
    exact ⟨rfl, (Below.refl _ _).alloc (Nat.le_refl _) _⟩
#print axioms before_any
end Go.Proofs.Ytnknkjmaaagedaa
