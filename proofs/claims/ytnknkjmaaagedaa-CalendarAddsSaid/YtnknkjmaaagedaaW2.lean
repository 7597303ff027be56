/-
The walks of valid, number and Weekday.
-/
import Derived.Test.YtnknkjmaaagedaaW1
namespace Go.Proofs.Ytnknkjmaaagedaa
open Go.RowKit

theorem bel {w w1 w2 : World} (a : Below w.heap.size w w1) (b : Below w1.heap.size w1 w2) : Below w.heap.size w w2 := a.trans (b.mono a.size)

set_option maxHeartbeats 400000 in
theorem valid_yes (d : Int) (w : World) (h0 : 0 ≤ d) (h1 : d ≤ 100000) :
    Calls Try.prog 20 #[.int .i64 d] w fun e w' => e = .returned (.bool true) ∧ w = w' := by
  go_enter Try.func20, Try.ntmps20
  go_wp2
  go_ret
  exact ⟨rfl, rfl⟩

set_option maxHeartbeats 400000 in
theorem valid_no (d : Int) (w : World) (h0 : d < 0 ∨ 100000 < d) :
    Calls Try.prog 20 #[.int .i64 d] w fun e w' => e = .returned (.bool false) ∧ w = w' := by
  rcases h0 with h0 | h0
  · go_enter Try.func20, Try.ntmps20
    go_wp2
    go_ret
    exact ⟨rfl, rfl⟩
  · have h1 : 0 ≤ d := by omega
    have h2 : decide (d ≤ 100000) = false := by simp; omega
    go_enter Try.func20, Try.ntmps20
    go_wp2
    go_ret
    exact ⟨rfl, rfl⟩

set_option maxHeartbeats 400000 in
theorem number_any (y m d : Int) (w : World) (h0 : 1 ≤ m) (h1 : m ≤ 12) (h2 : 1 ≤ y) (h3 : y ≤ 10000) (h4 : 0 ≤ d) (h5 : d ≤ 1000) :
    Calls Try.prog 24 #[.int .i64 y, .int .i64 m, .int .i64 d] w fun e w' => e = .returned (.int .i64 (Cal.first (12 * y + m - 1) + d - 1)) ∧ Below w.heap.size w w' := by
  by_cases hm : m < 3
  · go_enter Try.func24, Try.ntmps24
    go_wp2_with (go_at_call 21; refine (before_any _ _ (by omega) (by omega)).mono ?_; rintro e w' ⟨rfl, hb⟩)
    go_ret
    exact ⟨ret_int (Cal.first_lo y m d h0 hm), hb⟩
  · go_enter Try.func24, Try.ntmps24
    go_wp2_with (go_at_call 21; refine (before_any _ _ (by omega) (by omega)).mono ?_; rintro e w' ⟨rfl, hb⟩)
    go_ret
    exact ⟨ret_int (Cal.first_hi y m d (by omega) h1), hb⟩

set_option maxHeartbeats 400000 in
theorem weekday_yes (d : Int) (w : World) (h0 : 0 ≤ d) (h1 : d ≤ 100000) :
    Calls Try.prog 13 #[.int .i64 d] w fun e w' => e = .returned (.tuple #[.int .i64 ((d + 5) % 7), .int .i64 0]) ∧ w = w' := by
  go_enter Try.func13, Try.ntmps13
  go_wp2_with (go_at_call 20; refine (valid_yes _ _ h0 h1).mono ?_; rintro e w' ⟨rfl, rfl⟩)
  go_ret2
  exact ⟨rfl, rfl⟩

set_option maxHeartbeats 400000 in
theorem weekday_no (d : Int) (w : World) (h0 : d < 0 ∨ 100000 < d) :
    Calls Try.prog 13 #[.int .i64 d] w fun e w' => e = .returned (.tuple #[.int .i64 0, .int .i64 3]) ∧ w = w' := by
  go_enter Try.func13, Try.ntmps13
  go_wp2_with (go_at_call 20; refine (valid_no _ _ h0).mono ?_; rintro e w' ⟨rfl, rfl⟩)
  go_ret2
  exact ⟨rfl, rfl⟩
end Go.Proofs.Ytnknkjmaaagedaa
