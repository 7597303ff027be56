/-
The walks of Day, Add and Month of the program.
-/
import Derived.Test.YtnknkjmaaagedaaW3
import Derived.Test.YtnknkjmaaagedaaPlain3
import Derived.Lib.Hide
namespace Go.Proofs.Ytnknkjmaaagedaa
open Go.RowKit

theorem date_any (d : Int) (w : World) :
    Calls Try.prog 9 #[.int .i64 d] w fun e w' => e = .returned (.tuple #[.int .i64 (Cal.dateY d), .int .i64 (Cal.dateM d), .int .i64 (Cal.dateD d), .int .i64 (Cal.dateE d)]) ∧ Below w.heap.size w w' := by
  by_cases h : Cal.okDay d
  · obtain ⟨a, b, c, e⟩ := Cal.yes_date h
    rw [a, b, c, e]
    exact date_yes d w h.1 h.2
  · obtain ⟨a, b, c, e⟩ := Cal.no_date h
    rw [a, b, c, e]
    exact (date_no d w (by unfold Cal.okDay at h; omega)).mono fun _ _ ⟨h1, h2⟩ => ⟨h1, h2 ▸ Below.refl _ _⟩

theorem weekday_any (d : Int) (w : World) :
    Calls Try.prog 13 #[.int .i64 d] w fun e w' => e = .returned (.tuple #[.int .i64 (Cal.wdV d), .int .i64 (Cal.dateE d)]) ∧ w = w' := by
  by_cases h : Cal.okDay d
  · rw [(Cal.yes_date h).2.2.2, show Cal.wdV d = (d + 5) % 7 by simp [Cal.wdV, h]]
    exact weekday_yes d w h.1 h.2
  · rw [(Cal.no_date h).2.2.2, show Cal.wdV d = 0 by simp [Cal.wdV, h]]
    exact weekday_no d w (by unfold Cal.okDay at h; omega)

set_option maxHeartbeats 1000000 in
theorem day_yes (y m d : Int) (w : World) (h : Cal.okDate y m d) :
    Calls Try.prog 11 #[.int .i64 y, .int .i64 m, .int .i64 d] w fun e w' => e = .returned (.tuple #[.int .i64 (Cal.first (12 * y + m - 1) + d - 1), .int .i64 0]) ∧ Below w.heap.size w w' := by
  obtain ⟨hk, e1, e2, e3, _⟩ := Cal.ok_same h
  have e4 := (Cal.yes_date hk).2.2.2
  obtain ⟨a1, a2, b1, b2, c1, c2, c3⟩ := h
  have s1 := Cal.first_step (12 * y + m - 1)
  rw [show 12 * y + m - 1 + 1 = 12 * y + m by omega] at s1
  have d1 : d ≤ 31 := by omega
  clear s1 c2 c3 hk
  have E1 := Lib.hid e1; have E2 := Lib.hid e2; have E3 := Lib.hid e3; have E4 := Lib.hid e4
  clear e1 e2 e3 e4
  go_enter Try.func11, Try.ntmps11
  go_wp2_with (first
    | (go_at_call 24; refine (number_any y m d _ (by omega) (by omega) (by omega) (by omega) (by omega) (by omega)).mono ?_; rintro e w1 ⟨rfl, hb⟩)
    | (go_at_call 9; refine (date_any _ _).mono ?_; rw [E1.out, E2.out, E3.out, E4.out]; rintro e w2 ⟨rfl, hb2⟩))
  go_ret2
  exact ⟨rfl, bel hb hb2⟩

set_option maxHeartbeats 1000000 in
theorem day_no (y m d : Int) (w : World) (h : ¬ Cal.okDate y m d) :
    Calls Try.prog 11 #[.int .i64 y, .int .i64 m, .int .i64 d] w fun e w' => e = .returned (.tuple #[.int .i64 0, .int .i64 3]) ∧ Below w.heap.size w w' := by
  by_cases hr : 2000 ≤ y ∧ y ≤ 2300 ∧ 1 ≤ m ∧ m ≤ 12 ∧ 1 ≤ d ∧ d ≤ 31
  · obtain ⟨a1, a2, b1, b2, c1, c2⟩ := hr
    have H := Lib.hid h
    clear h
    go_enter Try.func11, Try.ntmps11
    go_wp2_with (first
      | (go_at_call 24; refine (number_any y m d _ (by omega) (by omega) (by omega) (by omega) (by omega) (by omega)).mono ?_; rintro e w1 ⟨rfl, hb⟩)
      | (go_at_call 9; refine (date_any _ _).mono ?_; rintro e w2 ⟨rfl, hb2⟩))
    all_goals go_ret2
    all_goals first
      | exact ⟨rfl, bel hb hb2⟩
      | exact absurd (Cal.same_date ⟨a1, a2⟩ ⟨b1, b2⟩ ⟨c1, c2⟩ (Cal.ok_of_E (by assumption)) (by assumption) (by assumption) (by simp at *; assumption)) H.out
  · go_enter Try.func11, Try.ntmps11
    go_wp2_with fail
    all_goals (first | (exfalso; omega) | (go_ret2; exact ⟨rfl, Below.refl _ _⟩))

theorem day_any (y m d : Int) (w : World) :
    Calls Try.prog 11 #[.int .i64 y, .int .i64 m, .int .i64 d] w fun e w' => e = .returned (.tuple #[.int .i64 (Cal.dayV y m d), .int .i64 (Cal.dayE y m d)]) ∧ Below w.heap.size w w' := by
  by_cases h : Cal.okDate y m d
  · rw [(Cal.yes_day h).1, (Cal.yes_day h).2]; exact day_yes y m d w h
  · rw [(Cal.no_day h).1, (Cal.no_day h).2]; exact day_no y m d w h

end Go.Proofs.Ytnknkjmaaagedaa
