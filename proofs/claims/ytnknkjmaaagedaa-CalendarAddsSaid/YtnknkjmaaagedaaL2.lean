/-
The walks of the laws CalendarMonths and CalendarAdds.
-/
import Derived.Test.YtnknkjmaaagedaaL1
namespace Go.Proofs.Ytnknkjmaaagedaa
open Go.RowKit

theorem ret_bool {x : Bool} (h : x = true) : Ending.returned (.bool x) = .returned (.bool true) := by rw [h]

set_option maxHeartbeats 2000000 in
theorem law_months (a b : Int) (w : World) : Calls Try.prog 6 #[.int .i64 a, .int .i64 b] w fun e w' => e = .returned (.bool true) ∧ Below w.heap.size w w' := by
  by_cases h : Cal.okDay a
  · obtain ⟨_, d1, e1, e0, g1, g2, g3, g4, g5, _, g6⟩ := Cal.months_one h
    have ha : 0 ≤ a ∧ a ≤ 100000 := h
    obtain ⟨ha0, ha1⟩ := ha
    have hb : Cal.dateE b = 3 ∨ (Cal.dateE b = 0 ∧ Cal.monF a ≤ b ∧ b ≤ Cal.monL a ∧ Cal.monF b = Cal.monF a ∧ Cal.monL b = Cal.monL a) ∨ (Cal.dateE b = 0 ∧ ¬ (Cal.monF a ≤ b ∧ b ≤ Cal.monL a) ∧ (Cal.monL a < Cal.monF b ∨ Cal.monL b < Cal.monF a)) := by
      by_cases hb : Cal.okDay b
      · have e := (Cal.yes_date hb).2.2.2
        have t := Cal.months_two h hb
        by_cases hin : Cal.monF a ≤ b ∧ b ≤ Cal.monL a
        · exact .inr (.inl ⟨e, hin.1, hin.2, t.1 hin⟩)
        · exact .inr (.inr ⟨e, hin, t.2 hin⟩)
      · exact .inl (nz b hb)
    have HB := Lib.hid hb
    clear hb
    by_cases hl : Cal.monL a < 100000
    · obtain ⟨n1, n2, _⟩ := Cal.months_next h hl
      have g5' := g5 hl
      clear h g5
      go_enter Try.func6, Try.ntmps6
      go_wp2_with fail
      refine (sane_any _).mono ?_; rintro e w1 ⟨rfl, hb1⟩
      go_wp2_with fail
      refine (month_any _ _).mono ?_; rintro e w2 ⟨rfl, hb2⟩
      go_wp2_with fail
      refine (date_any _ _).mono ?_; rintro e w3 ⟨rfl, hb3⟩
      go_wp2_with fail
      refine (month_any _ _).mono ?_; rintro e w4 ⟨rfl, hb4⟩
      go_wp2_with fail
      refine (month_any _ _).mono ?_; rintro e w5 ⟨rfl, hb5⟩
      rcases HB.out with e | ⟨e, h1, h2, h3, h4⟩ | ⟨e, h1, h2⟩
      all_goals go_wp2_with fail
      all_goals first | (exfalso; omega) | (go_ret; exact ⟨rfl, bel (bel (bel (bel hb1 hb2) hb3) hb4) hb5⟩) | (go_ret; exact ⟨ret_bool (by simp; omega), bel (bel (bel (bel hb1 hb2) hb3) hb4) hb5⟩)
    · clear h g5
      go_enter Try.func6, Try.ntmps6
      go_wp2_with fail
      refine (sane_any _).mono ?_; rintro e w1 ⟨rfl, hb1⟩
      go_wp2_with fail
      refine (month_any _ _).mono ?_; rintro e w2 ⟨rfl, hb2⟩
      go_wp2_with fail
      refine (date_any _ _).mono ?_; rintro e w3 ⟨rfl, hb3⟩
      go_wp2_with fail
      refine (month_any _ _).mono ?_; rintro e w5 ⟨rfl, hb5⟩
      rcases HB.out with e | ⟨e, h1, h2, h3, h4⟩ | ⟨e, h1, h2⟩
      all_goals go_wp2_with fail
      all_goals first | (exfalso; omega) | (go_ret; exact ⟨rfl, bel (bel (bel hb1 hb2) hb3) hb5⟩) | (go_ret; exact ⟨ret_bool (by simp; omega), bel (bel (bel hb1 hb2) hb3) hb5⟩)
  · have e0 := nz a h
    obtain ⟨f0, l0⟩ := Cal.no_mon h
    have hr : ¬ (0 ≤ a ∧ a ≤ 100000) := h
    clear h
    go_enter Try.func6, Try.ntmps6
    go_wp2_with fail
    refine (sane_any _).mono ?_; rintro e w1 ⟨rfl, hb1⟩
    go_wp2_with fail
    refine (month_any _ _).mono ?_; rintro e w2 ⟨rfl, hb2⟩
    go_wp2_with fail
    all_goals first | (exfalso; omega) | (go_ret; exact ⟨rfl, bel hb1 hb2⟩)

end Go.Proofs.Ytnknkjmaaagedaa
