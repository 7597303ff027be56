/-
The walks of the laws CalendarWeeks and CalendarBack.
-/
import Derived.Test.YtnknkjmaaagedaaW6
import Derived.Test.YtnknkjmaaagedaaPlain4
namespace Go.Proofs.Ytnknkjmaaagedaa
open Go.RowKit

set_option maxHeartbeats 1000000 in
theorem law_weeks (a : Int) (w : World) : Calls Try.prog 5 #[.int .i64 a] w fun e w' => e = .returned (.bool true) ∧ Below w.heap.size w w' := by
  by_cases h : 0 ≤ a ∧ a ≤ 99993
  · obtain ⟨h0, h1⟩ := h
    obtain ⟨e1, e2, e3, b0, b1, c1, c2⟩ := Cal.weeks h0 h1
    go_enter Try.func5, Try.ntmps5
    go_wp2_with (first
      | (go_at_call 8; refine (sane_any _).mono ?_; rintro e w1 ⟨rfl, hb⟩)
      | (go_at_call 13; refine (weekday_any _ _).mono ?_; rintro e w2 ⟨rfl, rfl⟩))
    all_goals (go_ret; exact ⟨rfl, hb⟩)
  · go_enter Try.func5, Try.ntmps5
    go_wp2_with (first
      | (go_at_call 8; refine (sane_any _).mono ?_; rintro e w1 ⟨rfl, hb⟩)
      | (go_at_call 13; refine (weekday_any _ _).mono ?_; rintro e w2 ⟨rfl, rfl⟩))
    all_goals first | (exfalso; omega) | (go_ret; exact ⟨rfl, hb⟩)

theorem nz (d : Int) (h : ¬ Cal.okDay d) : Cal.dateE d = 3 := (Cal.no_date h).2.2.2

set_option maxHeartbeats 2000000 in
theorem law_back (a b y m d : Int) (w : World) : Calls Try.prog 4 #[.int .i64 a, .int .i64 b, .int .i64 y, .int .i64 m, .int .i64 d] w fun e w' => e = .returned (.bool true) ∧ Below w.heap.size w w' := by
  have hdate : (Cal.dayE y m d = 0 ∧ Cal.dateY (Cal.dayV y m d) = y ∧ Cal.dateM (Cal.dayV y m d) = m ∧ Cal.dateD (Cal.dayV y m d) = d ∧ Cal.dateE (Cal.dayV y m d) = 0) ∨ Cal.dayE y m d = 3 := by
    by_cases h : Cal.okDate y m d
    · exact .inl ⟨(Cal.yes_day h).2, Cal.back_date h⟩
    · exact .inr (Cal.no_day h).2
  by_cases h : Cal.okDay a
  · obtain ⟨v1, v2, v3⟩ := Cal.back_day h
    have ha : 0 ≤ a ∧ a ≤ 100000 := h
    obtain ⟨ha0, ha1⟩ := ha
    have hb : Cal.dateE b = 3 ∨ (Cal.dateE b = 0 ∧ ¬ a < b) ∨ (Cal.dateE b = 0 ∧ a < b ∧ Cal.dateY a < Cal.dateY b) ∨ (Cal.dateE b = 0 ∧ a < b ∧ Cal.dateY a = Cal.dateY b ∧ Cal.dateM a < Cal.dateM b) ∨
        (Cal.dateE b = 0 ∧ a < b ∧ Cal.dateY a = Cal.dateY b ∧ Cal.dateM a = Cal.dateM b ∧ Cal.dateD a < Cal.dateD b) := by
      by_cases hb : Cal.okDay b
      · have e := (Cal.yes_date hb).2.2.2
        by_cases hlt : a < b
        · rcases Cal.lex h hb hlt with g | ⟨g1, g2⟩ | ⟨g1, g2, g3⟩
          · exact .inr (.inr (.inl ⟨e, hlt, g⟩))
          · exact .inr (.inr (.inr (.inl ⟨e, hlt, g1, g2⟩)))
          · exact .inr (.inr (.inr (.inr ⟨e, hlt, g1, g2, g3⟩)))
        · exact .inr (.inl ⟨e, hlt⟩)
      · exact .inl (nz b hb)
    have HB := Lib.hid hb
    clear hb
    rcases hdate with ⟨f1, f2, f3, f4, f5⟩ | f1
    all_goals
      clear h
      go_enter Try.func4, Try.ntmps4
      go_wp2_with fail
      refine (sane_any _).mono ?_; rintro e w1 ⟨rfl, hb1⟩
      go_wp2_with fail
      refine (date_any _ _).mono ?_; rintro e w2 ⟨rfl, hb2⟩
      go_wp2_with fail
      refine (day_any _ _ _ _).mono ?_; rintro e w3 ⟨rfl, hb3⟩
      go_wp2_with fail
      refine (day_any _ _ _ _).mono ?_; rintro e w4 ⟨rfl, hb4⟩
      go_wp2_with fail
      refine (date_any _ _).mono ?_; rintro e w5 ⟨rfl, hb5⟩
      go_wp2_with fail
      refine (date_any _ _).mono ?_; rintro e w6 ⟨rfl, hb6⟩
      rcases HB.out with e | ⟨e, h1⟩ | ⟨e, h1, h2⟩ | ⟨e, h1, h2, h3⟩ | ⟨e, h1, h2, h3, h4⟩
      all_goals go_wp2_with fail
      all_goals first | (exfalso; omega) | (go_ret; exact ⟨rfl, bel (bel (bel (bel (bel hb1 hb2) hb3) hb4) hb5) hb6⟩)
  · have e0 := nz a h
    have hr : ¬ (0 ≤ a ∧ a ≤ 100000) := h
    rcases hdate with ⟨f1, f2, f3, f4, f5⟩ | f1
    all_goals
      clear h
      go_enter Try.func4, Try.ntmps4
      go_wp2_with fail
      refine (sane_any _).mono ?_; rintro e w1 ⟨rfl, hb1⟩
      go_wp2_with fail
      refine (date_any _ _).mono ?_; rintro e w2 ⟨rfl, hb2⟩
      go_wp2_with fail
      refine (day_any _ _ _ _).mono ?_; rintro e w3 ⟨rfl, hb3⟩
      go_wp2_with fail
      all_goals try (exfalso; omega)
      all_goals (refine (day_any _ _ _ _).mono ?_; rintro e w4 ⟨rfl, hb4⟩)
      all_goals go_wp2_with fail
      all_goals (refine (date_any _ _).mono ?_; rintro e w5 ⟨rfl, hb5⟩)
      all_goals go_wp2_with fail
      all_goals (refine (date_any _ _).mono ?_; rintro e w6 ⟨rfl, hb6⟩)
      all_goals go_wp2_with fail
      all_goals first | (exfalso; omega) | (go_ret; exact ⟨rfl, bel (bel (bel (bel (bel hb1 hb2) hb3) hb4) hb5) hb6⟩)
end Go.Proofs.Ytnknkjmaaagedaa
