/-
The walk of the law CalendarAdds.
-/
import Derived.Test.YtnknkjmaaagedaaL2
namespace Go.Proofs.Ytnknkjmaaagedaa
open Go.RowKit

set_option maxRecDepth 100000 in
set_option maxHeartbeats 4000000 in
theorem law_adds (a b m n : Int) (w : World) (hm : -5000 ≤ m ∧ m ≤ 5000 ∧ -5000 ≤ n ∧ n ≤ 5000) :
    Calls Try.prog 7 #[.int .i64 a, .int .i64 b, .int .i64 m, .int .i64 n] w fun e w' => e = .returned (.bool true) ∧ Below w.heap.size w w' := by
  obtain ⟨m0, m1, n0, n1⟩ := hm
  by_cases h : Cal.okDay a
  · have e0 := (Cal.yes_date h).2.2.2
    by_cases ho : Cal.okAdd a m
    · obtain ⟨v1, v2⟩ := Cal.yes_add ho
      obtain ⟨t1, t2, t3⟩ := Cal.adds_one ho
      have t4 : Cal.dateE (Cal.plus a m) = 0 := t1
      have bd := Cal.date_bounds a
      obtain ⟨bd1, bd2, bd3, bd4, bd5, bd6⟩ := bd
      obtain ⟨bx1, bx2, bx3, bx4, bx5, bx6⟩ := Cal.date_bounds (Cal.plus a m)
      have t3' : Cal.dateD (Cal.plus a m) = Cal.dateD a ∨ ((Cal.dateD (Cal.plus a m) != Cal.dateD a) = true ∧ Cal.dateD (Cal.plus a m) < Cal.dateD a ∧ Cal.monL (Cal.plus a m) = Cal.plus a m) := by
        by_cases e : Cal.dateD (Cal.plus a m) = Cal.dateD a
        · exact .inl e
        · exact .inr ⟨by simpa using e, by omega, by omega⟩
      have HT := Lib.hid t3'
      have hn : Cal.dateD a ≤ 28 → Cal.addE (Cal.plus a m) n = 0 → Cal.addE a (m + n) = 0 ∧ Cal.addV a (m + n) = Cal.addV (Cal.plus a m) n := Cal.adds_two ho
      have hz : Cal.addE b m = 0 → a ≤ b → Cal.plus a m ≤ Cal.addV b m := by
        intro hz hab
        by_cases hk : Cal.okAdd b m
        · rw [(Cal.yes_add hk).1]; exact Cal.adds_mono ho hk hab
        · rw [(Cal.no_add hk).2] at hz; omega
      have HN := Lib.hid hn; have HZ := Lib.hid hz
      clear hn hz t3 t3' h ho t1
      rcases HT.out with t5 | ⟨t5, t7, t6⟩
      all_goals
        go_enter Try.func7, Try.ntmps7
        go_wp2_with fail
        refine (sane_any _).mono ?_; rintro e w1 ⟨rfl, hb1⟩
        go_wp2_with fail
        refine (date_any _ _).mono ?_; rintro e w2 ⟨rfl, hb2⟩
        go_wp2_with fail
        refine (add_any _ _ _).mono ?_; rintro e w3 ⟨rfl, hb3⟩
        go_wp2_with fail
        refine (date_any _ _).mono ?_; rintro e w4 ⟨rfl, hb4⟩
        go_wp2_with fail
        refine (month_any _ _).mono ?_; rintro e w5 ⟨rfl, hb5⟩
        go_wp2_with fail
        refine (add_any _ _ _).mono ?_; rintro e w6 ⟨rfl, hb6⟩
        go_wp2_with fail
        refine (add_any _ _ _).mono ?_; rintro e w7 ⟨rfl, hb7⟩
        by_cases c1 : Cal.dateD a ≤ 28 ∧ Cal.addE (Cal.plus a m) n = 0
        · obtain ⟨c1, c2⟩ := c1
          obtain ⟨c3, c4⟩ := HN.out c1 c2
          go_wp2_with fail
          refine (add_any _ _ _).mono ?_; rintro e w8 ⟨rfl, hb8⟩
          by_cases c5 : Cal.addE b m = 0
          · by_cases c6 : a ≤ b
            · have c7 := HZ.out c5 c6
              go_wp2_with fail
              all_goals first | (exfalso; omega) | (go_ret; exact ⟨rfl, bel (bel (bel (bel (bel (bel (bel hb1 hb2) hb3) hb4) hb5) hb6) hb7) hb8⟩)
            · go_wp2_with fail
              all_goals first | (exfalso; omega) | (go_ret; exact ⟨rfl, bel (bel (bel (bel (bel (bel (bel hb1 hb2) hb3) hb4) hb5) hb6) hb7) hb8⟩)
          · have c8 : (Cal.addE b m != 0) = true := by simpa using c5
            go_wp2_with fail
            all_goals first | (exfalso; omega) | (go_ret; exact ⟨rfl, bel (bel (bel (bel (bel (bel (bel hb1 hb2) hb3) hb4) hb5) hb6) hb7) hb8⟩)
        · go_wp2_with fail
          all_goals try (exfalso; omega)
          all_goals (refine (add_any _ _ _).mono ?_; rintro e w8 ⟨rfl, hb8⟩)
          all_goals by_cases c5 : Cal.addE b m = 0
          all_goals by_cases c6 : a ≤ b
          all_goals try have c7 := HZ.out c5 c6
          all_goals go_wp2_with fail
          all_goals first | (exfalso; omega) | (go_ret; exact ⟨rfl, bel (bel (bel (bel (bel (bel (bel hb1 hb2) hb3) hb4) hb5) hb6) hb7) hb8⟩)
    · obtain ⟨v1, v2⟩ := Cal.no_add ho
      clear h ho
      go_enter Try.func7, Try.ntmps7
      go_wp2_with fail
      refine (sane_any _).mono ?_; rintro e w1 ⟨rfl, hb1⟩
      go_wp2_with fail
      refine (date_any _ _).mono ?_; rintro e w2 ⟨rfl, hb2⟩
      go_wp2_with fail
      refine (add_any _ _ _).mono ?_; rintro e w3 ⟨rfl, hb3⟩
      go_wp2_with fail
      all_goals first | (exfalso; omega) | (go_ret; exact ⟨rfl, bel (bel hb1 hb2) hb3⟩)
  · have e0 := nz a h
    have ho : ¬ Cal.okAdd a m := fun ho => h ho.1
    obtain ⟨v1, v2⟩ := Cal.no_add ho
    clear h ho
    go_enter Try.func7, Try.ntmps7
    go_wp2_with fail
    refine (sane_any _).mono ?_; rintro e w1 ⟨rfl, hb1⟩
    go_wp2_with fail
    refine (date_any _ _).mono ?_; rintro e w2 ⟨rfl, hb2⟩
    go_wp2_with fail
    refine (add_any _ _ _).mono ?_; rintro e w3 ⟨rfl, hb3⟩
    go_wp2_with fail
    all_goals first | (exfalso; omega) | (go_ret; exact ⟨rfl, bel (bel hb1 hb2) hb3⟩)

set_option maxRecDepth 100000 in
set_option maxHeartbeats 4000000 in
theorem law_adds_out (a b m n : Int) (w : World) (hm : ¬ (-5000 ≤ m ∧ m ≤ 5000 ∧ -5000 ≤ n ∧ n ≤ 5000)) :
    Calls Try.prog 7 #[.int .i64 a, .int .i64 b, .int .i64 m, .int .i64 n] w fun e w' => e = .returned (.bool true) ∧ Below w.heap.size w w' := by
  go_enter Try.func7, Try.ntmps7
  go_wp2_with fail
  refine (sane_any _).mono ?_; rintro e w1 ⟨rfl, hb1⟩
  go_wp2_with fail
  all_goals first | (exfalso; omega) | (go_ret; exact ⟨rfl, hb1⟩)
end Go.Proofs.Ytnknkjmaaagedaa
