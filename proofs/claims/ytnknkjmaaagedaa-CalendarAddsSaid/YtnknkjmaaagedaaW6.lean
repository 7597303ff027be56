/-
The walks of the examples: is, sane.
-/
import Derived.Test.YtnknkjmaaagedaaW5
namespace Go.Proofs.Ytnknkjmaaagedaa
open Go.RowKit

set_option maxHeartbeats 1000000 in
theorem is_true (n y m d : Int) (w : World) (e1 : Cal.dateY n = y) (e2 : Cal.dateM n = m) (e3 : Cal.dateD n = d) (e4 : Cal.dateE n = 0) (e5 : Cal.dayV y m d = n) (e6 : Cal.dayE y m d = 0) :
    Calls Try.prog 19 #[.int .i64 n, .int .i64 y, .int .i64 m, .int .i64 d] w fun e w' => e = .returned (.bool true) ∧ Below w.heap.size w w' := by
  have E1 := Lib.hid e1; have E2 := Lib.hid e2; have E3 := Lib.hid e3; have E4 := Lib.hid e4; have E5 := Lib.hid e5; have E6 := Lib.hid e6
  clear e1 e2 e3 e4 e5 e6
  go_enter Try.func19, Try.ntmps19
  go_wp2_with (first
    | (go_at_call 9; refine (date_any _ _).mono ?_; rw [E1.out, E2.out, E3.out, E4.out]; rintro e w2 ⟨rfl, hb2⟩)
    | (go_at_call 11; refine (day_any _ _ _ _).mono ?_; rw [E5.out, E6.out]; rintro e w3 ⟨rfl, hb3⟩))
  go_ret
  exact ⟨rfl, bel hb2 hb3⟩

theorem mon_date {n k y m d : Int} (h : Cal.okDay n) (a : Cal.first k ≤ n) (b : n < Cal.first (k + 1)) (hy : y = k / 12) (hm : m = k % 12 + 1) (hd : d = n - Cal.first k + 1) :
    Cal.dateY n = y ∧ Cal.dateM n = m ∧ Cal.dateD n = d ∧ Cal.dateE n = 0 := by
  have e := Cal.mon_eq a b
  have := Cal.yes_date h
  rw [e] at this
  subst hy hm hd; exact this

theorem plus_eq {a b k l v : Int} (h1 : Cal.mon a = k) (h2 : k + b = l) (h3 : Cal.first l + min (a - Cal.first k + 1) (Cal.first (l + 1) - Cal.first l) - 1 = v) : Cal.plus a b = v := by
  unfold Cal.plus; rw [h1, h2, h3]

theorem ex_add : Cal.addV 30 1 = 59 ∧ Cal.addE 30 1 = 0 := by
  have hm : Cal.mon 30 = 24000 := Cal.mon_eq (by decide) (by decide)
  have hp : Cal.plus 30 1 = 59 := plus_eq (l := 24001) hm (by omega) (by decide)
  have h : Cal.okAdd 30 1 := ⟨by decide, by omega, by omega, by omega⟩
  have := Cal.yes_add h
  rw [hp] at this; exact this

theorem ex_mon1 : Cal.monF 45 = 31 ∧ Cal.monL 45 = 59 ∧ Cal.dateE 45 = 0 := by
  have hm : Cal.mon 45 = 24001 := Cal.mon_eq (by decide) (by decide)
  have := Cal.yes_mon (d := 45) (by decide)
  rw [hm] at this
  exact ⟨this.1.trans (by decide), this.2.trans (by decide), by decide⟩

theorem ex_mon2 : Cal.monF 100000 = 99985 ∧ Cal.monL 100000 = 100000 ∧ Cal.dateE 100000 = 0 := by
  have hm : Cal.mon 100000 = 27285 := Cal.mon_eq (by decide) (by decide)
  have := Cal.yes_mon (d := 100000) (by decide)
  rw [hm] at this
  exact ⟨this.1.trans (by decide), this.2.trans (by decide), by decide⟩

theorem ex1 (w : World) : Calls Try.prog 19 #[.int .i64 0, .int .i64 2000, .int .i64 1, .int .i64 1] w fun e w' => e = .returned (.bool true) ∧ Below w.heap.size w w' := by
  obtain ⟨a, b, c, d⟩ := mon_date (n := 0) (k := 24000) (y := 2000) (m := 1) (d := 1) (by decide) (by decide) (by decide) (by decide) (by decide) (by decide)
  exact is_true _ _ _ _ w a b c d (by decide) (by decide)
theorem ex2 (w : World) : Calls Try.prog 19 #[.int .i64 59, .int .i64 2000, .int .i64 2, .int .i64 29] w fun e w' => e = .returned (.bool true) ∧ Below w.heap.size w w' := by
  obtain ⟨a, b, c, d⟩ := mon_date (n := 59) (k := 24001) (y := 2000) (m := 2) (d := 29) (by decide) (by decide) (by decide) (by decide) (by decide) (by decide)
  exact is_true _ _ _ _ w a b c d (by decide) (by decide)
theorem ex3 (w : World) : Calls Try.prog 19 #[.int .i64 100000, .int .i64 2273, .int .i64 10, .int .i64 16] w fun e w' => e = .returned (.bool true) ∧ Below w.heap.size w w' := by
  obtain ⟨a, b, c, d⟩ := mon_date (n := 100000) (k := 27285) (y := 2273) (m := 10) (d := 16) (by decide) (by decide) (by decide) (by decide) (by decide) (by decide)
  exact is_true _ _ _ _ w a b c d (by decide) (by decide)

set_option maxHeartbeats 2000000 in
theorem sane_any (w : World) : Calls Try.prog 8 #[] w fun e w' => e = .returned (.bool true) ∧ Below w.heap.size w w' := by
  have d1 := Lib.hid (show Cal.dayV 2001 2 29 = 0 ∧ Cal.dayE 2001 2 29 = 3 by decide)
  have d2 := Lib.hid (show Cal.dayV 2000 12 31 = 365 ∧ Cal.dayE 2000 12 31 = 0 by decide)
  have d3 := Lib.hid (show Cal.wdV 0 = 5 ∧ Cal.dateE 0 = 0 by decide)
  have d4 := Lib.hid (show Cal.wdV 2 = 0 ∧ Cal.dateE 2 = 0 by decide)
  have d5 := Lib.hid ex_add; have d6 := Lib.hid ex_mon1; have d7 := Lib.hid ex_mon2
  go_enter Try.func8, Try.ntmps8
  go_wp2_with fail
  refine (day_any _ _ _ _).mono ?_; rw [d1.out.1, d1.out.2]; rintro e w1 ⟨rfl, b1⟩
  go_wp2_with fail
  refine (day_any _ _ _ _).mono ?_; rw [d2.out.1, d2.out.2]; rintro e w2 ⟨rfl, b2⟩
  go_wp2_with fail
  refine (weekday_any _ _).mono ?_; rw [d3.out.1, d3.out.2]; rintro e w3 ⟨rfl, rfl⟩
  go_wp2_with fail
  refine (weekday_any _ _).mono ?_; rw [d4.out.1, d4.out.2]; rintro e w4 ⟨rfl, rfl⟩
  go_wp2_with fail
  refine (add_any _ _ _).mono ?_; rw [d5.out.1, d5.out.2]; rintro e w5 ⟨rfl, b5⟩
  go_wp2_with fail
  refine (month_any _ _).mono ?_; rw [d6.out.1, d6.out.2.1, d6.out.2.2]; rintro e w6 ⟨rfl, b6⟩
  go_wp2_with fail
  refine (month_any _ _).mono ?_; rw [d7.out.1, d7.out.2.1, d7.out.2.2]; rintro e w7 ⟨rfl, b7⟩
  go_wp2_with fail
  refine (ex1 _).mono ?_; rintro e w8 ⟨rfl, b8⟩
  go_wp2_with fail
  refine (ex2 _).mono ?_; rintro e w9 ⟨rfl, b9⟩
  go_wp2_with fail
  refine (ex3 _).mono ?_; rintro e w10 ⟨rfl, b10⟩
  go_wp2_with fail
  go_ret
  exact ⟨rfl, bel (bel (bel (bel (bel (bel (bel (bel b1 b2) b5) b6) b7) b8) b9) b10) (Below.refl _ _)⟩
end Go.Proofs.Ytnknkjmaaagedaa
