/-
The walks of the reference's Valid, Leap, Length, Date and Weekday.
-/
import Derived.Test.YtnknkjmaaagedaaL2
import Derived.Test.YtnknkjmaaagedaaPlain5
namespace Go.Proofs.Ytnknkjmaaagedaa
open Go.RowKit

set_option maxHeartbeats 400000 in
theorem rvalid_yes (d : Int) (w : World) (h0 : 0 ≤ d) (h1 : d ≤ 100000) :
    Calls Try.prog 22 #[.int .i64 d] w fun e w' => e = .returned (.bool true) ∧ w = w' := by
  go_enter Try.func22, Try.ntmps22
  go_wp2
  go_ret
  exact ⟨rfl, rfl⟩

set_option maxHeartbeats 400000 in
theorem rvalid_no (d : Int) (w : World) (h0 : d < 0 ∨ 100000 < d) :
    Calls Try.prog 22 #[.int .i64 d] w fun e w' => e = .returned (.bool false) ∧ w = w' := by
  rcases h0 with h0 | h0
  · go_enter Try.func22, Try.ntmps22
    go_wp2
    go_ret
    exact ⟨rfl, rfl⟩
  · have h1 : 0 ≤ d := by omega
    have h2 : decide (d ≤ 100000) = false := by simp; omega
    go_enter Try.func22, Try.ntmps22
    go_wp2
    go_ret
    exact ⟨rfl, rfl⟩

theorem ret_b {x y : Bool} (h : x = y) : Ending.returned (.bool x) = .returned (.bool y) := by rw [h]

set_option maxHeartbeats 400000 in
theorem leap_any (y : Int) (w : World) (h0 : 0 ≤ y) :
    Calls Try.prog 25 #[.int .i64 y] w fun e w' => e = .returned (.bool (Cal.leapB y)) ∧ w = w' := by
  go_enter Try.func25, Try.ntmps25
  go_wp2
  all_goals (go_ret; refine ⟨ret_b ?_, rfl⟩; unfold Cal.leapB; rw [Bool.eq_iff_iff]; simp; omega)

set_option maxHeartbeats 400000 in
theorem length_any (y m : Int) (w : World) (h0 : 0 ≤ y) (h1 : 1 ≤ m) (h2 : m ≤ 12) :
    Calls Try.prog 23 #[.int .i64 y, .int .i64 m] w fun e w' => e = .returned (.int .i64 (Cal.len y m)) ∧ w = w' := by
  by_cases hm : m = 2
  · subst hm
    have hl := Cal.len_feb y
    by_cases hlp : Cal.leapB y = true
    · rw [if_pos hlp] at hl
      go_enter Try.func23, Try.ntmps23
      go_wp2_with (go_at_call 25; refine (leap_any _ _ h0).mono ?_; rintro e w1 ⟨rfl, rfl⟩)
      go_ret
      exact ⟨by rw [hl]; rfl, rfl⟩
    · rw [if_neg hlp] at hl
      have hlp' : Cal.leapB y = false := by simpa using hlp
      go_enter Try.func23, Try.ntmps23
      go_wp2_with (go_at_call 25; refine (leap_any _ _ h0).mono ?_; rintro e w1 ⟨rfl, rfl⟩)
      go_ret
      exact ⟨by rw [hl]; rfl, rfl⟩
  · by_cases h30 : m = 4 ∨ m = 6 ∨ m = 9 ∨ m = 11
    · have hl := Cal.len_30 y m h30
      rcases h30 with rfl | rfl | rfl | rfl
      all_goals
        go_enter Try.func23, Try.ntmps23
        go_wp2
        go_ret
        exact ⟨by rw [hl]; rfl, rfl⟩
    · have hl := Cal.len_31 y m h1 h2 hm h30
      have n4 : (m == 4) = false := by simp; omega
      have n6 : (m == 6) = false := by simp; omega
      have n9 : (m == 9) = false := by simp; omega
      have n11 : (m == 11) = false := by simp; omega
      go_enter Try.func23, Try.ntmps23
      go_wp2_with (go_at_call 25; refine (leap_any _ _ h0).mono ?_; rintro e w1 ⟨rfl, rfl⟩)
      all_goals first | (exfalso; omega) | (go_ret; exact ⟨by rw [hl]; rfl, rfl⟩)

theorem rweekday_any (d : Int) (w : World) :
    Calls Try.prog 14 #[.int .i64 d] w fun e w' => e = .returned (.tuple #[.int .i64 (Cal.wdV d), .int .i64 (Cal.dateE d)]) ∧ w = w' := by
  by_cases h : Cal.okDay d
  · rw [(Cal.yes_date h).2.2.2, show Cal.wdV d = (5 + d) % 7 by simp [Cal.wdV, h, Int.add_comm]]
    have h0 := h.1; have h1 := h.2
    go_enter Try.func14, Try.ntmps14
    go_wp2_with (go_at_call 22; refine (rvalid_yes _ _ h0 h1).mono ?_; rintro e w' ⟨rfl, rfl⟩)
    go_ret2
    exact ⟨rfl, rfl⟩
  · rw [(Cal.no_date h).2.2.2, show Cal.wdV d = 0 by simp [Cal.wdV, h]]
    have h0 : d < 0 ∨ 100000 < d := by unfold Cal.okDay at h; omega
    go_enter Try.func14, Try.ntmps14
    go_wp2_with (go_at_call 22; refine (rvalid_no _ _ h0).mono ?_; rintro e w' ⟨rfl, rfl⟩)
    go_ret2
    exact ⟨rfl, rfl⟩

set_option maxHeartbeats 1000000 in
theorem rdate_yes (d : Int) (w : World) (h : Cal.okDay d) :
    Calls Try.prog 10 #[.int .i64 d] w fun e w' => e = .returned (.tuple #[.int .i64 (Cal.mon d / 12), .int .i64 (Cal.mon d % 12 + 1), .int .i64 (d - Cal.first (Cal.mon d) + 1), .int .i64 0]) ∧ w = w' := by
  have h0 := h.1; have h1 := h.2
  have hm0 := Cal.first_2000
  go_enter Try.func10, Try.ntmps10
  go_wp2_with (go_at_call 22; refine (rvalid_yes _ _ h0 h1).mono ?_; rintro e w' ⟨rfl, rfl⟩)
  go_loop [0, 6, 7] (fun vd vy vm => ∃ r y m : Int, vd = .int .i64 r ∧ vy = .int .i64 y ∧ vm = .int .i64 m ∧ 0 ≤ r ∧ r ≤ 100000 ∧ 2000 ≤ y ∧ y ≤ 3000 ∧ 1 ≤ m ∧ m ≤ 12 ∧ Hid (Cal.first (12 * y + m - 1) + r = d)) (fun vd _ _ => (intOf vd).toNat)
  case atStart => exact ⟨d, 2000, 1, rfl, rfl, rfl, h0, h1, by omega, by omega, by omega, by omega, by show Cal.first 24000 + d = d; omega⟩
  case round =>
    obtain ⟨r, y, m, rfl, rfl, rfl, r0, r1, y0, y1, m0, m1, hr⟩ := hrel
    have hs := Cal.first_step (12 * y + m - 1)
    have hf := Cal.first_mono (k := 24000) (l := 12 * y + m - 1) (by omega)
    have hle : Cal.len y m = Cal.first (12 * y + m - 1 + 1) - Cal.first (12 * y + m - 1) := by unfold Cal.len; rw [show 12 * y + m - 1 + 1 = 12 * y + m by omega]
    have hy2 : 28 * (12 * y + m - 1 - 24000) ≤ 100000 := by have := hr.out; omega
    have hl0 : 28 ≤ Cal.len y m := by omega
    have hl1 : Cal.len y m ≤ 31 := by omega
    have HL := Lib.hid hle
    clear hle hs hf
    by_cases hlt : Cal.len y m ≤ r
    · by_cases h12 : m = 12
      · subst h12
        go_wp2_with (go_at_call 23; refine (length_any _ _ _ (by omega) (by omega) (by omega)).mono ?_; rintro e w1 ⟨rfl, rfl⟩)
        go_round
        case rel => exact ⟨r - Cal.len y 12, y + 1, 1, rfl, rfl, rfl, by omega, by omega, by omega, by omega, by omega, by omega, by show Cal.first (12 * (y + 1) + 1 - 1) + (r - Cal.len y 12) = d; have := hr.out; have := HL.out; rw [show 12 * (y + 1) + 1 - 1 = 12 * y + 12 - 1 + 1 by omega]; omega⟩
        case measure => simp [intOf]; omega
      · have h13 : m < 12 := by omega
        clear h12
        go_wp2_with (go_at_call 23; refine (length_any _ _ _ (by omega) (by omega) (by omega)).mono ?_; rintro e w1 ⟨rfl, rfl⟩)
        go_round
        case rel => exact ⟨r - Cal.len y m, y, m + 1, rfl, rfl, rfl, by omega, by omega, by omega, by omega, by omega, by omega, by show Cal.first (12 * y + (m + 1) - 1) + (r - Cal.len y m) = d; have := hr.out; have := HL.out; rw [show 12 * y + (m + 1) - 1 = 12 * y + m - 1 + 1 by omega]; omega⟩
        case measure => simp [intOf]; omega
    · have hk : Cal.mon d = 12 * y + m - 1 := Cal.mon_eq (by have := hr.out; omega) (by have := hr.out; have := HL.out; omega)
      have HK := Lib.hid hk
      clear hk
      go_wp2_with (go_at_call 23; refine (length_any _ _ _ (by omega) (by omega) (by omega)).mono ?_; rintro e w1 ⟨rfl, rfl⟩)
      refine bodyPost_ret (results_tmp4 rfl _ _ _) rfl ?_
      exact ⟨ret4 (by rw [HK.out]; omega) (by rw [HK.out]; omega) (by rw [HK.out]; have := hr.out; omega) rfl, rfl⟩

theorem rdate_any (d : Int) (w : World) :
    Calls Try.prog 10 #[.int .i64 d] w fun e w' => e = .returned (.tuple #[.int .i64 (Cal.dateY d), .int .i64 (Cal.dateM d), .int .i64 (Cal.dateD d), .int .i64 (Cal.dateE d)]) ∧ w = w' := by
  by_cases h : Cal.okDay d
  · obtain ⟨a, b, c, e⟩ := Cal.yes_date h
    rw [a, b, c, e]
    exact rdate_yes d w h
  · obtain ⟨a, b, c, e⟩ := Cal.no_date h
    rw [a, b, c, e]
    have h0 : d < 0 ∨ 100000 < d := by unfold Cal.okDay at h; omega
    go_enter Try.func10, Try.ntmps10
    go_wp2_with (go_at_call 22; refine (rvalid_no _ _ h0).mono ?_; rintro e w' ⟨rfl, rfl⟩)
    refine bodyPost_ret (results_tmp4 rfl _ _ _) rfl ?_
    exact ⟨rfl, rfl⟩

set_option maxHeartbeats 1000000 in
theorem rmonth_any (d : Int) (w : World) :
    Calls Try.prog 18 #[.int .i64 d] w fun e w' => e = .returned (.tuple #[.int .i64 (Cal.monF d), .int .i64 (Cal.monL d), .int .i64 (Cal.dateE d)]) ∧ w = w' := by
  by_cases h : Cal.okDay d
  · have e0 := (Cal.yes_date h).2.2.2
    obtain ⟨f, l⟩ := Cal.yes_mon h
    have e3 := (Cal.yes_date h).2.2.1
    obtain ⟨a1, a2, b1, b2, c1, c2, hk⟩ := Cal.date_yes_bounds h
    have hle : Cal.len (Cal.dateY d) (Cal.dateM d) = Cal.first (Cal.mon d + 1) - Cal.first (Cal.mon d) := by unfold Cal.len; rw [hk, show 12 * Cal.dateY d + Cal.dateM d = Cal.mon d + 1 by omega]
    have hs := Cal.first_step (Cal.mon d)
    have h0 := h.1; have h1 := h.2
    have HE := Lib.hid e0
    have b3 : Cal.len (Cal.dateY d) (Cal.dateM d) ≤ 31 := by omega
    have b4 : 28 ≤ Cal.len (Cal.dateY d) (Cal.dateM d) := by omega
    have HA := Lib.hid (show d - Cal.dateD d + 1 = Cal.monF d ∧ min 100000 (d - Cal.dateD d + 1 + Cal.len (Cal.dateY d) (Cal.dateM d) - 1) = Cal.monL d by rw [f, l, hle, e3]; omega)
    clear e3 hk hle hs f l e0
    go_enter Try.func18, Try.ntmps18
    go_wp2_with (first
      | (go_at_call 10; refine (rdate_any _ _).mono ?_; rw [HE.out]; rintro e w1 ⟨rfl, rfl⟩)
      | (go_at_call 23; refine (length_any _ _ _ (by omega) (by omega) (by omega)).mono ?_; rintro e w1 ⟨rfl, rfl⟩))
    all_goals (go_ret3; exact ⟨ret3 HA.out.1 (by have := HA.out.2; omega) HE.out.symm, rfl⟩)
  · obtain ⟨f, l⟩ := Cal.no_mon h
    have e0 := (Cal.no_date h).2.2.2
    have HE := Lib.hid e0
    rw [f, l, e0]
    clear f l e0
    go_enter Try.func18, Try.ntmps18
    go_wp2_with (go_at_call 10; refine (rdate_any _ _).mono ?_; rw [HE.out]; rintro e w1 ⟨rfl, rfl⟩)
    go_ret3
    exact ⟨rfl, rfl⟩
end Go.Proofs.Ytnknkjmaaagedaa
