/-
The walks of Month and Add of the program.
-/
import Derived.Test.YtnknkjmaaagedaaW4
namespace Go.Proofs.Ytnknkjmaaagedaa
open Go.RowKit

theorem ret2 {a b a' b' : Int} (h1 : a = a') (h2 : b = b') :
    Ending.returned (.tuple #[.int .i64 a, .int .i64 b]) = .returned (.tuple #[.int .i64 a', .int .i64 b']) := by
  rw [h1, h2]
theorem ret3 {a b c a' b' c' : Int} (h1 : a = a') (h2 : b = b') (h3 : c = c') :
    Ending.returned (.tuple #[.int .i64 a, .int .i64 b, .int .i64 c]) = .returned (.tuple #[.int .i64 a', .int .i64 b', .int .i64 c']) := by
  rw [h1, h2, h3]

theorem number_k (k y m d : Int) (w : World) (hk : 12 * y + m - 1 = k) (h0 : 1 ≤ m) (h1 : m ≤ 12) (h2 : 1 ≤ y) (h3 : y ≤ 10000) (h4 : 0 ≤ d) (h5 : d ≤ 1000) :
    Calls Try.prog 24 #[.int .i64 y, .int .i64 m, .int .i64 d] w fun e w' => e = .returned (.int .i64 (Cal.first k + d - 1)) ∧ Below w.heap.size w w' := by
  subst hk; exact number_any y m d w h0 h1 h2 h3 h4 h5

set_option maxHeartbeats 1000000 in
theorem month_yes (d : Int) (w : World) (h : Cal.okDay d) :
    Calls Try.prog 17 #[.int .i64 d] w fun e w' => e = .returned (.tuple #[.int .i64 (Cal.first (Cal.mon d)), .int .i64 (min 100000 (Cal.first (Cal.mon d + 1) - 1)), .int .i64 0]) ∧ Below w.heap.size w w' := by
  have e4 := (Cal.yes_date h).2.2.2
  have e3 := (Cal.yes_date h).2.2.1
  have s1 := Cal.first_step (Cal.mon d)
  have hm := Cal.mon_spec h.1
  obtain ⟨a1, a2, b1, b2, c1, c2, hk⟩ := Cal.date_yes_bounds h
  have hd := h
  unfold Cal.okDay at hd
  have E4 := Lib.hid e4; have E3 := Lib.hid e3; have HK := Lib.hid hk
  clear e4 e3 hk
  go_enter Try.func17, Try.ntmps17
  go_wp2_with (go_at_call 9; refine (date_any _ _).mono ?_; rw [E4.out]; rintro e w2 ⟨rfl, hb2⟩)
  refine (number_k (Cal.mon d + 1) _ _ 1 _ (by have := HK.out; omega) (by omega) (by omega) (by omega) (by omega) (by omega) (by omega)).mono ?_
  rintro e w3 ⟨rfl, hb3⟩
  go_wp2
  all_goals (go_ret3; exact ⟨ret3 (by have := E3.out; omega) (by omega) rfl, bel hb2 hb3⟩)

theorem month_no (d : Int) (w : World) (h : ¬ Cal.okDay d) :
    Calls Try.prog 17 #[.int .i64 d] w fun e w' => e = .returned (.tuple #[.int .i64 0, .int .i64 0, .int .i64 3]) ∧ Below w.heap.size w w' := by
  have e4 := Lib.hid (Cal.no_date h).2.2.2
  go_enter Try.func17, Try.ntmps17
  go_wp2_with (go_at_call 9; refine (date_any _ _).mono ?_; rw [e4.out]; rintro e w2 ⟨rfl, hb2⟩)
  go_ret3
  exact ⟨rfl, hb2⟩

theorem month_any (d : Int) (w : World) :
    Calls Try.prog 17 #[.int .i64 d] w fun e w' => e = .returned (.tuple #[.int .i64 (Cal.monF d), .int .i64 (Cal.monL d), .int .i64 (Cal.dateE d)]) ∧ Below w.heap.size w w' := by
  by_cases h : Cal.okDay d
  · rw [(Cal.yes_mon h).1, (Cal.yes_mon h).2, (Cal.yes_date h).2.2.2]; exact month_yes d w h
  · rw [(Cal.no_mon h).1, (Cal.no_mon h).2, (Cal.no_date h).2.2.2]; exact month_no d w h

set_option maxHeartbeats 1000000 in
theorem add_in (a b : Int) (w : World) (h : Cal.okDay a) (h0 : 24000 ≤ Cal.mon a + b) (h1 : Cal.mon a + b ≤ 27600) :
    Calls Try.prog 15 #[.int .i64 a, .int .i64 b] w fun e w' => e = .returned (.tuple #[.int .i64 (if Cal.plus a b ≤ 100000 then Cal.plus a b else 0), .int .i64 (if Cal.plus a b ≤ 100000 then 0 else 3)]) ∧ Below w.heap.size w w' := by
  have e4 := (Cal.yes_date h).2.2.2
  have e3 := (Cal.yes_date h).2.2.1
  have s1 := Cal.first_step (Cal.mon a + b)
  have s0 := Cal.first_mono (k := 24000) (l := Cal.mon a + b) h0
  rw [Cal.first_2000] at s0
  have s2 := Cal.first_mono (k := Cal.mon a + b) (l := 27600) h1
  rw [show Cal.first 27600 = 109573 by decide] at s2
  have hm := Cal.mon_spec h.1
  have hm2 := Cal.mon_le h.1 h.2
  obtain ⟨a1, a2, b1, b2, c1, c2, hk⟩ := Cal.date_yes_bounds h
  have hd := h
  unfold Cal.okDay at hd
  have hp : Cal.plus a b = Cal.first (Cal.mon a + b) + min (Cal.dateD a) (Cal.first (Cal.mon a + b + 1) - Cal.first (Cal.mon a + b)) - 1 := by unfold Cal.plus; rw [e3]
  have E4 := Lib.hid e4; have E3 := Lib.hid e3; have HK := Lib.hid hk; have HP := Lib.hid hp
  clear e4 e3 hp
  have b3 : -4000 ≤ b := by omega
  have b4 : b ≤ 4000 := by omega
  have b5 : 24000 ≤ Cal.dateY a * 12 + Cal.dateM a - 1 + b := by omega
  have b6 : Cal.dateY a * 12 + Cal.dateM a - 1 + b ≤ 27600 := by omega
  clear hk
  go_enter Try.func15, Try.ntmps15
  go_wp2_with (go_at_call 9; refine (date_any _ _).mono ?_; rw [E4.out]; rintro e w2 ⟨rfl, hb2⟩)
  refine (number_k (Cal.mon a + b) _ _ 1 _ (by have := HK.out; omega) (by omega) (by omega) (by omega) (by omega) (by omega) (by omega)).mono ?_
  rintro e w3 ⟨rfl, hb3⟩
  go_wp2_with fail
  refine (number_k (Cal.mon a + b + 1) _ _ 1 _ (by have := HK.out; omega) (by omega) (by omega) (by omega) (by omega) (by omega) (by omega)).mono ?_
  rintro e w4 ⟨rfl, hb4⟩
  by_cases hq : Cal.plus a b ≤ 100000
  · go_wp2_with (go_at_call 20; refine (valid_yes _ _ (by omega) (by have := HP.out; omega)).mono ?_; rintro e w5 ⟨rfl, rfl⟩)
    all_goals (go_ret2; rw [HP.out]; exact ⟨ret2 (by omega) rfl, bel (bel hb2 hb3) hb4⟩)
  · go_wp2_with (go_at_call 20; refine (valid_no _ _ (.inr (by have := HP.out; omega))).mono ?_; rintro e w5 ⟨rfl, rfl⟩)
    all_goals (go_ret2; exact ⟨rfl, bel (bel hb2 hb3) hb4⟩)

set_option maxHeartbeats 1000000 in
theorem add_out (a b : Int) (w : World) (h : Cal.okDay a) (h0 : ¬ (24000 ≤ Cal.mon a + b ∧ Cal.mon a + b ≤ 27600)) :
    Calls Try.prog 15 #[.int .i64 a, .int .i64 b] w fun e w' => e = .returned (.tuple #[.int .i64 0, .int .i64 3]) ∧ Below w.heap.size w w' := by
  have e4 := (Cal.yes_date h).2.2.2
  obtain ⟨a1, a2, b1, b2, c1, c2, hk⟩ := Cal.date_yes_bounds h
  have E4 := Lib.hid e4
  clear e4
  have h2 : ¬ (24000 ≤ Cal.dateY a * 12 + Cal.dateM a - 1 + b ∧ Cal.dateY a * 12 + Cal.dateM a - 1 + b ≤ 27600) := by omega
  clear hk h0
  go_enter Try.func15, Try.ntmps15
  go_wp2_with (go_at_call 9; refine (date_any _ _).mono ?_; rw [E4.out]; rintro e w2 ⟨rfl, hb2⟩)
  all_goals first | (exfalso; omega) | (go_ret2; exact ⟨rfl, hb2⟩)

theorem add_bad (a b : Int) (w : World) (h : ¬ Cal.okDay a) :
    Calls Try.prog 15 #[.int .i64 a, .int .i64 b] w fun e w' => e = .returned (.tuple #[.int .i64 0, .int .i64 3]) ∧ Below w.heap.size w w' := by
  have e4 := Lib.hid (Cal.no_date h).2.2.2
  go_enter Try.func15, Try.ntmps15
  go_wp2_with (go_at_call 9; refine (date_any _ _).mono ?_; rw [e4.out]; rintro e w2 ⟨rfl, hb2⟩)
  go_ret2
  exact ⟨rfl, hb2⟩

theorem add_any (a b : Int) (w : World) :
    Calls Try.prog 15 #[.int .i64 a, .int .i64 b] w fun e w' => e = .returned (.tuple #[.int .i64 (Cal.addV a b), .int .i64 (Cal.addE a b)]) ∧ Below w.heap.size w w' := by
  by_cases h : Cal.okAdd a b
  · rw [(Cal.yes_add h).1, (Cal.yes_add h).2]
    have := add_in a b w h.1 h.2.1 h.2.2.1
    rwa [if_pos h.2.2.2, if_pos h.2.2.2] at this
  · rw [(Cal.no_add h).1, (Cal.no_add h).2]
    by_cases ha : Cal.okDay a
    · by_cases hb : 24000 ≤ Cal.mon a + b ∧ Cal.mon a + b ≤ 27600
      · have hc : ¬ Cal.plus a b ≤ 100000 := fun hc => h ⟨ha, hb.1, hb.2, hc⟩
        have := add_in a b w ha hb.1 hb.2
        rwa [if_neg hc, if_neg hc] at this
      · exact add_out a b w ha hb
    · exact add_bad a b w ha
end Go.Proofs.Ytnknkjmaaagedaa
