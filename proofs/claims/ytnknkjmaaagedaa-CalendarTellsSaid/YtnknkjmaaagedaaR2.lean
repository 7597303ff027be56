/-
The walks of the reference's Day and Add.
-/
import Derived.Test.YtnknkjmaaagedaaR1
namespace Go.Proofs.Ytnknkjmaaagedaa
open Go.RowKit

theorem len_next (y m : Int) : Cal.first (12 * y + (m + 1) - 1) = Cal.first (12 * y + m - 1) + Cal.len y m := by
  unfold Cal.len; rw [show 12 * y + (m + 1) - 1 = 12 * y + m by omega]; omega

theorem len_bd (y m : Int) : 28 ≤ Cal.len y m ∧ Cal.len y m ≤ 31 := by
  have := Cal.first_step (12 * y + m - 1)
  rw [show 12 * y + m - 1 + 1 = 12 * y + m by omega] at this
  unfold Cal.len; omega

theorem first_hi {k : Int} (h0 : 24000 ≤ k) (h : k ≤ 27611) : 0 ≤ Cal.first k ∧ Cal.first k ≤ 109907 := by
  have a := Cal.first_mono (k := 24000) (l := k) h0
  have b := Cal.first_mono (k := k) (l := 27611) h
  rw [Cal.first_2000] at a
  rw [show Cal.first 27611 = 109907 by decide] at b
  omega

set_option maxHeartbeats 2000000 in
theorem rday_in (y m d : Int) (w : World) (h0 : 2000 ≤ y) (h1 : y ≤ 2300) (h2 : 1 ≤ m) (h3 : m ≤ 12) (h4 : 1 ≤ d) (h5 : d ≤ Cal.len y m) :
    Calls Try.prog 12 #[.int .i64 y, .int .i64 m, .int .i64 d] w fun e w' => e = .returned (.tuple #[.int .i64 (Cal.dayV y m d), .int .i64 (Cal.dayE y m d)]) ∧ w = w' := by
  have hl := len_bd y m
  have hd31 : d ≤ 31 := by omega
  have hF := first_hi (k := 12 * y + m - 1) (by omega) (by omega)
  have hY := first_hi (k := 12 * y) (by omega) (by omega)
  go_enter Try.func12, Try.ntmps12
  go_wp2_with (go_at_call 23; refine (length_any _ _ _ (by omega) (by omega) (by omega)).mono ?_; rintro e w1 ⟨rfl, rfl⟩)
  go_loop [8, 9] (fun vn vi => ∃ n i : Int, vn = .int .i64 n ∧ vi = .int .i64 i ∧ 1 ≤ i ∧ i ≤ m ∧ 0 ≤ n ∧ n ≤ 500 ∧ Hid (n = d - 1 + Cal.first (12 * y + i - 1) - Cal.first (12 * y))) (fun _ vi => (m - intOf vi).toNat)
  case atStart => exact ⟨d - 1, 1, rfl, rfl, by omega, by omega, by omega, by omega, by show d - 1 = d - 1 + Cal.first (12 * y + 1 - 1) - Cal.first (12 * y); rw [show 12 * y + 1 - 1 = 12 * y by omega]; omega⟩
  case round =>
    obtain ⟨n, i, rfl, rfl, i0, i1, n0, n1, hn⟩ := hrel
    by_cases hlt : i < m
    · have hb := len_bd y i
      have hnx := len_next y i
      have hcap : n + Cal.len y i ≤ 500 := by
        have e := hn.out
        have := Cal.first_add (12 * y) (12 : Nat)
        have a := Cal.first_mono (k := 12 * y + i - 1) (l := 12 * y + 11) (by omega)
        have b1 := Cal.first_step (12 * y); have b2 := Cal.first_step (12 * y + 1); have b3 := Cal.first_step (12 * y + 2); have b4 := Cal.first_step (12 * y + 3)
        have b5 := Cal.first_step (12 * y + 4); have b6 := Cal.first_step (12 * y + 5); have b7 := Cal.first_step (12 * y + 6); have b8 := Cal.first_step (12 * y + 7)
        have b9 := Cal.first_step (12 * y + 8); have b10 := Cal.first_step (12 * y + 9); have b11 := Cal.first_step (12 * y + 10)
        simp only [Int.add_assoc, Int.reduceAdd] at b1 b2 b3 b4 b5 b6 b7 b8 b9 b10 b11
        omega
      have HN := Lib.hid hnx
      obtain ⟨hb0, hb1⟩ := hb
      clear hnx
      go_wp2_with (go_at_call 23; refine (length_any _ _ _ (by omega) (by omega) (by omega)).mono ?_; rintro e w1 ⟨rfl, rfl⟩)
      go_round
      case rel => exact ⟨n + Cal.len y i, i + 1, rfl, rfl, by omega, by omega, by omega, by omega, by show _ = _; have := hn.out; rw [HN.out]; omega⟩
      case measure => simp [intOf]; omega
    · obtain rfl : i = m := by omega
      clear hlt
      go_wp2_with fail
      go_loop [8, 10] (fun vn vj => ∃ n j : Int, vn = .int .i64 n ∧ vj = .int .i64 j ∧ 2000 ≤ j ∧ j ≤ y ∧ 0 ≤ n ∧ n ≤ 300000 ∧ Hid (n = d - 1 + Cal.first (12 * y + i - 1) - Cal.first (12 * y) + Cal.first (12 * j))) (fun _ vj => (y - intOf vj).toNat)
      case atStart => exact ⟨n, 2000, rfl, rfl, by omega, by omega, by omega, by omega, by show _ = _; have := hn.out; rw [show (12 : Int) * 2000 = 24000 from rfl, Cal.first_2000]; omega⟩
      case round =>
        obtain ⟨n, j, rfl, rfl, j0, j1, n0, n1, hn⟩ := hrel
        by_cases hlt : j < y
        · have hyl := Cal.year_len j
          have hj := first_hi (k := 12 * j) (by omega) (by omega)
          have hj1 := first_hi (k := 12 * (j + 1)) (by omega) (by omega)
          have hnn : n ≤ 250000 := by have := hn.out; omega
          have HL := Lib.hid hyl
          clear hyl hj hj1
          by_cases hlp : Cal.leapB j = true
          · go_wp2_with (go_at_call 25; refine (leap_any _ _ (by omega)).mono ?_; rintro e w1 ⟨rfl, rfl⟩)
            go_round
            case rel => exact ⟨n + 365 + 1, j + 1, rfl, rfl, by omega, by omega, by omega, by omega, by show _ = _; have := hn.out; have hl := HL.out; rw [if_pos hlp] at hl; omega⟩
            case measure => simp [intOf]; omega
          · have hlf : Cal.leapB j = false := by simpa using hlp
            go_wp2_with (go_at_call 25; refine (leap_any _ _ (by omega)).mono ?_; rintro e w1 ⟨rfl, rfl⟩)
            go_round
            case rel => exact ⟨n + 365, j + 1, rfl, rfl, by omega, by omega, by omega, by omega, by show _ = _; have := hn.out; have hl := HL.out; rw [if_neg hlp] at hl; omega⟩
            case measure => simp [intOf]; omega
        · obtain rfl : j = y := by omega
          clear hlt
          have hv : n = Cal.first (12 * j + i - 1) + d - 1 := by have := hn.out; omega
          have HV := Lib.hid hv
          clear hv
          by_cases hk : n ≤ 100000
          · have ok : Cal.okDate j i d := ⟨j0, h1, h2, h3, h4, h5, by have := HV.out; omega⟩
            obtain ⟨a, b⟩ := Cal.yes_day ok
            have HA := Lib.hid a; have HB := Lib.hid b
            clear a b ok
            go_wp2_with (go_at_call 22; refine (rvalid_yes _ _ n0 hk).mono ?_; rintro e w1 ⟨rfl, rfl⟩)
            go_ret2
            exact ⟨ret2 (by rw [HA.out]; exact HV.out) HB.out.symm, rfl⟩
          · have ok : ¬ Cal.okDate j i d := fun ok => hk (by have := HV.out; have := ok.2.2.2.2.2.2; omega)
            obtain ⟨a, b⟩ := Cal.no_day ok
            have HA := Lib.hid a; have HB := Lib.hid b
            clear a b ok
            go_wp2_with (go_at_call 22; refine (rvalid_no _ _ (by omega)).mono ?_; rintro e w1 ⟨rfl, rfl⟩)
            go_ret2
            exact ⟨ret2 HA.out.symm HB.out.symm, rfl⟩

set_option maxHeartbeats 1000000 in
theorem rday_out (y m d : Int) (w : World) (h : ¬ (2000 ≤ y ∧ y ≤ 2300 ∧ 1 ≤ m ∧ m ≤ 12 ∧ 1 ≤ d ∧ d ≤ Cal.len y m)) :
    Calls Try.prog 12 #[.int .i64 y, .int .i64 m, .int .i64 d] w fun e w' => e = .returned (.tuple #[.int .i64 0, .int .i64 3]) ∧ w = w' := by
  by_cases hr : 2000 ≤ y ∧ y ≤ 2300 ∧ 1 ≤ m ∧ m ≤ 12 ∧ 1 ≤ d
  · obtain ⟨a1, a2, b1, b2, c1⟩ := hr
    have hd : Cal.len y m < d := by omega
    clear h
    go_enter Try.func12, Try.ntmps12
    go_wp2_with (go_at_call 23; refine (length_any _ _ _ (by omega) (by omega) (by omega)).mono ?_; rintro e w1 ⟨rfl, rfl⟩)
    go_ret2
    exact ⟨rfl, rfl⟩
  · clear h
    go_enter Try.func12, Try.ntmps12
    go_wp2_with (go_at_call 23; fail)
    all_goals first | (exfalso; omega) | (go_ret2; exact ⟨rfl, rfl⟩)

theorem rday_any (y m d : Int) (w : World) :
    Calls Try.prog 12 #[.int .i64 y, .int .i64 m, .int .i64 d] w fun e w' => e = .returned (.tuple #[.int .i64 (Cal.dayV y m d), .int .i64 (Cal.dayE y m d)]) ∧ w = w' := by
  by_cases h : 2000 ≤ y ∧ y ≤ 2300 ∧ 1 ≤ m ∧ m ≤ 12 ∧ 1 ≤ d ∧ d ≤ Cal.len y m
  · exact rday_in y m d w h.1 h.2.1 h.2.2.1 h.2.2.2.1 h.2.2.2.2.1 h.2.2.2.2.2
  · have ok : ¬ Cal.okDate y m d := fun ok => h ⟨ok.1, ok.2.1, ok.2.2.1, ok.2.2.2.1, ok.2.2.2.2.1, ok.2.2.2.2.2.1⟩
    rw [(Cal.no_day ok).1, (Cal.no_day ok).2]
    exact rday_out y m d w h
end Go.Proofs.Ytnknkjmaaagedaa
