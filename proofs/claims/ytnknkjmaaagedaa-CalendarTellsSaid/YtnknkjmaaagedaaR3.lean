/-
The walk of the reference's Add.
-/
import Derived.Test.YtnknkjmaaagedaaR2
namespace Go.Proofs.Ytnknkjmaaagedaa
open Go.RowKit

theorem radd_eq {a b y m : Int} (h : Cal.okDay a) (hk : 12 * y + m - 1 = Cal.mon a + b) (h1 : 1 ≤ m) (h2 : m ≤ 12) :
    Cal.dayV y m (min (Cal.dateD a) (Cal.len y m)) = Cal.addV a b ∧ Cal.dayE y m (min (Cal.dateD a) (Cal.len y m)) = Cal.addE a b := by
  have hp := Cal.plus_def (b := b) h
  have hl := len_bd y m
  have hd := Cal.date_yes_bounds h
  have hle : Cal.len y m = Cal.first (Cal.mon a + b + 1) - Cal.first (Cal.mon a + b) := by
    unfold Cal.len; rw [hk, show 12 * y + m = Cal.mon a + b + 1 by omega]
  have hle' : Cal.first (12 * y + m) - Cal.first (12 * y + m - 1) = Cal.len y m := rfl
  have hv : Cal.first (12 * y + m - 1) + min (Cal.dateD a) (Cal.len y m) - 1 = Cal.plus a b := by rw [hp, hk, hle]
  by_cases ho : Cal.okAdd a b
  · have ok : Cal.okDate y m (min (Cal.dateD a) (Cal.len y m)) := by
      obtain ⟨_, a1, a2, a3⟩ := ho
      refine ⟨by omega, by omega, h1, h2, by omega, by rw [hle']; omega, by rw [hv]; exact a3⟩
    rw [(Cal.yes_day ok).1, (Cal.yes_day ok).2, (Cal.yes_add ho).1, (Cal.yes_add ho).2, hv]
    exact ⟨rfl, rfl⟩
  · have ok : ¬ Cal.okDate y m (min (Cal.dateD a) (Cal.len y m)) := by
      intro ok
      obtain ⟨a1, a2, _, _, a5, _, a7⟩ := ok
      rw [hv] at a7
      refine ho ⟨h, by omega, ?_, a7⟩
      by_cases hc : Cal.mon a + b ≤ 27600
      · exact hc
      · have hf := Cal.first_mono (k := 27600) (l := Cal.mon a + b) (by omega)
        rw [show Cal.first 27600 = 109573 by decide] at hf
        omega
    rw [(Cal.no_day ok).1, (Cal.no_day ok).2, (Cal.no_add ho).1, (Cal.no_add ho).2]
    exact ⟨rfl, rfl⟩

set_option maxHeartbeats 2000000 in
theorem radd_in (a b : Int) (w : World) (h : Cal.okDay a) (hb0 : -5000 ≤ b) (hb1 : b ≤ 5000) :
    Calls Try.prog 16 #[.int .i64 a, .int .i64 b] w fun e w' => e = .returned (.tuple #[.int .i64 (Cal.addV a b), .int .i64 (Cal.addE a b)]) ∧ w = w' := by
  have e0 := (Cal.yes_date h).2.2.2
  have hm1 := (Cal.mon_spec h.1).2.2
  have hm2 := Cal.mon_le h.1 h.2
  obtain ⟨a1, a2, b1, b2, c1, c2, hk⟩ := Cal.date_yes_bounds h
  have HE := Lib.hid e0; have HK := Lib.hid hk; have H := Lib.hid h
  clear e0 hk h
  go_enter Try.func16, Try.ntmps16
  go_wp2_with (go_at_call 10; refine (rdate_any _ _).mono ?_; rw [HE.out]; rintro e w1 ⟨rfl, rfl⟩)
  go_loop [6, 7, 10] (fun vy vm vi => ∃ y m i : Int, vy = .int .i64 y ∧ vm = .int .i64 m ∧ vi = .int .i64 i ∧ 0 ≤ i ∧ (i ≤ b ∨ i = 0) ∧ 1 ≤ m ∧ m ≤ 12 ∧ 2000 ≤ y ∧ y ≤ 4000 ∧ Hid (12 * y + m - 1 = Cal.mon a + i)) (fun _ _ vi => (b - intOf vi).toNat)
  case atStart => exact ⟨_, _, 0, rfl, rfl, rfl, by omega, by omega, b1, b2, a1, by omega, by show _ = _; have := HK.out; omega⟩
  case round =>
    obtain ⟨y, m, i, rfl, rfl, rfl, i0, i1, m0, m1, y0, y1, hi⟩ := hrel
    by_cases hlt : i < b
    · have hy : y ≤ 3000 := by have := hi.out; omega
      by_cases h12 : m = 12
      · subst h12
        go_wp2_with fail
        go_round
        case rel => exact ⟨y + 1, 1, i + 1, rfl, rfl, rfl, by omega, by omega, by omega, by omega, by omega, by omega, by show _ = _; have := hi.out; omega⟩
        case measure => simp [intOf]; omega
      · have h13 : m < 12 := by omega
        clear h12
        go_wp2_with fail
        go_round
        case rel => exact ⟨y, m + 1, i + 1, rfl, rfl, rfl, by omega, by omega, by omega, by omega, by omega, by omega, by show _ = _; have := hi.out; omega⟩
        case measure => simp [intOf]; omega
    · have hi' : Hid (12 * y + m - 1 = Cal.mon a + (if 0 ≤ b then b else 0)) := by
        show _ = _
        have := hi.out
        split <;> omega
      clear hi
      go_wp2_with fail
      go_loop [6, 7, 11] (fun vy vm vi => ∃ y m i : Int, vy = .int .i64 y ∧ vm = .int .i64 m ∧ vi = .int .i64 i ∧ i ≤ 0 ∧ (b ≤ i ∨ i = 0) ∧ 1 ≤ m ∧ m ≤ 12 ∧ 1000 ≤ y ∧ y ≤ 4000 ∧ Hid (12 * y + m - 1 = Cal.mon a + (if 0 ≤ b then b else i))) (fun _ _ vi => (intOf vi - b).toNat)
      case atStart => exact ⟨y, m, 0, rfl, rfl, rfl, by omega, by omega, m0, m1, by omega, by omega, hi'⟩
      case round =>
        obtain ⟨y, m, i, rfl, rfl, rfl, i0, i1, m0, m1, y0, y1, hi⟩ := hrel
        by_cases hlt : b < i
        · have hi2 : 12 * y + m - 1 = Cal.mon a + i := by have := hi.out; rwa [if_neg (by omega)] at this
          have hy : 1001 ≤ y := by omega
          have HI := Lib.hid hi2
          clear hi hi2
          by_cases h12 : m = 1
          · subst h12
            go_wp2_with fail
            go_round
            case rel => exact ⟨y - 1, 12, i - 1, rfl, rfl, rfl, by omega, by omega, by omega, by omega, by omega, by omega, by show _ = _; have := HI.out; rw [if_neg (by omega)]; omega⟩
            case measure => simp [intOf]; omega
          · have h13 : 1 < m := by omega
            clear h12
            go_wp2_with fail
            go_round
            case rel => exact ⟨y, m - 1, i - 1, rfl, rfl, rfl, by omega, by omega, by omega, by omega, by omega, by omega, by show _ = _; have := HI.out; rw [if_neg (by omega)]; omega⟩
            case measure => simp [intOf]; omega
        · have hi2 : 12 * y + m - 1 = Cal.mon a + b := by have := hi.out; split at this <;> omega
          obtain ⟨v1, v2⟩ := radd_eq H.out hi2 m0 m1
          have V1 := Lib.hid v1; have V2 := Lib.hid v2
          have hl := len_bd y m
          clear hi hi2 v1 v2
          by_cases hc : Cal.dateD a ≤ Cal.len y m
          · have V3 := V1.out; have V4 := V2.out
            rw [Int.min_eq_left hc] at V3 V4
            have V5 := Lib.hid V3; have V6 := Lib.hid V4
            clear V3 V4
            go_wp2_with (first
              | (go_at_call 23; refine (length_any _ _ _ (by omega) (by omega) (by omega)).mono ?_; rintro e w1 ⟨rfl, rfl⟩)
              | (go_at_call 12; refine (rday_any _ _ _ _).mono ?_; rintro e w2 ⟨rfl, rfl⟩))
            go_ret2
            exact ⟨ret2 V5.out V6.out, rfl⟩
          · have V3 := V1.out; have V4 := V2.out
            rw [Int.min_eq_right (by omega)] at V3 V4
            have V5 := Lib.hid V3; have V6 := Lib.hid V4
            clear V3 V4
            go_wp2_with (first
              | (go_at_call 23; refine (length_any _ _ _ (by omega) (by omega) (by omega)).mono ?_; rintro e w1 ⟨rfl, rfl⟩)
              | (go_at_call 12; refine (rday_any _ _ _ _).mono ?_; rintro e w2 ⟨rfl, rfl⟩))
            go_ret2
            exact ⟨ret2 V5.out V6.out, rfl⟩

theorem radd_any (a b : Int) (w : World) :
    Calls Try.prog 16 #[.int .i64 a, .int .i64 b] w fun e w' => e = .returned (.tuple #[.int .i64 (Cal.addV a b), .int .i64 (Cal.addE a b)]) ∧ w = w' := by
  by_cases h : Cal.okDay a
  · by_cases hb : -5000 ≤ b ∧ b ≤ 5000
    · exact radd_in a b w h hb.1 hb.2
    · have hm1 := (Cal.mon_spec h.1).2.2
      have hm2 := Cal.mon_le h.1 h.2
      have ho : ¬ Cal.okAdd a b := fun ho => hb ⟨by have := ho.2.1; omega, by have := ho.2.2.1; omega⟩
      have e0 := (Cal.yes_date h).2.2.2
      have HE := Lib.hid e0
      rw [(Cal.no_add ho).1, (Cal.no_add ho).2]
      clear e0 ho h
      go_enter Try.func16, Try.ntmps16
      go_wp2_with (go_at_call 10; refine (rdate_any _ _).mono ?_; rw [HE.out]; rintro e w1 ⟨rfl, rfl⟩)
      all_goals first | (exfalso; omega) | (go_ret2; exact ⟨rfl, rfl⟩)
  · have ho : ¬ Cal.okAdd a b := fun ho => h ho.1
    have e0 := (Cal.no_date h).2.2.2
    have HE := Lib.hid e0
    rw [(Cal.no_add ho).1, (Cal.no_add ho).2]
    clear e0 ho h
    go_enter Try.func16, Try.ntmps16
    go_wp2_with (go_at_call 10; refine (rdate_any _ _).mono ?_; rw [HE.out]; rintro e w1 ⟨rfl, rfl⟩)
    go_ret2
    exact ⟨rfl, rfl⟩
end Go.Proofs.Ytnknkjmaaagedaa
