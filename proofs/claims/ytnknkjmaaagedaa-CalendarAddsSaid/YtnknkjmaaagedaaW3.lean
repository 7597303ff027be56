/-
The walk of Date.
-/
import Derived.Test.YtnknkjmaaagedaaW2
import Derived.Test.YtnknkjmaaagedaaPlain2
import Derived.Deep.DeepCutAuto
namespace Go.Proofs.Ytnknkjmaaagedaa
open Go.RowKit

theorem results_tmp4 {fn : Func} {t u v x : Tmp} (h : fn.results = #[.tmp t, .tmp u, .tmp v, .tmp x]) (tmps : Array Value) (P : Program) (w : World) :
    (results fn tmps).run P w = .ok (.tuple #[tmps.getD t undef, tmps.getD u undef, tmps.getD v undef, tmps.getD x undef]) w := by simp [results, h]

theorem ret4 {a b c d a' b' c' d' : Int} (h1 : a = a') (h2 : b = b') (h3 : c = c') (h4 : d = d') :
    Ending.returned (.tuple #[.int .i64 a, .int .i64 b, .int .i64 c, .int .i64 d]) = .returned (.tuple #[.int .i64 a', .int .i64 b', .int .i64 c', .int .i64 d']) := by
  rw [h1, h2, h3, h4]

set_option maxHeartbeats 400000 in
theorem date_no (d : Int) (w : World) (h0 : d < 0 ∨ 100000 < d) :
    Calls Try.prog 9 #[.int .i64 d] w fun e w' => e = .returned (.tuple #[.int .i64 0, .int .i64 0, .int .i64 0, .int .i64 3]) ∧ w = w' := by
  go_enter Try.func9, Try.ntmps9
  go_wp2_with (go_at_call 20; refine (valid_no _ _ h0).mono ?_; rintro e w' ⟨rfl, rfl⟩)
  refine bodyPost_ret (results_tmp4 rfl _ _ _) rfl ?_
  exact ⟨rfl, rfl⟩

set_option maxHeartbeats 1000000 in
theorem date_yes (d : Int) (w : World) (h0 : 0 ≤ d) (h1 : d ≤ 100000) :
    Calls Try.prog 9 #[.int .i64 d] w fun e w' => e = .returned (.tuple #[.int .i64 (Cal.mon d / 12), .int .i64 (Cal.mon d % 12 + 1), .int .i64 (d - Cal.first (Cal.mon d) + 1), .int .i64 0]) ∧ Below w.heap.size w w' := by
  go_enter Try.func9, Try.ntmps9
  go_upto_region 6 with (go_at_call 20; refine (valid_yes _ _ h0 h1).mono ?_; rintro e w' ⟨rfl, rfl⟩)
  go_cut [7] (fun s7 wx => ∃ q : Int, s7 = .int .i64 q ∧ w = wx ∧ 0 ≤ q ∧ q ≤ 3 ∧ 0 ≤ (d + 730425) % 146097 - q * 36524 ∧ (q < 3 → (d + 730425) % 146097 - q * 36524 < 36524))
  case first =>
    go_wp2
    all_goals (go_meet; refine ⟨_, rfl, rfl, ?_, ?_, ?_, ?_⟩ <;> omega)
  case rest =>
    obtain ⟨q, rfl, rfl, q0, q1, q2, q3⟩ := hcut
    go_upto_region 11 with fail
    go_cut [7] (fun s7 wx => ∃ p : Int, s7 = .int .i64 p ∧ w = wx ∧ 0 ≤ p ∧ p ≤ 3 ∧ 0 ≤ ((d + 730425) % 146097 - q * 36524) % 1461 - p * 365 ∧ (p < 3 → ((d + 730425) % 146097 - q * 36524) % 1461 - p * 365 < 365))
    case first =>
      go_wp2
      all_goals (go_meet; refine ⟨_, rfl, rfl, ?_, ?_, ?_, ?_⟩ <;> omega)
    case rest =>
      obtain ⟨p, rfl, rfl, p0, p1, p2, p3⟩ := hcut
      go_upto_region 14 with fail
      go_cut [2, 6, 8] (fun vy vn vm wx => ∃ Y R : Int, vy = .int .i64 Y ∧ vn = .int .i64 R ∧ vm = .int .i64 11 ∧ w = wx ∧ 0 ≤ R ∧ R ≤ 1000 ∧ 0 ≤ Y ∧ Y ≤ 10000 ∧ Hid (Cal.dby Y + R = d + 730425 ∧ 0 ≤ R ∧ d + 730425 < Cal.dby (Y + 1)))
      case first =>
        go_wp2
        go_meet
        refine ⟨_, _, rfl, rfl, rfl, rfl, by omega, by omega, by omega, by omega, ?_⟩
        exact Cal.year_ok (d + 730425) ((d + 730425) / 146097) ((d + 730425) % 146097) q ((d + 730425) % 146097 - q * 36524) (((d + 730425) % 146097 - q * 36524) / 1461) (((d + 730425) % 146097 - q * 36524) % 1461) p (((d + 730425) % 146097 - q * 36524) % 1461 - p * 365) _ (by omega) (by omega) (by omega) (by omega)
          q0 q1 q2 q3 (by omega) (by omega) (by omega) (by omega) p0 p1 p2 p3 rfl
      case rest =>
        obtain ⟨Y, R, rfl, rfl, rfl, rfl, R0, R1, Y0, Y1, Hy⟩ := hcut
        clear q0 q1 q2 q3 p0 p1 p2 p3
        go_wp2_with fail
        go_loopw [8] (fun vm wr => ∃ m : Int, vm = .int .i64 m ∧ 0 ≤ m ∧ m ≤ 11 ∧ (m < 11 → R < (153 * (m + 1) + 2) / 5) ∧ Below w.heap.size w wr) (fun vm _ => (intOf vm).toNat)
        case atStart => exact ⟨11, rfl, by omega, by omega, by omega, Below.refl _ _⟩
        case round =>
          obtain ⟨m, rfl, m0, m1, hm, hb⟩ := hrel
          by_cases hlt : R < (153 * m + 2) / 5
          · have hm0 : 1 ≤ m := by omega
            go_wp2_with (go_at_call 21; refine (before_any _ _ (by omega) (by omega)).mono ?_; rintro e w1 ⟨rfl, hb1⟩)
            go_roundw
            case rel => exact ⟨m - 1, rfl, by omega, by omega, fun _ => by rw [Int.sub_add_cancel]; exact hlt, bel hb hb1⟩
            case measure => simp [intOf]; omega
          · by_cases h10 : 10 ≤ m
            · go_wp2_with (go_at_call 21; refine (before_any _ _ (by omega) (by omega)).mono ?_; rintro e w1 ⟨rfl, hb1⟩; have hc1 := bel hb hb1; clear hb hb1; have hb := hc1; clear hc1)
              refine bodyPost_ret (results_tmp4 rfl _ _ _) rfl ?_
              have hk := Cal.date_hi (Cal.mon_of_year Hy.out.1 Hy.out.2.2 m0 m1 (by omega) hm) h10 m1
              exact ⟨ret4 hk.1 hk.2.1 hk.2.2 rfl, hb⟩
            · go_wp2_with (go_at_call 21; refine (before_any _ _ (by omega) (by omega)).mono ?_; rintro e w1 ⟨rfl, hb1⟩; have hc1 := bel hb hb1; clear hb hb1; have hb := hc1; clear hc1)
              refine bodyPost_ret (results_tmp4 rfl _ _ _) rfl ?_
              have hk := Cal.date_lo (Cal.mon_of_year Hy.out.1 Hy.out.2.2 m0 m1 (by omega) hm) m0 (by omega)
              exact ⟨ret4 hk.1 hk.2.1 hk.2.2 rfl, hb⟩
end Go.Proofs.Ytnknkjmaaagedaa
