/-
The walks of the reference's Fits, Open, Fit, Last.
-/
import Derived.Test.YtdbllcphopecjaaHR1
import Derived.Test.YtdbllcphopecjaaHPlain2
namespace Go.Proofs.Ytdbllcphopecjaa
open Go.RowKit

theorem drop_none {w : World} {A : Option Addr} {n k : Nat} {l : List (Int × Int)} (h : Wins w A n l) (hk : ¬ k < n) : l.drop k = [] := List.drop_eq_nil_of_le (by rw [← h.1]; omega)

set_option maxHeartbeats 1000000 in
theorem rfits_any (A : Option Addr) (n c : Nat) (l : List (Int × Int)) (t s : Int) (w : World) (hl : Wins w A n l) (hn : n ≤ 1000000000) :
    Calls Try.prog 49 #[.slice A n c, .int .i64 t, .int .i64 s] w fun e w' => e = .returned (.bool (H.fits l t s)) ∧ w = w' := by
  cases hm : H.minute t
  · have HF := Lib.hid (show H.fits l t s = false by simp [H.fits, hm])
    go_enter Try.func49, Try.ntmps49
    go_wp2_with (go_at_call 48; refine (rminute_any _ _).mono ?_; rintro e w1 ⟨rfl, rfl⟩)
    go_ret
    exact ⟨ret_b HF.out.symm, rfl⟩
  · cases hm2 : H.minute s
    · have HF := Lib.hid (show H.fits l t s = false by simp [H.fits, hm2])
      go_enter Try.func49, Try.ntmps49
      go_wp2_with (go_at_call 48; refine (rminute_any _ _).mono ?_; rintro e w1 ⟨rfl, rfl⟩)
      go_ret
      exact ⟨ret_b HF.out.symm, rfl⟩
    · obtain ⟨t0, t1⟩ := H.minute_iff.1 hm
      obtain ⟨s0, s1⟩ := H.minute_iff.1 hm2
      by_cases hts : t + s ≤ 1000000
      · have HF := Lib.hid (show H.fits l t s = (l.any (H.inWin t s) || decide (l.length = 0)) by simp [H.fits, hm, hm2, hts])
        go_enter Try.func49, Try.ntmps49
        go_wp2_with (go_at_call 48; refine (rminute_any _ _).mono ?_; rintro e w1 ⟨rfl, rfl⟩)
        go_loop [7] (fun vi => ∃ k : Nat, vi = .int .i64 k ∧ k ≤ n ∧ Hid (l.any (H.inWin t s) = (l.drop k).any (H.inWin t s))) (fun vi => n - (intOf vi).toNat)
        case atStart => exact ⟨0, rfl, by omega, by show _ = _; rw [List.drop_zero]⟩
        case round =>
          obtain ⟨k, rfl, hk, hr⟩ := hrel
          by_cases hlt : k < n
          · obtain ⟨ad, o, d, rfl, hg, c0, c1⟩ := hl.at_ hlt
            have HS := Lib.hid (drop_any (p := H.inWin t s) hg)
            clear hg
            by_cases h1 : o ≤ t
            · by_cases h2 : t + s ≤ d
              · go_wp2
                go_ret
                exact ⟨ret_b (by rw [HF.out, hr.out, HS.out]; simp [H.inWin, h1, h2]), rfl⟩
              · go_wp2
                go_round
                case rel => exact ⟨k + 1, by go_num, by omega, by show _ = _; rw [hr.out, HS.out]; simp [H.inWin]; omega⟩
                case measure => simp [intOf]; omega
            · have h1' : decide (o ≤ t) = false := by simpa using h1
              go_wp2
              go_round
              case rel => exact ⟨k + 1, by go_num, by omega, by show _ = _; rw [hr.out, HS.out]; simp [H.inWin]; omega⟩
              case measure => simp [intOf]; omega
          · have HD := Lib.hid (drop_none hl hlt)
            go_wp2
            go_ret
            refine ⟨ret_b ?_, rfl⟩
            rw [HF.out, hr.out, HD.out, ← hl.1, Bool.eq_iff_iff]
            simp
      · have HF := Lib.hid (show H.fits l t s = false by simp [H.fits, hts])
        go_enter Try.func49, Try.ntmps49
        go_wp2_with (go_at_call 48; refine (rminute_any _ _).mono ?_; rintro e w1 ⟨rfl, rfl⟩)
        go_ret
        exact ⟨ret_b HF.out.symm, rfl⟩

set_option maxHeartbeats 1000000 in
theorem ropen_any (A : Option Addr) (n c : Nat) (l : List (Int × Int)) (t : Int) (w : World) (hl : Wins w A n l) (hn : n ≤ 1000000000) :
    Calls Try.prog 38 #[.slice A n c, .int .i64 t] w fun e w' => e = .returned (.bool (H.isOpen l t)) ∧ Below w.heap.size w w' := by
  have HE := Lib.hid (H.open_eq l t)
  cases hr : H.right l
  · go_enter Try.func38, Try.ntmps38
    go_wp2_with (go_at_call 36; refine (rright_any _ _ _ l _ hl hn).mono ?_; rintro e w1 ⟨rfl, hb⟩)
    go_ret
    exact ⟨ret_b (by rw [HE.out]; simp [H.ropen, hr]), hb⟩
  · go_enter Try.func38, Try.ntmps38
    go_wp2_with (first
      | (go_at_call 36; refine (rright_any _ _ _ l _ hl hn).mono ?_; rintro e w1 ⟨rfl, hb⟩)
      | (go_at_call 49; refine (rfits_any _ _ _ l _ _ _ (hl.below hb) hn).mono ?_; rintro e w2 ⟨rfl, rfl⟩))
    go_ret
    exact ⟨ret_b (by rw [HE.out]; simp [H.ropen, hr]), hb⟩
end Go.Proofs.Ytdbllcphopecjaa
