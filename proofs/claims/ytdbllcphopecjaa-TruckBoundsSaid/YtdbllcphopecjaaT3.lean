/-
The walk of the reference's Check.
-/
import Derived.Test.YtdbllcphopecjaaT2
namespace Go.Proofs.Ytdbllcphopecjaa
open Go.RowKit

set_option maxRecDepth 100000 in
set_option maxHeartbeats 4000000 in
theorem rcheck_any (s : S) (w : World) (hl : Ints w s.A s.n s.l) (hn : s.n ≤ 1000000000) :
    Calls Try.prog 17 #[.agg #[.int .i64 s.day, .int .i64 s.depot, .int .i64 s.start, .int .i64 s.end_, .int .i64 s.tare, .slice s.A s.n s.c]] w fun e w' => e = .returned (.int .i64 (T.check s)) ∧ Below w.heap.size w w' := by
  obtain ⟨dy, dp, st, en, ta, A, n, c, l⟩ := s
  simp only at hl hn ⊢
  have b1 : Below w.heap.size w (w.alloc (.cells #[.int .i64 dy, .int .i64 dp, .int .i64 st, .int .i64 en, .int .i64 ta, .slice A n c] 24)) := (Below.refl _ _).alloc (Nat.le_refl _) _
  cases h1 : T.btw dy 0 100000
  · go_enter Try.func17, Try.ntmps17
    go_wp2_with fail
    refine (rin_any _ _ _ _).mono ?_; rw [h1]; rintro e w1 ⟨rfl, rfl⟩
    go_wp2_with fail
    go_ret
    exact ⟨ret_i (T.check_day h1).symm, b1⟩
  · have H1 := Lib.hid h1
    clear h1
    cases h2 : T.btw dp 0 99
    · have HD := Lib.hid (show T.dated ⟨dy, dp, st, en, ta, A, n, c, l⟩ = false by simp [T.dated, h2])
      have H2 := Lib.hid h2
      clear h2
      go_enter Try.func17, Try.ntmps17
      go_wp2_with fail
      refine (rin_any _ _ _ _).mono ?_; rw [H1.out]; rintro e w1 ⟨rfl, rfl⟩
      go_wp2_with fail
      refine (rin_any _ _ _ _).mono ?_; rw [H2.out]; rintro e w1 ⟨rfl, rfl⟩
      go_wp2_with fail
      go_ret
      exact ⟨ret_i (T.check_arg H1.out HD.out).symm, b1⟩
    · have H2 := Lib.hid h2
      by_cases h3 : 0 ≤ st
      · have q3 : decide (st < 0) = false := by simpa using h3
        cases h4 : T.btw en st 1000000
        · have HD := Lib.hid (show T.dated ⟨dy, dp, st, en, ta, A, n, c, l⟩ = false by simp only [T.dated, h2, Bool.true_and]; unfold T.btw at h4; rw [h4, Bool.and_false])
          have H4 := Lib.hid h4
          clear h2 h3 h4
          go_enter Try.func17, Try.ntmps17
          go_wp2_with fail
          refine (rin_any _ _ _ _).mono ?_; rw [H1.out]; rintro e w1 ⟨rfl, rfl⟩
          go_wp2_with fail
          refine (rin_any _ _ _ _).mono ?_; rw [H2.out]; rintro e w1 ⟨rfl, rfl⟩
          go_wp2_with fail
          refine (rin_any _ _ _ _).mono ?_; rw [H4.out]; rintro e w1 ⟨rfl, rfl⟩
          go_wp2_with fail
          go_ret
          exact ⟨ret_i (T.check_arg H1.out HD.out).symm, b1⟩
        · have HD := Lib.hid (show T.dated ⟨dy, dp, st, en, ta, A, n, c, l⟩ = true by simp only [T.dated, h2, Bool.true_and]; unfold T.btw at h4; rw [h4, Bool.and_true]; simpa using h3)
          have H4 := Lib.hid h4
          clear h2 h3 h4
          by_cases h6 : 3 < n
          · have q6 : decide ((3 : Int) < (n : Int)) = true := by simp; omega
            have HF := Lib.hid (T.check_full (s := ⟨dy, dp, st, en, ta, A, n, c, l⟩) H1.out HD.out (by rw [← hl.1]; exact h6))
            go_enter Try.func17, Try.ntmps17
            go_wp2_with fail
            refine (rin_any _ _ _ _).mono ?_; rw [H1.out]; rintro e w1 ⟨rfl, rfl⟩
            go_wp2_with fail
            refine (rin_any _ _ _ _).mono ?_; rw [H2.out]; rintro e w1 ⟨rfl, rfl⟩
            go_wp2_with fail
            refine (rin_any _ _ _ _).mono ?_; rw [H4.out]; rintro e w1 ⟨rfl, rfl⟩
            go_wp2_with fail
            go_ret
            exact ⟨ret_i HF.out.symm, b1⟩
          · have q6 : decide ((3 : Int) < (n : Int)) = false := by simp; omega
            have HF := Lib.hid (T.check_heavy (s := ⟨dy, dp, st, en, ta, A, n, c, l⟩) H1.out HD.out (by rw [← hl.1]; exact h6))
            have hl1 := hl.below b1
            go_enter Try.func17, Try.ntmps17
            go_wp2_with fail
            refine (rin_any _ _ _ _).mono ?_; rw [H1.out]; rintro e w1 ⟨rfl, rfl⟩
            go_wp2_with fail
            refine (rin_any _ _ _ _).mono ?_; rw [H2.out]; rintro e w1 ⟨rfl, rfl⟩
            go_wp2_with fail
            refine (rin_any _ _ _ _).mono ?_; rw [H4.out]; rintro e w1 ⟨rfl, rfl⟩
            go_wp2_with fail
            refine (rin_any _ _ _ _).mono ?_; rintro e w1 ⟨rfl, rfl⟩
            go_wp2_with fail
            go_loopw [3, 4] (fun vh vi wr => ∃ (hv : Bool) (k : Nat), vh = .bool hv ∧ vi = .int .i64 k ∧ k ≤ n ∧ Hid (T.heavy (ta :: l) = (hv || T.heavy (l.drop k))) ∧ w.alloc (.cells #[.int .i64 dy, .int .i64 dp, .int .i64 st, .int .i64 en, .int .i64 ta, .slice A n c] 24) = wr) (fun _ vi _ => n - (intOf vi).toNat)
            case atStart => exact ⟨_, 0, rfl, rfl, by omega, rfl, rfl⟩
            case round =>
              obtain ⟨hv, k, rfl, rfl, hk, hr, rfl⟩ := hrel
              by_cases hlt : k < n
              · obtain ⟨ad, x, rfl, hg, c0⟩ := hl1.at_ hlt
                have HS := Lib.hid (T.heavy_drop hg)
                clear hg
                cases hv
                · go_wp2_with fail
                  refine (rin_any _ _ _ _).mono ?_; rintro e w1 ⟨rfl, rfl⟩
                  go_wp2_with fail
                  go_roundw
                  case rel => exact ⟨_, k + 1, rfl, by go_num, by omega, by show _ = _; rw [hr.out, HS.out]; rfl, trivial⟩
                  case measure => simp [intOf]; omega
                · go_wp2_with fail
                  go_roundw
                  case rel => exact ⟨true, k + 1, rfl, by go_num, by omega, by show _ = _; rw [hr.out]; rfl, trivial⟩
                  case measure => simp [intOf]; omega
              · have hd : l.drop k = [] := List.drop_eq_nil_of_le (by rw [← hl.1]; omega)
                have HN := Lib.hid hd
                clear hd
                cases hv
                · go_wp2_with fail
                  go_ret
                  exact ⟨ret_i (Eq.symm (by rw [HF.out, hr.out, HN.out]; rfl)), b1⟩
                · go_wp2_with fail
                  go_ret
                  exact ⟨ret_i (Eq.symm (by rw [HF.out, hr.out, HN.out]; rfl)), b1⟩
      · have HD := Lib.hid (show T.dated ⟨dy, dp, st, en, ta, A, n, c, l⟩ = false by simp [T.dated, h2]; omega)
        have q3 : decide (st < 0) = true := by simpa using h3
        clear h2 h3
        go_enter Try.func17, Try.ntmps17
        go_wp2_with fail
        refine (rin_any _ _ _ _).mono ?_; rw [H1.out]; rintro e w1 ⟨rfl, rfl⟩
        go_wp2_with fail
        refine (rin_any _ _ _ _).mono ?_; rw [H2.out]; rintro e w1 ⟨rfl, rfl⟩
        go_wp2_with fail
        go_ret
        exact ⟨ret_i (T.check_arg H1.out HD.out).symm, b1⟩
end Go.Proofs.Ytdbllcphopecjaa
