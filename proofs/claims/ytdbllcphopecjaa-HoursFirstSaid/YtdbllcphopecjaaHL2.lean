/-
The walk of the law HoursFirst where the input is not right, and of HoursLast.
-/
import Derived.Test.YtdbllcphopecjaaH6
import Derived.Test.YtdbllcphopecjaaHPlain4
namespace Go.Proofs.Ytdbllcphopecjaa
open Go.RowKit

theorem few_yes' (n : Nat) (h : n ≤ 10) : decide (n ≤ 10) = true := by simpa using h
theorem few_no' (n : Nat) (h : ¬ n ≤ 10) : decide (n ≤ 10) = false := by simpa using h

set_option maxHeartbeats 4000000 in
theorem law_first_out (A : Option Addr) (n c : Nat) (l : List (Int × Int)) (t s o m : Int) (w : World) (hl : Wins w A n l) (h : ¬ (n ≤ 10 ∧ H.right l = true ∧ (0 ≤ t ∧ t ≤ 1000000) ∧ (0 ≤ s ∧ s ≤ 1000000))) :
    Calls Try.prog 8 #[.slice A n c, .int .i64 t, .int .i64 s, .int .i64 o, .int .i64 m] w fun e w' => e = .returned (.bool true) ∧ Below w.heap.size w w' := by
  by_cases hf : n ≤ 10
  · have HF := Lib.hid (few_yes' n hf)
    by_cases hg : (0 ≤ t ∧ t ≤ 1000000) ∧ (0 ≤ s ∧ s ≤ 1000000)
    · have hr : H.right l = false := by cases hr : H.right l; rfl; exact absurd ⟨hf, hr, hg⟩ h
      obtain ⟨⟨t0, t1⟩, s0, s1⟩ := hg
      clear h
      go_enter Try.func8, Try.ntmps8
      go_wp2_with fail
      refine (hsane_any _).mono ?_; rintro e w1 ⟨rfl, b1⟩
      go_wp2_with fail
      refine (hfew_any A n c _).mono ?_; rw [HF.out]; rintro e w2 ⟨rfl, rfl⟩
      go_wp2_with fail
      refine (hright_any A n c l _ (hl.below b1) (by omega)).mono ?_; rw [hr]; rintro e w2 ⟨rfl, b2⟩
      go_wp2_with fail
      go_ret
      exact ⟨rfl, bel b1 b2⟩
    · clear h
      go_enter Try.func8, Try.ntmps8
      go_wp2_with fail
      refine (hsane_any _).mono ?_; rintro e w1 ⟨rfl, b1⟩
      go_wp2_with fail
      refine (hfew_any A n c _).mono ?_; rw [HF.out]; rintro e w2 ⟨rfl, rfl⟩
      go_wp2_with fail
      all_goals first | (exfalso; omega) | (go_ret; exact ⟨rfl, b1⟩)
  · have HF := Lib.hid (few_no' n hf)
    clear h
    go_enter Try.func8, Try.ntmps8
    go_wp2_with fail
    refine (hsane_any _).mono ?_; rintro e w1 ⟨rfl, b1⟩
    go_wp2_with fail
    refine (hfew_any A n c _).mono ?_; rw [HF.out]; rintro e w2 ⟨rfl, rfl⟩
    go_wp2_with fail
    go_ret
    exact ⟨rfl, b1⟩

set_option maxHeartbeats 4000000 in
theorem law_last_out (A : Option Addr) (n c : Nat) (l : List (Int × Int)) (t s o : Int) (w : World) (hl : Wins w A n l) (h : ¬ (n ≤ 10 ∧ H.right l = true ∧ (0 ≤ t ∧ t ≤ 1000000) ∧ (0 ≤ s ∧ s ≤ 1000000))) :
    Calls Try.prog 9 #[.slice A n c, .int .i64 t, .int .i64 s, .int .i64 o] w fun e w' => e = .returned (.bool true) ∧ Below w.heap.size w w' := by
  by_cases hf : n ≤ 10
  · have HF := Lib.hid (few_yes' n hf)
    by_cases hg : (0 ≤ t ∧ t ≤ 1000000) ∧ (0 ≤ s ∧ s ≤ 1000000)
    · have hr : H.right l = false := by cases hr : H.right l; rfl; exact absurd ⟨hf, hr, hg⟩ h
      obtain ⟨⟨t0, t1⟩, s0, s1⟩ := hg
      clear h
      go_enter Try.func9, Try.ntmps9
      go_wp2_with fail
      refine (hsane_any _).mono ?_; rintro e w1 ⟨rfl, b1⟩
      go_wp2_with fail
      refine (hfew_any A n c _).mono ?_; rw [HF.out]; rintro e w2 ⟨rfl, rfl⟩
      go_wp2_with fail
      refine (hright_any A n c l _ (hl.below b1) (by omega)).mono ?_; rw [hr]; rintro e w2 ⟨rfl, b2⟩
      go_wp2_with fail
      go_ret
      exact ⟨rfl, bel b1 b2⟩
    · clear h
      go_enter Try.func9, Try.ntmps9
      go_wp2_with fail
      refine (hsane_any _).mono ?_; rintro e w1 ⟨rfl, b1⟩
      go_wp2_with fail
      refine (hfew_any A n c _).mono ?_; rw [HF.out]; rintro e w2 ⟨rfl, rfl⟩
      go_wp2_with fail
      all_goals first | (exfalso; omega) | (go_ret; exact ⟨rfl, b1⟩)
  · have HF := Lib.hid (few_no' n hf)
    clear h
    go_enter Try.func9, Try.ntmps9
    go_wp2_with fail
    refine (hsane_any _).mono ?_; rintro e w1 ⟨rfl, b1⟩
    go_wp2_with fail
    refine (hfew_any A n c _).mono ?_; rw [HF.out]; rintro e w2 ⟨rfl, rfl⟩
    go_wp2_with fail
    go_ret
    exact ⟨rfl, b1⟩

set_option maxRecDepth 100000 in
set_option maxHeartbeats 8000000 in
theorem law_last_in (A : Option Addr) (n c : Nat) (l : List (Int × Int)) (t s o : Int) (w : World) (hl : Wins w A n l) (hf : n ≤ 10) (hr : H.right l = true) (t0 : 0 ≤ t) (t1 : t ≤ 1000000) (s0 : 0 ≤ s) (s1 : s ≤ 1000000) :
    Calls Try.prog 9 #[.slice A n c, .int .i64 t, .int .i64 s, .int .i64 o] w fun e w' => e = .returned (.bool true) ∧ Below w.heap.size w w' := by
  have HF := Lib.hid (few_yes' n hf)
  have H1 := Lib.hid (H.last_one (l := l) hr ⟨t0, t1⟩ ⟨s0, s1⟩)
  have H2 := Lib.hid (fun h1 h2 => H.last_two (l := l) (t := o) hr ⟨t0, t1⟩ ⟨s0, s1⟩ h1 h2)
  go_enter Try.func9, Try.ntmps9
  go_wp2_with fail
  refine (hsane_any _).mono ?_; rintro e w1 ⟨rfl, b1⟩
  go_wp2_with fail
  have hl1 := hl.below b1
  refine (hfew_any A n c _).mono ?_; rw [HF.out]; rintro e w2 ⟨rfl, rfl⟩
  go_wp2_with fail
  refine (hright_any A n c l _ hl1 (by omega)).mono ?_; rw [hr]; rintro e w2 ⟨rfl, b2⟩
  go_wp2_with fail
  have hl2 := hl1.below b2
  clear hr
  refine (last_any A n c l _ _ _ hl2 (by omega)).mono ?_; rintro e w3 ⟨rfl, b3⟩
  have hcur := hl2.below b3
  have bb := bel (bel b1 b2) b3
  clear b1 b2 b3 hl1 hl2
  cases hi : (H.last l t s).2
  · go_wp2_with fail
    refine (fit_any A n c l _ _ _ hcur (by omega)).mono ?_; rintro e w4 ⟨rfl, b4⟩
    cases hh : (H.fit l o s).2
    · go_wp2_with fail
      go_ret
      exact ⟨rfl, bel bb b4⟩
    · by_cases hz : (H.fit l o s).1 ≤ t - s
      · exfalso
        have := (H2.out hh hz).1
        rw [hi] at this; cases this
      · have hz' : t - s < (H.fit l o s).1 := by omega
        clear hz
        go_wp2_with fail
        go_ret
        exact ⟨rfl, bel bb b4⟩
  · obtain ⟨x0, x1, o1, o2⟩ := H1.out hi
    have O1 := Lib.hid o1; have O2 := Lib.hid o2
    clear o1 o2
    go_wp2_with fail
    refine (fit_any A n c l _ _ _ hcur (by omega)).mono ?_; rw [O1.out, O2.out]; rintro e w4 ⟨rfl, b4⟩
    go_wp2_with fail
    refine (fit_any A n c l _ _ _ (hcur.below b4) (by omega)).mono ?_; rintro e w5 ⟨rfl, b5⟩
    cases hh : (H.fit l o s).2
    · go_wp2_with fail
      go_ret
      exact ⟨rfl, bel (bel bb b4) b5⟩
    · by_cases hz : (H.fit l o s).1 ≤ t - s
      · have hx := (H2.out hh hz).2
        have hz' : decide (t - s < (H.fit l o s).1) = false := by simpa using hz
        go_wp2_with fail
        go_ret
        exact ⟨rfl, bel (bel bb b4) b5⟩
      · have hz' : t - s < (H.fit l o s).1 := by omega
        clear hz
        go_wp2_with fail
        go_ret
        exact ⟨rfl, bel (bel bb b4) b5⟩

theorem law_last (A : Option Addr) (n c : Nat) (l : List (Int × Int)) (t s o : Int) (w : World) (hl : Wins w A n l) :
    Calls Try.prog 9 #[.slice A n c, .int .i64 t, .int .i64 s, .int .i64 o] w fun e w' => e = .returned (.bool true) ∧ Below w.heap.size w w' := by
  by_cases h : n ≤ 10 ∧ H.right l = true ∧ (0 ≤ t ∧ t ≤ 1000000) ∧ (0 ≤ s ∧ s ≤ 1000000)
  · exact law_last_in A n c l t s o w hl h.1 h.2.1 h.2.2.1.1 h.2.2.1.2 h.2.2.2.1 h.2.2.2.2
  · exact law_last_out A n c l t s o w hl h
end Go.Proofs.Ytdbllcphopecjaa
