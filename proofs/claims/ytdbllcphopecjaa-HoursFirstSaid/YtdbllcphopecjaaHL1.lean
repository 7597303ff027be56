/-
The walks of the laws HoursFirst and HoursLast.
-/
import Derived.Test.YtdbllcphopecjaaH6
import Derived.Test.YtdbllcphopecjaaHPlain4
namespace Go.Proofs.Ytdbllcphopecjaa
open Go.RowKit

theorem few_yes (n : Nat) (h : n ≤ 10) : decide (n ≤ 10) = true := by simpa using h
theorem few_no (n : Nat) (h : ¬ n ≤ 10) : decide (n ≤ 10) = false := by simpa using h

theorem first_o {l : List (Int × Int)} {t s : Int} (hr : H.right l = true) (ht : 0 ≤ t ∧ t ≤ 1000000) (hs : 0 ≤ s ∧ s ≤ 1000000) (o : Int) :
    (o < t) ∨ (t ≤ o ∧ 1000000 < o) ∨ (t ≤ o ∧ o ≤ 1000000 ∧ (H.fit l o s).2 = false ∧ ((H.fit l t s).2 = false ∨ (H.fit l t s).1 < o)) ∨
    (t ≤ o ∧ o ≤ 1000000 ∧ (H.fit l o s).2 = true ∧ (H.fit l t s).2 = true ∧ (H.fit l t s).1 < o ∧ (H.fit l t s).1 ≤ (H.fit l o s).1) ∨
    (t ≤ o ∧ o ≤ 1000000 ∧ (H.fit l o s).2 = true ∧ (H.fit l t s).2 = true ∧ o ≤ (H.fit l t s).1 ∧ (H.fit l o s).1 = (H.fit l t s).1) := by
  by_cases h1 : t ≤ o
  · by_cases h2 : o ≤ 1000000
    · obtain ⟨a, b⟩ := H.first_two (l := l) (o := o) hr ht hs ⟨h1, h2⟩
      cases h3 : (H.fit l o s).2
      · refine .inr (.inr (.inl ⟨h1, h2, rfl, ?_⟩))
        cases h4 : (H.fit l t s).2
        · exact .inl rfl
        · right
          by_cases h5 : o ≤ (H.fit l t s).1
          · have := (b h4 h5).1; rw [h3] at this; cases this
          · omega
      · obtain ⟨c1, c2⟩ := a h3
        by_cases h5 : o ≤ (H.fit l t s).1
        · exact .inr (.inr (.inr (.inr ⟨h1, h2, rfl, c1, h5, (b c1 h5).2⟩)))
        · exact .inr (.inr (.inr (.inl ⟨h1, h2, rfl, c1, by omega, c2⟩)))
    · exact .inr (.inl ⟨h1, by omega⟩)
  · exact .inl (by omega)

theorem first_m {l : List (Int × Int)} {t s : Int} (hr : H.right l = true) (ht : 0 ≤ t ∧ t ≤ 1000000) (hs : 0 ≤ s ∧ s ≤ 1000000) (m : Int) :
    (m < s) ∨ (s ≤ m ∧ 1000000 < m) ∨ (s ≤ m ∧ m ≤ 1000000 ∧ (H.fit l t m).2 = false) ∨ (s ≤ m ∧ m ≤ 1000000 ∧ (H.fit l t m).2 = true ∧ (H.fit l t s).2 = true ∧ (H.fit l t s).1 ≤ (H.fit l t m).1) := by
  by_cases h1 : s ≤ m
  · by_cases h2 : m ≤ 1000000
    · cases h3 : (H.fit l t m).2
      · exact .inr (.inr (.inl ⟨h1, h2, rfl⟩))
      · obtain ⟨a, b⟩ := H.first_three (l := l) (m := m) hr ht hs ⟨h1, h2⟩ h3
        exact .inr (.inr (.inr ⟨h1, h2, rfl, a, b⟩))
    · exact .inr (.inl ⟨h1, by omega⟩)
  · exact .inl (by omega)

set_option maxRecDepth 100000 in
set_option maxHeartbeats 8000000 in
theorem law_first_in (A : Option Addr) (n c : Nat) (l : List (Int × Int)) (t s o m : Int) (w : World) (hl : Wins w A n l) (hf : n ≤ 10) (hr : H.right l = true) (t0 : 0 ≤ t) (t1 : t ≤ 1000000) (s0 : 0 ≤ s) (s1 : s ≤ 1000000) :
    Calls Try.prog 8 #[.slice A n c, .int .i64 t, .int .i64 s, .int .i64 o, .int .i64 m] w fun e w' => e = .returned (.bool true) ∧ Below w.heap.size w w' := by
  have HF := Lib.hid (few_yes n hf)
  have H1 := Lib.hid (H.first_one (l := l) hr ⟨t0, t1⟩ ⟨s0, s1⟩)
  have OC := Lib.hid (first_o hr ⟨t0, t1⟩ ⟨s0, s1⟩ o)
  have MC := Lib.hid (first_m hr ⟨t0, t1⟩ ⟨s0, s1⟩ m)
  go_enter Try.func8, Try.ntmps8
  go_wp2_with fail
  refine (hsane_any _).mono ?_; rintro e w1 ⟨rfl, b1⟩
  go_wp2_with fail
  have hl1 := hl.below b1
  refine (hfew_any A n c _).mono ?_; rw [HF.out]; rintro e w2 ⟨rfl, rfl⟩
  go_wp2_with fail
  refine (hright_any A n c l _ hl1 (by omega)).mono ?_; rw [hr]; rintro e w2 ⟨rfl, b2⟩
  go_wp2_with fail
  have hl2 := hl1.below b2
  clear hr
  refine (fit_any A n c l _ _ _ hl2 (by omega)).mono ?_; rintro e w3 ⟨rfl, b3⟩
  have hcur := hl2.below b3
  have bb := bel (bel b1 b2) b3
  clear b1 b2 b3 hl1 hl2
  cases hi : (H.fit l t s).2
  · rcases OC.out with c1 | ⟨c1, c2⟩ | ⟨c1, c2, c3, _⟩ | ⟨c1, c2, c3, c4, c5⟩ | ⟨c1, c2, c3, c4, c5⟩
    all_goals try (exfalso; rw [hi] at c4; cases c4; done)
    all_goals rcases MC.out with d1 | ⟨d1, d2⟩ | ⟨d1, d2, d3⟩ | ⟨d1, d2, d3, d4, d5⟩
    all_goals try (exfalso; rw [hi] at d4; cases d4; done)
    all_goals
      go_wp2_with (go_at_call 29; refine (fit_any A n c l _ _ _ hcur (by omega)).mono ?_; rintro e wX ⟨rfl, bX⟩; obtain ⟨hcur, bb⟩ : Wins wX A n l ∧ Below w.heap.size w wX := ⟨hcur.below bX, bel bb bX⟩)
      first | (exfalso; omega) | (go_ret; exact ⟨rfl, bb⟩)
  · obtain ⟨x0, x1, o1, o2⟩ := H1.out hi
    have O1 := Lib.hid o1; have O2 := Lib.hid o2
    clear o1 o2
    go_wp2_with fail
    refine (open_any A n c l _ _ hcur (by omega)).mono ?_; rw [O1.out]; rintro e w4 ⟨rfl, b4⟩
    go_wp2_with fail
    refine (open_any A n c l _ _ (hcur.below b4) (by omega)).mono ?_; rw [O2.out]; rintro e w5 ⟨rfl, b5⟩
    obtain ⟨hcur, bb⟩ : Wins w5 A n l ∧ Below w.heap.size w w5 := ⟨(hcur.below b4).below b5, bel (bel bb b4) b5⟩
    rcases OC.out with c1 | ⟨c1, c2⟩ | ⟨c1, c2, c3, c4 | c4⟩ | ⟨c1, c2, c3, c4, c5, c6⟩ | ⟨c1, c2, c3, c4, c5, c6⟩
    all_goals try (exfalso; rw [hi] at c4; cases c4; done)
    all_goals rcases MC.out with d1 | ⟨d1, d2⟩ | ⟨d1, d2, d3⟩ | ⟨d1, d2, d3, d4, d5⟩
    all_goals
      go_wp2_with (go_at_call 29; refine (fit_any A n c l _ _ _ hcur (by omega)).mono ?_; rintro e wX ⟨rfl, bX⟩; obtain ⟨hcur, bb⟩ : Wins wX A n l ∧ Below w.heap.size w wX := ⟨hcur.below bX, bel bb bX⟩)
      first | (exfalso; omega) | (go_ret; exact ⟨rfl, bb⟩)
end Go.Proofs.Ytdbllcphopecjaa
