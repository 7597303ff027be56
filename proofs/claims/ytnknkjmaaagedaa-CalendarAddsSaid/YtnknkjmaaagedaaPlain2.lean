/-
The year of a day: plain integers, no program.
-/
import Derived.Test.YtnknkjmaaagedaaPlain
namespace Go.Proofs.Ytnknkjmaaagedaa
namespace Cal

/-- The days before 1 March of a year, from 1 March of the year 0. -/
def dby (y : Int) : Int := 365 * y + y / 4 - y / 100 + y / 400

theorem dby_of {Y x y z : Int} (h4 : Y / 4 = x) (h100 : Y / 100 = y) (h400 : Y / 400 = z) : dby Y = 365 * Y + x - y + z := by
  unfold dby; rw [h4, h100, h400]

theorem dby_at {a q1 b q2 : Int} (b2 : 0 ≤ q1) (c2 : q1 ≤ 3) (b3 : 0 ≤ b) (c3 : b ≤ 24) (b4 : 0 ≤ q2) (c4 : q2 ≤ 3) :
    dby (a * 400 + q1 * 100 + b * 4 + q2) = 146097 * a + 36524 * q1 + 1461 * b + 365 * q2 := by
  rw [dby_of (x := 100 * a + 25 * q1 + b) (y := 4 * a + q1) (z := a) (by omega) (by omega) (by omega)]; omega

theorem dby_next {a q1 b q2 : Int} (b2 : 0 ≤ q1) (c2 : q1 ≤ 3) (b3 : 0 ≤ b) (c3 : b ≤ 24) (b4 : 0 ≤ q2) (c4 : q2 ≤ 3) :
    (q2 < 3 → dby (a * 400 + q1 * 100 + b * 4 + q2 + 1) = 146097 * a + 36524 * q1 + 1461 * b + 365 * (q2 + 1)) ∧
    (q2 = 3 → b < 24 → dby (a * 400 + q1 * 100 + b * 4 + q2 + 1) = 146097 * a + 36524 * q1 + 1461 * (b + 1)) ∧
    (q2 = 3 → b = 24 → q1 < 3 → dby (a * 400 + q1 * 100 + b * 4 + q2 + 1) = 146097 * a + 36524 * (q1 + 1)) ∧
    (q2 = 3 → b = 24 → q1 = 3 → dby (a * 400 + q1 * 100 + b * 4 + q2 + 1) = 146097 * (a + 1)) := by
  refine ⟨fun h => ?_, fun h h' => ?_, fun h h' h'' => ?_, fun h h' h'' => ?_⟩
  · have := dby_at (a := a) b2 c2 b3 c3 (q2 := q2 + 1) (by omega) (by omega)
    rw [← this, Int.add_assoc]
  · have := dby_at (a := a) b2 c2 (b := b + 1) (by omega) (by omega) (q2 := 0) (by omega) (by omega)
    rw [show a * 400 + q1 * 100 + b * 4 + q2 + 1 = a * 400 + q1 * 100 + (b + 1) * 4 + 0 by omega, this]; omega
  · have := dby_at (a := a) (q1 := q1 + 1) (by omega) (by omega) (b := 0) (by omega) (by omega) (q2 := 0) (by omega) (by omega)
    rw [show a * 400 + q1 * 100 + b * 4 + q2 + 1 = a * 400 + (q1 + 1) * 100 + 0 * 4 + 0 by omega, this]; omega
  · have := dby_at (a := a + 1) (q1 := 0) (by omega) (by omega) (b := 0) (by omega) (by omega) (q2 := 0) (by omega) (by omega)
    rw [show a * 400 + q1 * 100 + b * 4 + q2 + 1 = (a + 1) * 400 + 0 * 100 + 0 * 4 + 0 by omega, this]; omega

theorem year_ok (n a n1 q1 n2 b n3 q2 R Y : Int) (e1 : n = 146097 * a + n1) (b1 : 0 ≤ n1) (c1 : n1 < 146097) (e2 : n1 = 36524 * q1 + n2) (b2 : 0 ≤ q1) (c2 : q1 ≤ 3) (d2 : 0 ≤ n2)
    (f2 : q1 < 3 → n2 < 36524) (e3 : n2 = 1461 * b + n3) (b3 : 0 ≤ n3) (c3 : n3 < 1461) (e4 : n3 = 365 * q2 + R) (b4 : 0 ≤ q2) (c4 : q2 ≤ 3) (d4 : 0 ≤ R) (f4 : q2 < 3 → R < 365)
    (hY : Y = a * 400 + q1 * 100 + b * 4 + q2) : dby Y + R = n ∧ 0 ≤ R ∧ n < dby (Y + 1) := by
  have hb : 0 ≤ b ∧ b ≤ 24 := by omega
  subst hY
  rw [dby_at b2 c2 hb.1 hb.2 b4 c4]
  refine ⟨by omega, d4, ?_⟩
  obtain ⟨g1, g2, g3, g4⟩ := dby_next (a := a) b2 c2 hb.1 hb.2 b4 c4
  by_cases h1 : q2 < 3
  · rw [g1 h1]; have := f4 h1; omega
  · by_cases h2 : b < 24
    · rw [g2 (by omega) h2]; omega
    · by_cases h3 : q1 < 3
      · rw [g3 (by omega) (by omega) h3]; have := f2 h3; omega
      · rw [g4 (by omega) (by omega) (by omega)]; omega

theorem mon_of_year {d Y R m : Int} (h : dby Y + R = d + 730425) (h1 : d + 730425 < dby (Y + 1)) (m0 : 0 ≤ m) (m1 : m ≤ 11) (lo : (153 * m + 2) / 5 ≤ R)
    (hi : m < 11 → R < (153 * (m + 1) + 2) / 5) : mon d = 12 * Y + m + 2 ∧ first (12 * Y + m + 2) = d - R + (153 * m + 2) / 5 := by
  have e : first (12 * Y + m + 2) = d - R + (153 * m + 2) / 5 := by
    unfold first
    unfold dby at h
    rw [show (12 * Y + m + 2 - 2) / 12 = Y by omega, show (12 * Y + m + 2 - 2) % 12 = m by omega]
    omega
  refine ⟨mon_eq (by omega) ?_, e⟩
  by_cases hm : m < 11
  · have := hi hm
    unfold first
    unfold dby at h
    rw [show (12 * Y + m + 2 + 1 - 2) / 12 = Y by omega, show (12 * Y + m + 2 + 1 - 2) % 12 = m + 1 by omega]
    omega
  · unfold first
    unfold dby at h1
    rw [show (12 * Y + m + 2 + 1 - 2) / 12 = Y + 1 by omega, show (12 * Y + m + 2 + 1 - 2) % 12 = 0 by omega]
    omega

/-- What Date returns when the month (from March) is January or February. -/
theorem date_hi {d Y R m : Int} (h : mon d = 12 * Y + m + 2 ∧ first (12 * Y + m + 2) = d - R + (153 * m + 2) / 5) (m0 : 10 ≤ m) (m1 : m ≤ 11) :
    Y + 1 = mon d / 12 ∧ m - 9 = mon d % 12 + 1 ∧ R - (153 * m + 2) / 5 + 1 = d - first (mon d) + 1 := by
  rw [h.1, h.2]; omega

theorem date_lo {d Y R m : Int} (h : mon d = 12 * Y + m + 2 ∧ first (12 * Y + m + 2) = d - R + (153 * m + 2) / 5) (m0 : 0 ≤ m) (m1 : m < 10) :
    Y = mon d / 12 ∧ m + 3 = mon d % 12 + 1 ∧ R - (153 * m + 2) / 5 + 1 = d - first (mon d) + 1 := by
  rw [h.1, h.2]; omega
end Cal
end Go.Proofs.Ytnknkjmaaagedaa
