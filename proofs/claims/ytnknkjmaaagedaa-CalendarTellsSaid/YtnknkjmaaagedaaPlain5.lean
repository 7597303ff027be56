/-
The lengths of the months, and the reference's loops, in plain integers.
-/
import Derived.Test.YtnknkjmaaagedaaPlain4
namespace Go.Proofs.Ytnknkjmaaagedaa
namespace Cal

def leapB (y : Int) : Bool := decide (y % 4 = 0) && (!decide (y % 100 = 0) || decide (y % 400 = 0))

/-- The length of a month. -/
def len (y m : Int) : Int := first (12 * y + m) - first (12 * y + m - 1)

theorem parts (y m : Int) (h0 : 3 ≤ m) (h1 : m ≤ 14) : first (12 * y + m - 1) = 365 * y + y / 4 - y / 100 + y / 400 + (153 * (m - 3) + 2) / 5 - 730425 := by
  unfold first
  rw [show (12 * y + m - 1 - 2) / 12 = y by omega, show (12 * y + m - 1 - 2) % 12 = m - 3 by omega]

theorem parts' (y m : Int) (h0 : 3 ≤ m) (h1 : m ≤ 14) : first (12 * y + m - 12 - 1) = 365 * (y - 1) + (y - 1) / 4 - (y - 1) / 100 + (y - 1) / 400 + (153 * (m - 3) + 2) / 5 - 730425 := by
  rw [show 12 * y + m - 12 - 1 = 12 * (y - 1) + m - 1 by omega]; exact parts (y - 1) m h0 h1

theorem len_feb (y : Int) : len y 2 = if leapB y then 29 else 28 := by
  unfold len
  have a := parts y 3 (by omega) (by omega)
  have b := parts' y 14 (by omega) (by omega)
  rw [show 12 * y + 3 - 1 = 12 * y + 2 by omega] at a
  rw [show 12 * y + 14 - 12 - 1 = 12 * y + 2 - 1 by omega] at b
  rw [a, b]
  simp only [leapB, Bool.and_eq_true, Bool.or_eq_true, Bool.not_eq_true', decide_eq_true_eq, decide_eq_false_iff_not]
  split <;> omega

theorem len_hi (y m : Int) (h0 : 3 ≤ m) (h1 : m ≤ 12) : len y m = (153 * (m - 2) + 2) / 5 - (153 * (m - 3) + 2) / 5 ∨ m = 12 := by
  by_cases hm : m = 12
  · exact .inr hm
  · left
    unfold len
    have a := parts y (m + 1) (by omega) (by omega)
    rw [show 12 * y + (m + 1) - 1 = 12 * y + m by omega] at a
    rw [a, parts y m h0 (by omega)]
    omega

theorem len_30 (y m : Int) (h : m = 4 ∨ m = 6 ∨ m = 9 ∨ m = 11) : len y m = 30 := by
  rcases len_hi y m (by omega) (by omega) with e | e
  · rw [e]; omega
  · omega

theorem len_31 (y m : Int) (h0 : 1 ≤ m) (h1 : m ≤ 12) (h2 : m ≠ 2) (h : ¬ (m = 4 ∨ m = 6 ∨ m = 9 ∨ m = 11)) : len y m = 31 := by
  by_cases h3 : m = 1
  · subst h3
    unfold len
    have a := parts' y 14 (by omega) (by omega)
    have b := parts' y 13 (by omega) (by omega)
    rw [show 12 * y + 14 - 12 - 1 = 12 * y + 1 by omega] at a
    rw [show 12 * y + 13 - 12 - 1 = 12 * y + 1 - 1 by omega] at b
    rw [a, b]; omega
  · by_cases h4 : m = 12
    · subst h4
      unfold len
      have a := parts y 13 (by omega) (by omega)
      have b := parts y 12 (by omega) (by omega)
      rw [show 12 * y + 13 - 1 = 12 * y + 12 by omega] at a
      rw [a, b]; omega
    · have hc : m = 3 ∨ m = 5 ∨ m = 7 ∨ m = 8 ∨ m = 10 := by omega
      rcases len_hi y m (by omega) h1 with e | e
      · rw [e]; clear e; rcases hc with rfl | rfl | rfl | rfl | rfl <;> rfl
      · omega

theorem year_len (y : Int) : first (12 * (y + 1)) = first (12 * y) + 365 + if leapB y then 1 else 0 := by
  have a := parts' (y + 1) 13 (by omega) (by omega)
  have b := parts' y 13 (by omega) (by omega)
  rw [show 12 * (y + 1) + 13 - 12 - 1 = 12 * (y + 1) by omega] at a
  rw [show 12 * y + 13 - 12 - 1 = 12 * y by omega] at b
  rw [a, b]
  simp only [leapB, Bool.and_eq_true, Bool.or_eq_true, Bool.not_eq_true', decide_eq_true_eq, decide_eq_false_iff_not]
  split <;> omega
end Cal
end Go.Proofs.Ytnknkjmaaagedaa
