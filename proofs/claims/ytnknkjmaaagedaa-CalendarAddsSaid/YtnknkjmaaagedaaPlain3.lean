/-
What the functions of the calendar return: plain integers, no program.
-/
import Derived.Test.YtnknkjmaaagedaaPlain2
namespace Go.Proofs.Ytnknkjmaaagedaa
namespace Cal

def okDay (d : Int) : Prop := 0 ≤ d ∧ d ≤ 100000
instance (d : Int) : Decidable (okDay d) := by unfold okDay; infer_instance

noncomputable def dateY (d : Int) : Int := if okDay d then mon d / 12 else 0
noncomputable def dateM (d : Int) : Int := if okDay d then mon d % 12 + 1 else 0
noncomputable def dateD (d : Int) : Int := if okDay d then d - first (mon d) + 1 else 0
def dateE (d : Int) : Int := if okDay d then 0 else 3

/-- A date that there is. -/
def okDate (y m d : Int) : Prop := 2000 ≤ y ∧ y ≤ 2300 ∧ 1 ≤ m ∧ m ≤ 12 ∧ 1 ≤ d ∧ d ≤ first (12 * y + m) - first (12 * y + m - 1) ∧ first (12 * y + m - 1) + d - 1 ≤ 100000
instance (y m d : Int) : Decidable (okDate y m d) := by unfold okDate; infer_instance

def dayV (y m d : Int) : Int := if okDate y m d then first (12 * y + m - 1) + d - 1 else 0
def dayE (y m d : Int) : Int := if okDate y m d then 0 else 3

def wdV (d : Int) : Int := if okDay d then (d + 5) % 7 else 0

/-- The day that is b months behind a. -/
noncomputable def plus (a b : Int) : Int := first (mon a + b) + min (a - first (mon a) + 1) (first (mon a + b + 1) - first (mon a + b)) - 1
def okAdd (a b : Int) : Prop := okDay a ∧ 24000 ≤ mon a + b ∧ mon a + b ≤ 27600 ∧ plus a b ≤ 100000
open Classical in
noncomputable def addV (a b : Int) : Int := if okAdd a b then plus a b else 0
open Classical in
noncomputable def addE (a b : Int) : Int := if okAdd a b then 0 else 3

noncomputable def monF (d : Int) : Int := if okDay d then first (mon d) else 0
noncomputable def monL (d : Int) : Int := if okDay d then min 100000 (first (mon d + 1) - 1) else 0

theorem yes_date {d : Int} (h : okDay d) : dateY d = mon d / 12 ∧ dateM d = mon d % 12 + 1 ∧ dateD d = d - first (mon d) + 1 ∧ dateE d = 0 := by
  simp [dateY, dateM, dateD, dateE, h]
theorem no_date {d : Int} (h : ¬ okDay d) : dateY d = 0 ∧ dateM d = 0 ∧ dateD d = 0 ∧ dateE d = 3 := by
  simp [dateY, dateM, dateD, dateE, h]
theorem ok_of_E {d : Int} (h : dateE d = 0) : okDay d := by
  by_cases h' : okDay d
  · exact h'
  · simp [dateE, h'] at h
theorem yes_day {y m d : Int} (h : okDate y m d) : dayV y m d = first (12 * y + m - 1) + d - 1 ∧ dayE y m d = 0 := by simp [dayV, dayE, h]
theorem no_day {y m d : Int} (h : ¬ okDate y m d) : dayV y m d = 0 ∧ dayE y m d = 3 := by simp [dayV, dayE, h]
theorem yes_add {a b : Int} (h : okAdd a b) : addV a b = plus a b ∧ addE a b = 0 := by simp [addV, addE, h]
theorem no_add {a b : Int} (h : ¬ okAdd a b) : addV a b = 0 ∧ addE a b = 3 := by simp [addV, addE, h]
theorem yes_mon {d : Int} (h : okDay d) : monF d = first (mon d) ∧ monL d = min 100000 (first (mon d + 1) - 1) := by simp [monF, monL, h]
theorem no_mon {d : Int} (h : ¬ okDay d) : monF d = 0 ∧ monL d = 0 := by simp [monF, monL, h]

theorem date_bounds (d : Int) : 0 ≤ dateY d ∧ dateY d ≤ 2300 ∧ 0 ≤ dateM d ∧ dateM d ≤ 12 ∧ 0 ≤ dateD d ∧ dateD d ≤ 31 := by
  by_cases h : okDay d
  · obtain ⟨a, b, c, _⟩ := yes_date h
    have h1 := mon_spec h.1
    have h2 := mon_le h.1 h.2
    have h3 := first_step (mon d)
    rw [a, b, c]; omega
  · obtain ⟨a, b, c, _⟩ := no_date h
    rw [a, b, c]; omega

theorem date_yes_bounds {d : Int} (h : okDay d) : 2000 ≤ dateY d ∧ dateY d ≤ 2273 ∧ 1 ≤ dateM d ∧ dateM d ≤ 12 ∧ 1 ≤ dateD d ∧ dateD d ≤ 31 ∧ 12 * dateY d + dateM d - 1 = mon d := by
  obtain ⟨a, b, c, _⟩ := yes_date h
  have h1 := mon_spec h.1
  have h2 := mon_le h.1 h.2
  have h3 := first_step (mon d)
  rw [a, b, c]; omega

/-- Day's own test: the date of the number is the date that was asked for. -/
theorem same_date {y m d : Int} (hy : 2000 ≤ y ∧ y ≤ 2300) (hm : 1 ≤ m ∧ m ≤ 12) (hd : 1 ≤ d ∧ d ≤ 31)
    (hk : okDay (first (12 * y + m - 1) + d - 1)) (e1 : dateY (first (12 * y + m - 1) + d - 1) = y) (e2 : dateM (first (12 * y + m - 1) + d - 1) = m) (e3 : dateD (first (12 * y + m - 1) + d - 1) = d) :
    okDate y m d := by
  obtain ⟨a, b, c, _⟩ := yes_date hk
  have h1 := mon_spec hk.1
  have h4 := hk.2
  rw [a] at e1; rw [b] at e2; rw [c] at e3
  have e : 12 * y + m - 1 = mon (first (12 * y + m - 1) + d - 1) := by omega
  have e' : 12 * y + m = mon (first (12 * y + m - 1) + d - 1) + 1 := by omega
  refine ⟨hy.1, hy.2, hm.1, hm.2, hd.1, ?_, h4⟩
  have h2 := h1.2.1
  rw [← e'] at h2
  omega

theorem ok_same {y m d : Int} (h : okDate y m d) : okDay (first (12 * y + m - 1) + d - 1) ∧ dateY (first (12 * y + m - 1) + d - 1) = y ∧ dateM (first (12 * y + m - 1) + d - 1) = m ∧
    dateD (first (12 * y + m - 1) + d - 1) = d ∧ mon (first (12 * y + m - 1) + d - 1) = 12 * y + m - 1 := by
  obtain ⟨a1, a2, b1, b2, c1, c2, c3⟩ := h
  have f0 := first_mono (k := 24000) (l := 12 * y + m - 1) (by omega)
  rw [first_2000] at f0
  have hk : okDay (first (12 * y + m - 1) + d - 1) := ⟨by omega, c3⟩
  have e : mon (first (12 * y + m - 1) + d - 1) = 12 * y + m - 1 := mon_eq (by omega) (by rw [show 12 * y + m - 1 + 1 = 12 * y + m by omega]; omega)
  obtain ⟨a, b, c, _⟩ := yes_date hk
  rw [a, b, c, e]
  exact ⟨hk, by omega, by omega, by omega, rfl⟩
end Cal
end Go.Proofs.Ytnknkjmaaagedaa
