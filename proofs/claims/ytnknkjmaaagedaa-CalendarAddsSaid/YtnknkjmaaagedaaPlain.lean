/-
The days of months: 'first k' is the day on which month k begins, k counted from January of the year 0. Plain integers, no program.
-/
namespace Go.Proofs.Ytnknkjmaaagedaa
namespace Cal

/-- The first day of month k (k = 12 * year + month - 1); day 0 is 1 January 2000. -/
def first (k : Int) : Int := 365 * ((k - 2) / 12) + (k - 2) / 12 / 4 - (k - 2) / 12 / 100 + (k - 2) / 12 / 400 + (153 * ((k - 2) % 12) + 2) / 5 - 730425

theorem first_step (k : Int) : first k + 28 ≤ first (k + 1) ∧ first (k + 1) ≤ first k + 31 := by
  unfold first
  by_cases h : (k - 2) % 12 = 11
  · have e1 : (k + 1 - 2) / 12 = (k - 2) / 12 + 1 := by omega
    have e2 : (k + 1 - 2) % 12 = 0 := by omega
    rw [e1, e2, h]
    omega
  · have e1 : (k + 1 - 2) / 12 = (k - 2) / 12 := by omega
    have e2 : (k + 1 - 2) % 12 = (k - 2) % 12 + 1 := by omega
    rw [e1, e2]
    omega

theorem first_add (k : Int) (n : Nat) : first k + 28 * n ≤ first (k + n) := by
  induction n with
  | zero => simp
  | succ n ih =>
    have := (first_step (k + n)).1
    have e : k + ((n + 1 : Nat) : Int) = k + n + 1 := by omega
    rw [e]; omega

theorem first_mono {k l : Int} (h : k ≤ l) : first k + 28 * (l - k) ≤ first l := by
  have := first_add k (l - k).toNat
  have e : k + ((l - k).toNat : Int) = l := by omega
  rw [e] at this; omega

theorem first_lt {k l : Int} (h : first k < first (l + 1)) : k ≤ l := by
  by_cases h' : k ≤ l
  · exact h'
  · have := first_mono (k := l + 1) (l := k) (by omega); omega

theorem first_uniq {k l day : Int} (a : first k ≤ day) (b : day < first (k + 1)) (c : first l ≤ day) (d : day < first (l + 1)) : k = l := by
  have h1 := first_lt (k := k) (l := l) (by omega)
  have h2 := first_lt (k := l) (l := k) (by omega)
  omega

theorem first_2000 : first 24000 = 0 := by decide

/-- The month of a day. -/
noncomputable def mon (day : Int) : Int := by
  classical exact if h : ∃ k, first k ≤ day ∧ day < first (k + 1) then h.choose else 0

theorem mon_eq {k day : Int} (a : first k ≤ day) (b : day < first (k + 1)) : mon day = k := by
  have h : ∃ k, first k ≤ day ∧ day < first (k + 1) := ⟨k, a, b⟩
  unfold mon
  rw [dif_pos h]
  exact first_uniq h.choose_spec.1 h.choose_spec.2 a b

theorem mon_ex (day : Int) (h0 : 0 ≤ day) : ∃ k, first k ≤ day ∧ day < first (k + 1) ∧ 24000 ≤ k := by
  have main : ∀ n : Nat, day < first (24000 + n) → ∃ k, first k ≤ day ∧ day < first (k + 1) ∧ 24000 ≤ k := by
    intro n
    induction n with
    | zero => intro h; have := first_2000; simp at h; omega
    | succ n ih =>
      intro h
      by_cases h' : day < first (24000 + n)
      · exact ih h'
      · exact ⟨24000 + n, by omega, by rw [show (24000 + (n : Int) + 1) = 24000 + ((n + 1 : Nat) : Int) by omega]; exact h, by omega⟩
  refine main (day + 1).toNat ?_
  have := first_add 24000 (day + 1).toNat
  rw [first_2000] at this
  omega

theorem mon_spec {day : Int} (h0 : 0 ≤ day) : first (mon day) ≤ day ∧ day < first (mon day + 1) ∧ 24000 ≤ mon day := by
  obtain ⟨k, a, b, c⟩ := mon_ex day h0
  rw [mon_eq a b]; exact ⟨a, b, c⟩

theorem mon_le {day : Int} (h0 : 0 ≤ day) (h1 : day ≤ 100000) : mon day ≤ 27285 := by
  have h := mon_spec h0
  have e : first 27286 = 100016 := by decide
  exact first_lt (l := 27285) (by rw [show (27285 : Int) + 1 = 27286 from rfl, e]; omega)

theorem mon_mono {a b : Int} (h0 : 0 ≤ a) (h : a ≤ b) : mon a ≤ mon b := by
  have h1 := mon_spec h0
  have h2 := mon_spec (day := b) (by omega)
  exact first_lt (by omega)

theorem first_lo (y m d : Int) (h0 : 1 ≤ m) (h1 : m < 3) :
    (y - 1) * 365 + (y - 1) / 4 - (y - 1) / 100 + (y - 1) / 400 + (153 * ((m + 9) % 12) + 2) / 5 + d - 1 - 730425 = first (12 * y + m - 1) + d - 1 := by
  unfold first
  rw [show (12 * y + m - 1 - 2) / 12 = y - 1 by omega, show (12 * y + m - 1 - 2) % 12 = m + 9 by omega, show (m + 9) % 12 = m + 9 by omega]
  omega

theorem first_hi (y m d : Int) (h0 : 3 ≤ m) (h1 : m ≤ 12) :
    y * 365 + y / 4 - y / 100 + y / 400 + (153 * ((m + 9) % 12) + 2) / 5 + d - 1 - 730425 = first (12 * y + m - 1) + d - 1 := by
  unfold first
  rw [show (12 * y + m - 1 - 2) / 12 = y by omega, show (12 * y + m - 1 - 2) % 12 = m - 3 by omega, show (m + 9) % 12 = m - 3 by omega]
  omega

end Cal
end Go.Proofs.Ytnknkjmaaagedaa
