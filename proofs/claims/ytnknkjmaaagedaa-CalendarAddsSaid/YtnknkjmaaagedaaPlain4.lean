/-
The laws of the calendar in plain integers.
-/
import Derived.Test.YtnknkjmaaagedaaPlain3
namespace Go.Proofs.Ytnknkjmaaagedaa
namespace Cal

theorem back_day {a : Int} (h : okDay a) : dayV (dateY a) (dateM a) (dateD a) = a ∧ dayE (dateY a) (dateM a) (dateD a) = 0 ∧ dateE a = 0 := by
  obtain ⟨e1, e2, e3, e4⟩ := yes_date h
  obtain ⟨a1, a2, b1, b2, c1, c2, hk⟩ := date_yes_bounds h
  have hm := mon_spec h.1
  have hd := h.2
  have hk' : 12 * dateY a + dateM a = mon a + 1 := by omega
  have ok : okDate (dateY a) (dateM a) (dateD a) := by
    refine ⟨a1, by omega, b1, b2, c1, ?_, ?_⟩
    · rw [hk, hk', e3]; omega
    · rw [hk, e3]; omega
  obtain ⟨v1, v2⟩ := yes_day ok
  rw [v1, v2, hk, e3]
  exact ⟨by omega, rfl, e4⟩

theorem back_date {y m d : Int} (h : okDate y m d) : dateY (dayV y m d) = y ∧ dateM (dayV y m d) = m ∧ dateD (dayV y m d) = d ∧ dateE (dayV y m d) = 0 := by
  obtain ⟨hk, e1, e2, e3, _⟩ := ok_same h
  rw [(yes_day h).1]
  exact ⟨e1, e2, e3, (yes_date hk).2.2.2⟩

theorem lex {a b : Int} (ha : okDay a) (hb : okDay b) (h : a < b) :
    dateY a < dateY b ∨ (dateY a = dateY b ∧ dateM a < dateM b) ∨ (dateY a = dateY b ∧ dateM a = dateM b ∧ dateD a < dateD b) := by
  obtain ⟨a1, a2, a3, _⟩ := yes_date ha
  obtain ⟨b1, b2, b3, _⟩ := yes_date hb
  have hm := mon_mono ha.1 (Int.le_of_lt h)
  by_cases e : mon a = mon b
  · refine .inr (.inr ⟨by rw [a1, b1, e], by rw [a2, b2, e], by rw [a3, b3, e]; omega⟩)
  · rw [a1, a2, b1, b2]; omega

theorem weeks {a : Int} (h : 0 ≤ a) (h1 : a ≤ 99993) : dateE a = 0 ∧ dateE (a + 1) = 0 ∧ dateE (a + 7) = 0 ∧ 0 ≤ wdV a ∧ wdV a ≤ 6 ∧ wdV (a + 1) = (wdV a + 1) % 7 ∧ wdV (a + 7) = wdV a := by
  have k1 : okDay a := ⟨by omega, by omega⟩
  have k2 : okDay (a + 1) := ⟨by omega, by omega⟩
  have k3 : okDay (a + 7) := ⟨by omega, by omega⟩
  have e1 : wdV a = (a + 5) % 7 := by simp [wdV, k1]
  have e2 : wdV (a + 1) = (a + 1 + 5) % 7 := by simp [wdV, k2]
  have e3 : wdV (a + 7) = (a + 7 + 5) % 7 := by simp [wdV, k3]
  rw [e1, e2, e3]
  exact ⟨by simp [dateE, k1], by simp [dateE, k2], by simp [dateE, k3], by omega, by omega, by omega, by omega⟩

theorem months_one {a : Int} (h : okDay a) : okDay (monF a) ∧ dateD (monF a) = 1 ∧ dateE (monF a) = 0 ∧ dateE a = 0 ∧ monF a ≤ a ∧ a ≤ monL a ∧ monL a ≤ 100000 ∧ monL a - monF a ≤ 30 ∧ (monL a < 100000 → 27 ≤ monL a - monF a) ∧ mon (monF a) = mon a ∧ 0 ≤ monL a := by
  obtain ⟨f, l⟩ := yes_mon h
  have hm := mon_spec h.1
  have hs := first_step (mon a)
  have h2 := h.2
  have h0 := h.1
  have hf0 := first_mono (k := 24000) (l := mon a) hm.2.2
  rw [first_2000] at hf0
  have e : mon (first (mon a)) = mon a := mon_eq (by omega) (by omega)
  have ok : okDay (first (mon a)) := ⟨by omega, by omega⟩
  have d := yes_date ok
  rw [f, l, d.2.2.1, d.2.2.2, e]
  refine ⟨ok, by omega, rfl, (yes_date h).2.2.2, hm.1, by omega, by omega, by omega, by omega, rfl, by omega⟩

theorem months_next {a : Int} (h : okDay a) (hl : monL a < 100000) : dateE (monL a + 1) = 0 ∧ monF (monL a + 1) = monL a + 1 ∧ okDay (monL a + 1) := by
  obtain ⟨f, l⟩ := yes_mon h
  have hm := mon_spec h.1
  have hs := first_step (mon a + 1)
  have h2 := h.2
  have h0 := h.1
  have e : monL a + 1 = first (mon a + 1) := by rw [l] at hl ⊢; omega
  have ok : okDay (first (mon a + 1)) := ⟨by omega, by omega⟩
  have em : mon (first (mon a + 1)) = mon a + 1 := mon_eq (by omega) (by omega)
  rw [e, (yes_date ok).2.2.2, (yes_mon ok).1, em]
  exact ⟨rfl, rfl, ok⟩

theorem months_two {a b : Int} (ha : okDay a) (hb : okDay b) : (monF a ≤ b ∧ b ≤ monL a → monF b = monF a ∧ monL b = monL a) ∧ (¬ (monF a ≤ b ∧ b ≤ monL a) → monL a < monF b ∨ monL b < monF a) := by
  obtain ⟨fa, la⟩ := yes_mon ha
  obtain ⟨fb, lb⟩ := yes_mon hb
  have ma := mon_spec ha.1
  have mb := mon_spec hb.1
  have h2 := hb.2
  have h3 := ha.2
  rw [fa, la, fb, lb]
  refine ⟨fun h => ?_, fun h => ?_⟩
  · have e : mon b = mon a := mon_eq h.1 (by omega)
    rw [e]; exact ⟨rfl, rfl⟩
  · have hne : mon a ≠ mon b := by
      intro e
      rw [e] at h
      exact h ⟨mb.1, by omega⟩
    by_cases hlt : mon a < mon b
    · have := first_mono (k := mon a + 1) (l := mon b) (by omega); omega
    · have := first_mono (k := mon b + 1) (l := mon a) (by omega); omega

theorem plus_def {a b : Int} (h : okDay a) : plus a b = first (mon a + b) + min (dateD a) (first (mon a + b + 1) - first (mon a + b)) - 1 := by
  unfold plus; rw [(yes_date h).2.2.1]

theorem adds_at {a m : Int} (h : okAdd a m) : okDay (plus a m) ∧ mon (plus a m) = mon a + m ∧ dateD (plus a m) = min (dateD a) (first (mon a + m + 1) - first (mon a + m)) ∧
    first (mon a + m) + dateD (plus a m) - 1 = plus a m := by
  obtain ⟨ha, h0, h1, h2⟩ := h
  have hd := (yes_date ha).2.2.1
  have hm := mon_spec ha.1
  have hs := first_step (mon a + m)
  have hf := first_mono (k := 24000) (l := mon a + m) h0
  rw [first_2000] at hf
  have hp : plus a m = first (mon a + m) + min (dateD a) (first (mon a + m + 1) - first (mon a + m)) - 1 := by unfold plus; rw [hd]
  have e : mon (plus a m) = mon a + m := mon_eq (by omega) (by omega)
  have ok : okDay (plus a m) := ⟨by omega, h2⟩
  have e2 : dateD (plus a m) = min (dateD a) (first (mon a + m + 1) - first (mon a + m)) := by rw [(yes_date ok).2.2.1, e]; omega
  exact ⟨ok, e, e2, by rw [e2, hp]⟩

theorem adds_one {a m : Int} (h : okAdd a m) : dateE (plus a m) = 0 ∧ dateY (plus a m) * 12 + dateM (plus a m) = dateY a * 12 + dateM a + m ∧
    (dateD (plus a m) = dateD a ∨ dateD (plus a m) ≤ dateD a ∧ monL (plus a m) = plus a m) := by
  obtain ⟨ok, e, e2, e3⟩ := adds_at h
  have k1 := (date_yes_bounds ok).2.2.2.2.2.2
  have k2 := (date_yes_bounds h.1).2.2.2.2.2.2
  have l := (yes_mon ok).2
  rw [e] at l
  have h2 := h.2.2.2
  refine ⟨(yes_date ok).2.2.2, by omega, ?_⟩
  by_cases hc : dateD a ≤ first (mon a + m + 1) - first (mon a + m)
  · left; omega
  · right; rw [l]; omega

theorem adds_two {a m n : Int} (h : okAdd a m) (hd : dateD a ≤ 28) (h' : addE (plus a m) n = 0) : addE a (m + n) = 0 ∧ addV a (m + n) = addV (plus a m) n := by
  obtain ⟨ok, e, e2, e3⟩ := adds_at h
  have hs := first_step (mon a + m)
  have hk : okAdd (plus a m) n := by
    by_cases hk : okAdd (plus a m) n
    · exact hk
    · rw [(no_add hk).2] at h'; omega
  have ed : dateD (plus a m) = dateD a := by omega
  have hp : plus a (m + n) = plus (plus a m) n := by
    rw [plus_def h.1, plus_def ok, ed, e, ← Int.add_assoc]
  obtain ⟨_, k1, k2, k3⟩ := hk
  have ok2 : okAdd a (m + n) := ⟨h.1, by rw [e] at k1; omega, by rw [e] at k2; omega, by rw [hp]; exact k3⟩
  rw [(yes_add ok2).1, (yes_add ok2).2, (yes_add ⟨ok, k1, k2, k3⟩).1, hp]
  exact ⟨rfl, rfl⟩

theorem adds_mono {a b m : Int} (h : okAdd a m) (h' : okAdd b m) (hab : a ≤ b) : plus a m ≤ plus b m := by
  obtain ⟨ok, e, e2, e3⟩ := adds_at h
  obtain ⟨ok', e', e2', e3'⟩ := adds_at h'
  have hm := mon_mono h.1.1 hab
  have ha := (yes_date h.1).2.2.1
  have hb := (yes_date h'.1).2.2.1
  have mb := mon_spec h'.1.1
  have hs := first_step (mon b + m)
  by_cases hc : mon a = mon b
  · rw [← hc] at e2' e3' hb
    omega
  · have := first_mono (k := mon a + m + 1) (l := mon b + m) (by omega)
    have hl : dateD (plus a m) ≤ first (mon a + m + 1) - first (mon a + m) := by omega
    have : 1 ≤ dateD (plus b m) := by omega
    omega
end Cal
end Go.Proofs.Ytnknkjmaaagedaa
