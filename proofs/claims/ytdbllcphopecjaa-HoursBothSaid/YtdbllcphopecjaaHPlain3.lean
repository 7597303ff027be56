/-
The laws of layer 28 in plain lists.
-/
import Derived.Test.YtdbllcphopecjaaHPlain2
namespace Go.Proofs.Ytdbllcphopecjaa
namespace H

theorem rightFrom_all {l : List (Int × Int)} (h : right l = true) : rightFrom (-1) (all l) = true := by
  unfold all; split
  · rfl
  · exact (right_iff.1 h).1

/-- What fitGo finds is the first minute that serves. -/
theorem fitGo_least {b t s : Int} {l : List (Int × Int)} (h : rightFrom b l = true) (hs : 0 ≤ s) :
    ((fitGo t s l).2 = true → (∃ q ∈ l, q.1 ≤ (fitGo t s l).1 ∧ (fitGo t s l).1 + s ≤ q.2) ∧ t ≤ (fitGo t s l).1) ∧
    (∀ x, t ≤ x → ∀ q ∈ l, q.1 ≤ x → x + s ≤ q.2 → (fitGo t s l).2 = true ∧ (fitGo t s l).1 ≤ x) := by
  induction l generalizing b with
  | nil => exact ⟨fun h => (by cases h), fun x _ q hq => (by cases hq)⟩
  | cons p l ih =>
    have hx := h
    simp only [rightFrom, Bool.and_eq_true] at hx
    obtain ⟨_, hr⟩ := hx
    have hbd := rightFrom_bd hr
    obtain ⟨i1, i2⟩ := ih hr
    simp only [fitGo]
    by_cases hf : max t p.1 + s ≤ p.2
    · rw [if_pos hf]
      refine ⟨fun _ => ⟨⟨p, List.mem_cons_self .., by simp; omega, hf⟩, by simp; omega⟩, fun x hx q hq h1 h2 => ⟨rfl, ?_⟩⟩
      show max t p.1 ≤ x
      rcases List.mem_cons.1 hq with rfl | hq'
      · omega
      · have := (hbd q hq').2.2.2; omega
    · rw [if_neg hf]
      refine ⟨fun h' => ?_, fun x hx q hq h1 h2 => ?_⟩
      · obtain ⟨⟨q, hq, h1, h2⟩, h3⟩ := i1 h'
        exact ⟨⟨q, List.mem_cons_of_mem _ hq, h1, h2⟩, h3⟩
      · rcases List.mem_cons.1 hq with rfl | hq'
        · omega
        · exact i2 x hx q hq' h1 h2

theorem fit_yes_eq {l : List (Int × Int)} {t s : Int} (hr : right l = true) (ht : 0 ≤ t ∧ t ≤ 1000000) (hs : 0 ≤ s ∧ s ≤ 1000000) : fit l t s = fitGo t s (all l) := by
  unfold fit; rw [if_pos (by simp only [Bool.and_eq_true, minute_iff]; exact ⟨⟨hr, ht⟩, hs⟩)]

theorem isOpen_iff {l : List (Int × Int)} {t : Int} (hr : right l = true) : isOpen l t = true ↔ (0 ≤ t ∧ t ≤ 1000000) ∧ ∃ q ∈ all l, q.1 ≤ t ∧ t ≤ q.2 := by
  simp only [isOpen, Bool.and_eq_true, minute_iff, List.any_eq_true, opens, decide_eq_true_eq]
  exact ⟨fun ⟨⟨a, _⟩, b⟩ => ⟨a, b⟩, fun ⟨a, b⟩ => ⟨⟨a, hr⟩, b⟩⟩

/-- A service fits at x: in one window. -/
def At (l : List (Int × Int)) (x s : Int) : Prop := ∃ q ∈ all l, q.1 ≤ x ∧ x + s ≤ q.2

theorem at_bd {l : List (Int × Int)} (hr : right l = true) {x s : Int} (h : At l x s) : 0 ≤ x ∧ x + s ≤ 1000000 := by
  obtain ⟨q, hq, h1, h2⟩ := h
  have := (all_bd hr).2 q hq; omega

theorem fit_least {l : List (Int × Int)} {t s : Int} (hr : right l = true) (ht : 0 ≤ t ∧ t ≤ 1000000) (hs : 0 ≤ s ∧ s ≤ 1000000) :
    ((fit l t s).2 = true → At l (fit l t s).1 s ∧ t ≤ (fit l t s).1) ∧ (∀ x, t ≤ x → At l x s → (fit l t s).2 = true ∧ (fit l t s).1 ≤ x) := by
  rw [fit_yes_eq hr ht hs]
  obtain ⟨h1, h2⟩ := fitGo_least (t := t) (rightFrom_all hr) hs.1
  exact ⟨h1, fun x hx ⟨q, hq, a, b⟩ => h2 x hx q hq a b⟩

theorem first_one {l : List (Int × Int)} {t s : Int} (hr : right l = true) (ht : 0 ≤ t ∧ t ≤ 1000000) (hs : 0 ≤ s ∧ s ≤ 1000000) (h : (fit l t s).2 = true) :
    t ≤ (fit l t s).1 ∧ (fit l t s).1 ≤ 1000000 - s ∧ isOpen l (fit l t s).1 = true ∧ isOpen l ((fit l t s).1 + s) = true := by
  obtain ⟨h1, h2⟩ := (fit_least hr ht hs).1 h
  have hb := at_bd hr h1
  obtain ⟨q, hq, a, b⟩ := h1
  exact ⟨h2, by omega, (isOpen_iff hr).2 ⟨by omega, q, hq, a, by omega⟩, (isOpen_iff hr).2 ⟨by omega, q, hq, by omega, b⟩⟩

theorem first_two {l : List (Int × Int)} {t s o : Int} (hr : right l = true) (ht : 0 ≤ t ∧ t ≤ 1000000) (hs : 0 ≤ s ∧ s ≤ 1000000) (ho : t ≤ o ∧ o ≤ 1000000) :
    ((fit l o s).2 = true → (fit l t s).2 = true ∧ (fit l t s).1 ≤ (fit l o s).1) ∧ ((fit l t s).2 = true → o ≤ (fit l t s).1 → (fit l o s).2 = true ∧ (fit l o s).1 = (fit l t s).1) := by
  obtain ⟨a1, a2⟩ := fit_least (t := t) hr ht hs
  obtain ⟨b1, b2⟩ := fit_least (t := o) hr (by omega) hs
  refine ⟨fun h => ?_, fun h h' => ?_⟩
  · obtain ⟨c1, c2⟩ := b1 h
    exact a2 _ (by omega) c1
  · obtain ⟨c1, c2⟩ := a1 h
    obtain ⟨d1, d2⟩ := b2 _ h' c1
    obtain ⟨e1, e2⟩ := b1 d1
    have := (a2 _ (by omega) e1).2
    exact ⟨d1, by omega⟩

theorem first_three {l : List (Int × Int)} {t s m : Int} (hr : right l = true) (ht : 0 ≤ t ∧ t ≤ 1000000) (hs : 0 ≤ s ∧ s ≤ 1000000) (hm : s ≤ m ∧ m ≤ 1000000) :
    (fit l t m).2 = true → (fit l t s).2 = true ∧ (fit l t s).1 ≤ (fit l t m).1 := by
  intro h
  obtain ⟨⟨q, hq, a, b⟩, c⟩ := (fit_least (s := m) hr ht (by omega)).1 h
  exact (fit_least hr ht hs).2 _ c ⟨q, hq, a, by omega⟩

theorem lastGo_most {b y s : Int} {l : List (Int × Int)} (h : rightFrom b l = true) (hs : 0 ≤ s) :
    ((lastGo y s l.reverse).2 = true → (∃ q ∈ l, q.1 ≤ (lastGo y s l.reverse).1 ∧ (lastGo y s l.reverse).1 + s ≤ q.2) ∧ (lastGo y s l.reverse).1 + s ≤ y) ∧
    (∀ x, x + s ≤ y → ∀ q ∈ l, q.1 ≤ x → x + s ≤ q.2 → (lastGo y s l.reverse).2 = true ∧ x ≤ (lastGo y s l.reverse).1) := by
  induction l generalizing b with
  | nil => exact ⟨fun h => (by cases h), fun x _ q hq => (by cases hq)⟩
  | cons p l ih =>
    have hx := h
    simp only [rightFrom, Bool.and_eq_true] at hx
    obtain ⟨_, hr⟩ := hx
    have hbd := rightFrom_bd hr
    obtain ⟨i1, i2⟩ := ih hr
    rw [List.reverse_cons, lastGo_app]
    cases hc : (lastGo y s l.reverse).2
    · simp only [Bool.false_eq_true, if_false, lastGo]
      by_cases hf : p.1 ≤ min y p.2 - s
      · rw [if_pos hf]
        refine ⟨fun _ => ⟨⟨p, List.mem_cons_self .., hf, by simp; omega⟩, by simp; omega⟩, fun x hx q hq h1 h2 => ⟨rfl, ?_⟩⟩
        rcases List.mem_cons.1 hq with rfl | hq'
        · show x ≤ min y q.2 - s; omega
        · have := (i2 x hx q hq' h1 h2).1
          rw [this] at hc; cases hc
      · rw [if_neg hf]
        refine ⟨fun h' => (by cases h'), fun x hx q hq h1 h2 => ?_⟩
        rcases List.mem_cons.1 hq with rfl | hq'
        · omega
        · have := (i2 x hx q hq' h1 h2).1
          rw [this] at hc; cases hc
    · simp only [if_true]
      obtain ⟨⟨q0, hq0, g1, g2⟩, g3⟩ := i1 hc
      refine ⟨fun _ => ⟨⟨q0, List.mem_cons_of_mem _ hq0, g1, g2⟩, g3⟩, fun x hx q hq h1 h2 => ?_⟩
      rcases List.mem_cons.1 hq with rfl | hq'
      · have := (hbd q0 hq0).2.2.2
        exact ⟨hc, by omega⟩
      · exact i2 x hx q hq' h1 h2

theorem last_most {l : List (Int × Int)} {y s : Int} (hr : right l = true) (hy : 0 ≤ y ∧ y ≤ 1000000) (hs : 0 ≤ s ∧ s ≤ 1000000) :
    ((last l y s).2 = true → At l (last l y s).1 s ∧ (last l y s).1 + s ≤ y) ∧ (∀ x, x + s ≤ y → At l x s → (last l y s).2 = true ∧ x ≤ (last l y s).1) := by
  have e : last l y s = lastGo y s (all l).reverse := by unfold last; rw [if_pos (by simp only [Bool.and_eq_true, minute_iff]; exact ⟨⟨hr, hy⟩, hs⟩)]
  rw [e]
  obtain ⟨h1, h2⟩ := lastGo_most (y := y) (rightFrom_all hr) hs.1
  exact ⟨h1, fun x hx ⟨q, hq, a, b⟩ => h2 x hx q hq a b⟩

theorem last_one {l : List (Int × Int)} {y s : Int} (hr : right l = true) (hy : 0 ≤ y ∧ y ≤ 1000000) (hs : 0 ≤ s ∧ s ≤ 1000000) (h : (last l y s).2 = true) :
    0 ≤ (last l y s).1 ∧ (last l y s).1 ≤ y - s ∧ (fit l (last l y s).1 s).2 = true ∧ (fit l (last l y s).1 s).1 = (last l y s).1 := by
  obtain ⟨h1, h2⟩ := (last_most hr hy hs).1 h
  have hb := at_bd hr h1
  have hf := fit_least (t := (last l y s).1) hr (by omega) hs
  obtain ⟨g1, g2⟩ := hf.2 _ (Int.le_refl _) h1
  have g3 := (hf.1 g1).2
  exact ⟨hb.1, by omega, g1, by omega⟩

theorem last_two {l : List (Int × Int)} {y s t : Int} (hr : right l = true) (hy : 0 ≤ y ∧ y ≤ 1000000) (hs : 0 ≤ s ∧ s ≤ 1000000) (h : (fit l t s).2 = true) (hz : (fit l t s).1 ≤ y - s) :
    (last l y s).2 = true ∧ (fit l t s).1 ≤ (last l y s).1 := by
  have ht : 0 ≤ t ∧ t ≤ 1000000 := by
    by_cases ht : 0 ≤ t ∧ t ≤ 1000000
    · exact ht
    · exfalso
      have : fit l t s = (0, false) := by
        unfold fit; rw [if_neg (by simp only [Bool.and_eq_true, minute_iff]; rintro ⟨⟨_, h'⟩, _⟩; exact ht h')]
      rw [this] at h; cases h
  obtain ⟨h1, _⟩ := (fit_least hr ht hs).1 h
  exact (last_most hr hy hs).2 _ (by omega) h1
end H
end Go.Proofs.Ytdbllcphopecjaa
