/-
The reference's windows: what its functions compute, and that it is the same. Plain lists, no program.
-/
import Derived.Test.YtdbllcphopecjaaHPlain
namespace Go.Proofs.Ytdbllcphopecjaa
namespace H

def inWin (t s : Int) (p : Int × Int) : Bool := decide (p.1 ≤ t) && decide (t + s ≤ p.2)
def fits (l : List (Int × Int)) (t s : Int) : Bool := minute t && minute s && decide (t + s ≤ 1000000) && (l.any (inWin t s) || decide (l.length = 0))

def rfitGo (l : List (Int × Int)) (t s : Int) : List (Int × Int) → Int × Bool
  | [] => (0, false)
  | p :: r => if decide (t ≤ p.1) && fits l p.1 s then (p.1, true) else rfitGo l t s r
def rfit (l : List (Int × Int)) (t s : Int) : Int × Bool :=
  if right l && minute t && minute s then (if fits l t s then (t, true) else rfitGo l t s l) else (0, false)

/-- The best minute so far, b; -1 at the start. -/
def rlastGo (l : List (Int × Int)) (y s : Int) (b : Int) : List (Int × Int) → Int
  | [] => b
  | p :: r => rlastGo l y s (if decide (p.2 ≤ y) && fits l (p.2 - s) s then p.2 - s else b) r
def rlast (l : List (Int × Int)) (y s : Int) : Int × Bool :=
  if right l && minute y && minute s then (if fits l (y - s) s then (y - s, true) else (if rlastGo l y s (-1) l < 0 then (0, false) else (rlastGo l y s (-1) l, true))) else (0, false)

theorem minute_iff {t : Int} : minute t = true ↔ 0 ≤ t ∧ t ≤ 1000000 := by simp [minute]

theorem fits_iff {l : List (Int × Int)} {t s : Int} : fits l t s = true ↔ (0 ≤ t ∧ t ≤ 1000000) ∧ (0 ≤ s ∧ s ≤ 1000000) ∧ t + s ≤ 1000000 ∧ ((∃ p ∈ l, p.1 ≤ t ∧ t + s ≤ p.2) ∨ l = []) := by
  simp only [fits, Bool.and_eq_true, Bool.or_eq_true, minute_iff, decide_eq_true_eq, List.any_eq_true, inWin, List.length_eq_zero_iff]
  constructor
  · rintro ⟨⟨⟨h1, h2⟩, h3⟩, h4⟩; exact ⟨h1, h2, h3, h4⟩
  · rintro ⟨h1, h2, h3, h4⟩; exact ⟨⟨⟨h1, h2⟩, h3⟩, h4⟩

theorem right_iff {l : List (Int × Int)} : right l = true ↔ rightFrom (-1) l = true ∧ l.length ≤ 6 := by simp [right]

/-- In right windows two that have a minute in common are the same. -/
theorem same_win {b : Int} {l : List (Int × Int)} (h : rightFrom b l = true) {p q : Int × Int} (hp : p ∈ l) (hq : q ∈ l) {t : Int} (h1 : p.1 ≤ t) (h2 : t ≤ p.2) (h3 : q.1 ≤ t) (h4 : t ≤ q.2) : p = q := by
  induction l generalizing b with
  | nil => cases hp
  | cons x l ih =>
    have hx := h
    simp only [rightFrom, Bool.and_eq_true] at hx
    obtain ⟨_, hr⟩ := hx
    have hbd := rightFrom_bd hr
    rcases List.mem_cons.1 hp with rfl | hp' <;> rcases List.mem_cons.1 hq with rfl | hq'
    · rfl
    · have := (hbd q hq').2.2.2; omega
    · have := (hbd p hp').2.2.2; omega
    · exact ih hr hp' hq'

theorem fits_at {l : List (Int × Int)} (h : rightFrom (-1) l = true) {p : Int × Int} (hp : p ∈ l) {t s : Int} (hs : 0 ≤ s ∧ s ≤ 1000000) (h0 : 0 ≤ t) (u : Int) (hu : t ≤ u ∧ u ≤ t + s) (h1 : p.1 ≤ u) (h2 : u ≤ p.2) :
    fits l t s = true ↔ p.1 ≤ t ∧ t + s ≤ p.2 := by
  have hb := rightFrom_bd h p hp
  rw [fits_iff]
  constructor
  · rintro ⟨_, _, _, h4⟩
    rcases h4 with ⟨q, hq, h5, h6⟩ | h4
    · have e := same_win h hp hq (t := u) h1 h2 (by omega) (by omega)
      subst e; exact ⟨h5, h6⟩
    · subst h4; cases hp
  · rintro ⟨h3, h4⟩
    exact ⟨by omega, hs, by omega, .inl ⟨p, hp, h3, h4⟩⟩

theorem fitGo_hit {b t s : Int} {l : List (Int × Int)} (h : rightFrom b l = true) (hs : 0 ≤ s) {q : Int × Int} (hq : q ∈ l) (h1 : q.1 ≤ t) (h2 : t + s ≤ q.2) : fitGo t s l = (t, true) := by
  induction l generalizing b with
  | nil => cases hq
  | cons x l ih =>
    have hx := h
    simp only [rightFrom, Bool.and_eq_true] at hx
    obtain ⟨_, hr⟩ := hx
    have hbd := rightFrom_bd hr
    rcases List.mem_cons.1 hq with rfl | hq'
    · have e : max t q.1 = t := by omega
      simp only [fitGo, e]
      rw [if_pos h2]
    · have h3 := (hbd q hq').2.2.2
      simp only [fitGo]
      rw [if_neg (by omega)]
      exact ih hr hq'

theorem fitGo_miss {t s : Int} {l r : List (Int × Int)} (h : rightFrom (-1) l = true) (ht : 0 ≤ t ∧ t ≤ 1000000) (hs : 0 ≤ s ∧ s ≤ 1000000) (hno : fits l t s = false) (hr : ∀ p ∈ r, p ∈ l) : fitGo t s r = rfitGo l t s r := by
  induction r with
  | nil => rfl
  | cons p r ih =>
    have hp := hr p (List.mem_cons_self ..)
    have hb := rightFrom_bd h p hp
    have ih' := ih (fun q hq => hr q (List.mem_cons_of_mem _ hq))
    have ha := fits_at h hp hs (t := p.1) hb.1 p.1 (by omega) (by omega) (by omega)
    simp only [fitGo, rfitGo]
    by_cases hc : t ≤ p.1
    · have e : max t p.1 = p.1 := by omega
      rw [e]
      by_cases hf : p.1 + s ≤ p.2
      · have : fits l p.1 s = true := ha.2 ⟨by omega, hf⟩
        rw [if_pos hf, if_pos (by simp [hc, this])]
      · have : fits l p.1 s = false := by
          cases hk : fits l p.1 s
          · rfl
          · exact absurd (ha.1 hk).2 hf
        rw [if_neg hf, if_neg (by simp [this])]
        exact ih'
    · have e : max t p.1 = t := by omega
      rw [e, if_neg (c := (decide (t ≤ p.1) && fits l p.1 s) = true) (by simp [hc])]
      by_cases hf : t + s ≤ p.2
      · exfalso
        have : fits l t s = true := fits_iff.2 ⟨ht, hs, by omega, .inl ⟨p, hp, by omega, hf⟩⟩
        rw [this] at hno; cases hno
      · rw [if_neg hf]; exact ih'

theorem fit_eq (l : List (Int × Int)) (t s : Int) : fit l t s = rfit l t s := by
  unfold fit rfit
  by_cases h : (right l && minute t && minute s) = true
  · rw [if_pos h, if_pos h]
    simp only [Bool.and_eq_true] at h
    obtain ⟨⟨h1, h2⟩, h3⟩ := h
    rw [minute_iff] at h2 h3
    have hr := (right_iff.1 h1).1
    cases l with
    | nil =>
      simp only [all, List.length_nil, if_pos]
      have e : max t 0 = t := by omega
      simp only [fitGo, e, rfitGo]
      by_cases hf : t + s ≤ 1000000
      · rw [if_pos hf, if_pos (fits_iff.2 ⟨h2, h3, hf, .inr rfl⟩)]
      · rw [if_neg hf, if_neg (fun hk => hf (fits_iff.1 hk).2.2.1)]
    | cons x l =>
      have ea : all (x :: l) = x :: l := by simp [all]
      rw [ea]
      cases hf : fits (x :: l) t s
      · simp only [Bool.false_eq_true, if_false]
        exact fitGo_miss hr h2 h3 hf (fun _ hp => hp)
      · simp only [if_true]
        obtain ⟨_, _, _, h4⟩ := fits_iff.1 hf
        rcases h4 with ⟨q, hq, h5, h6⟩ | h4
        · exact fitGo_hit hr h3.1 hq h5 h6
        · cases h4
  · rw [if_neg h, if_neg h]

theorem lastGo_app (y s : Int) (a b : List (Int × Int)) : lastGo y s (a ++ b) = if (lastGo y s a).2 then lastGo y s a else lastGo y s b := by
  induction a with
  | nil => simp [lastGo]
  | cons p a ih =>
    simp only [List.cons_append, lastGo]
    split
    · simp
    · exact ih

theorem lastGo_none {y s : Int} {r : List (Int × Int)} (h : ∀ p ∈ r, ¬ p.1 ≤ min y p.2 - s) : lastGo y s r = (0, false) := by
  induction r with
  | nil => rfl
  | cons p r ih =>
    simp only [lastGo]
    rw [if_neg (h p (List.mem_cons_self ..))]
    exact ih (fun q hq => h q (List.mem_cons_of_mem _ hq))

theorem lastGo_hit {b y s : Int} {l : List (Int × Int)} (h : rightFrom b l = true) (hs : 0 ≤ s) {q : Int × Int} (hq : q ∈ l) (h1 : q.1 ≤ y - s) (h2 : y ≤ q.2) : lastGo y s l.reverse = (y - s, true) := by
  induction l generalizing b with
  | nil => cases hq
  | cons x l ih =>
    have hx := h
    simp only [rightFrom, Bool.and_eq_true] at hx
    obtain ⟨_, hr⟩ := hx
    have hbd := rightFrom_bd hr
    rw [List.reverse_cons, lastGo_app]
    rcases List.mem_cons.1 hq with rfl | hq'
    · rw [lastGo_none (r := l.reverse) (fun p hp => by have := hbd p (List.mem_reverse.1 hp); omega)]
      have e : min y q.2 = y := by omega
      simp only [lastGo, e]
      rw [if_pos h1]
      rfl
    · rw [ih hr hq']
      rfl

theorem rlastGo_eq {y s : Int} {l : List (Int × Int)} (h : rightFrom (-1) l = true) (hy : 0 ≤ y ∧ y ≤ 1000000) (hs : 0 ≤ s ∧ s ≤ 1000000) (hno : fits l (y - s) s = false) :
    ∀ (r : List (Int × Int)) (b : Int), (∀ p ∈ r, p ∈ l) → rlastGo l y s b r = if (lastGo y s r.reverse).2 then (lastGo y s r.reverse).1 else b := by
  intro r
  induction r with
  | nil => intro b _; rfl
  | cons p r ih =>
    intro b hr
    have hp := hr p (List.mem_cons_self ..)
    have hb := rightFrom_bd h p hp
    have hlast : (decide (p.2 ≤ y) && fits l (p.2 - s) s) = true ↔ p.1 ≤ min y p.2 - s := by
      simp only [Bool.and_eq_true, decide_eq_true_eq]
      constructor
      · rintro ⟨h1, h2⟩
        have h0 := (fits_iff.1 h2).1.1
        have := (fits_at h hp hs h0 p.2 (by omega) (by omega) (by omega)).1 h2
        omega
      · intro h1
        by_cases h2 : p.2 ≤ y
        · exact ⟨h2, (fits_at h hp hs (t := p.2 - s) (by omega) p.2 (by omega) (by omega) (by omega)).2 (by omega)⟩
        · exfalso
          have : fits l (y - s) s = true := fits_iff.2 ⟨by omega, hs, by omega, .inl ⟨p, hp, by omega, by omega⟩⟩
          rw [this] at hno; cases hno
    rw [rlastGo, ih _ (fun q hq => hr q (List.mem_cons_of_mem _ hq)), List.reverse_cons, lastGo_app]
    cases hl : (lastGo y s r.reverse).2
    · simp only [Bool.false_eq_true, if_false, lastGo]
      by_cases hc : p.1 ≤ min y p.2 - s
      · rw [if_pos hc, if_pos (hlast.2 hc)]
        have h3 : p.2 ≤ y := by have := hlast.2 hc; simp at this; exact this.1
        have e : min y p.2 = p.2 := by omega
        simp [e]
      · rw [if_neg hc, if_neg (fun hk => hc (hlast.1 hk))]
        simp
    · simp [hl]

theorem lastGo_nonneg {y s : Int} {r : List (Int × Int)} (h : ∀ p ∈ r, 0 ≤ p.1) : (lastGo y s r).2 = true → 0 ≤ (lastGo y s r).1 := by
  induction r with
  | nil => intro h'; cases h'
  | cons p r ih =>
    simp only [lastGo]
    have := h p (List.mem_cons_self ..)
    split
    · intro _; simp; omega
    · exact ih (fun q hq => h q (List.mem_cons_of_mem _ hq))

theorem lastGo_zero {y s : Int} {r : List (Int × Int)} (h : (lastGo y s r).2 = false) : lastGo y s r = (0, false) := by
  induction r with
  | nil => rfl
  | cons p r ih =>
    simp only [lastGo] at h ⊢
    split at h
    · cases h
    · rename_i hc; rw [if_neg hc]; exact ih h

theorem last_eq (l : List (Int × Int)) (y s : Int) : last l y s = rlast l y s := by
  unfold last rlast
  by_cases h : (right l && minute y && minute s) = true
  · rw [if_pos h, if_pos h]
    simp only [Bool.and_eq_true] at h
    obtain ⟨⟨h1, h2⟩, h3⟩ := h
    rw [minute_iff] at h2 h3
    have hr := (right_iff.1 h1).1
    cases l with
    | nil =>
      simp only [all, List.length_nil, if_pos, List.reverse_singleton, rlastGo]
      have e : min y 1000000 = y := by omega
      simp only [lastGo, e]
      by_cases hf : 0 ≤ y - s
      · rw [if_pos hf, if_pos (fits_iff.2 ⟨by omega, h3, by omega, .inr rfl⟩)]
      · rw [if_neg hf, if_neg (fun hk => hf (fits_iff.1 hk).1.1)]
        simp
    | cons x l =>
      have ea : all (x :: l) = x :: l := by simp [all]
      rw [ea]
      cases hf : fits (x :: l) (y - s) s
      · simp only [Bool.false_eq_true, if_false]
        rw [rlastGo_eq hr h2 h3 hf (x :: l) (-1) (fun _ hp => hp)]
        cases hl : (lastGo y s (x :: l).reverse).2
        · simp only [Bool.false_eq_true, if_false]
          rw [if_pos (by decide)]
          exact lastGo_zero hl
        · simp only [if_true]
          have := lastGo_nonneg (y := y) (s := s) (r := (x :: l).reverse) (fun p hp => (rightFrom_bd hr p (List.mem_reverse.1 hp)).1) hl
          rw [if_neg (by omega), ← hl]
      · simp only [if_true]
        obtain ⟨_, _, _, h4⟩ := fits_iff.1 hf
        rcases h4 with ⟨q, hq, h5, h6⟩ | h4
        · exact lastGo_hit hr h3.1 hq h5 (by omega)
        · cases h4
  · rw [if_neg h, if_neg h]

def ropen (l : List (Int × Int)) (t : Int) : Bool := right l && fits l t 0

theorem open_eq (l : List (Int × Int)) (t : Int) : isOpen l t = ropen l t := by
  unfold isOpen ropen
  rw [Bool.eq_iff_iff]
  simp only [Bool.and_eq_true, minute_iff, fits_iff, List.any_eq_true, opens, decide_eq_true_eq]
  constructor
  · rintro ⟨⟨h1, h2⟩, p, hp, h3, h4⟩
    refine ⟨h2, h1, by omega, by omega, ?_⟩
    cases l with
    | nil => exact .inr rfl
    | cons x l => exact .inl ⟨p, by simpa [all] using hp, h3, by omega⟩
  · rintro ⟨h2, h1, _, _, h4⟩
    refine ⟨⟨h1, h2⟩, ?_⟩
    rcases h4 with ⟨p, hp, h5, h6⟩ | rfl
    · cases l with
      | nil => cases hp
      | cons x l => exact ⟨p, by simpa [all] using hp, h5, by omega⟩
    · exact ⟨(0, 1000000), by simp [all], by omega, by omega⟩

/-- What the reference's Both computes. -/
def rboth (a b : List (Int × Int)) : List (Int × Int) × Bool :=
  if right a && right b then
    if a.length = 0 then (b, true) else if b.length = 0 then (a, true)
    else if (a.flatMap fun x => b.filterMap (inter x)).length < 1 ∨ 6 < (a.flatMap fun x => b.filterMap (inter x)).length then ([], false) else (a.flatMap fun x => b.filterMap (inter x), true)
  else ([], false)

theorem filterMap_id {l : List (Int × Int)} (h : ∀ p ∈ l, 0 ≤ p.1 ∧ p.1 ≤ p.2 ∧ p.2 ≤ 1000000) : l.filterMap (inter (0, 1000000)) = l := by
  induction l with
  | nil => rfl
  | cons p l ih =>
    have hp := h p (List.mem_cons_self ..)
    have e1 : max 0 p.1 = p.1 := by omega
    have e2 : min 1000000 p.2 = p.2 := by omega
    have : inter (0, 1000000) p = some p := by simp only [inter, e1, e2]; rw [if_pos hp.2.1]
    rw [List.filterMap_cons, this, ih (fun q hq => h q (List.mem_cons_of_mem _ hq))]

theorem flatMap_id {l : List (Int × Int)} (h : ∀ p ∈ l, 0 ≤ p.1 ∧ p.1 ≤ p.2 ∧ p.2 ≤ 1000000) : (l.flatMap fun x => [((0 : Int), (1000000 : Int))].filterMap (inter x)) = l := by
  induction l with
  | nil => rfl
  | cons p l ih =>
    have hp := h p (List.mem_cons_self ..)
    have e1 : max p.1 0 = p.1 := by omega
    have e2 : min p.2 1000000 = p.2 := by omega
    have : inter p (0, 1000000) = some p := by simp only [inter, e1, e2]; rw [if_pos hp.2.1]
    rw [List.flatMap_cons, ih (fun q hq => h q (List.mem_cons_of_mem _ hq))]
    simp [this]

theorem both_eq (a b : List (Int × Int)) : both a b = rboth a b := by
  unfold both rboth
  by_cases h : (right a && right b) = true
  · rw [if_pos h, if_pos h]
    simp only [Bool.and_eq_true] at h
    obtain ⟨ha, hb⟩ := h
    have ha' := right_bd ha
    have hb' := right_bd hb
    cases a with
    | nil =>
      cases b with
      | nil => simp
      | cons y b =>
        have e : raw [] (y :: b) = y :: b := by
          have : raw [] (y :: b) = (y :: b).filterMap (inter (0, 1000000)) := by simp [raw, all]
          rw [this, filterMap_id hb'.2]
        rw [if_neg (by simp), e, if_neg (by have := hb'.1; simp only [List.length_cons] at this ⊢; omega)]
        simp
    | cons x a =>
      cases b with
      | nil =>
        have e : raw (x :: a) [] = x :: a := by
          have : raw (x :: a) [] = ((x :: a).flatMap fun x => [((0 : Int), (1000000 : Int))].filterMap (inter x)) := by simp only [raw, all, List.length_cons, List.length_nil, if_true]; rw [if_neg (by omega)]
          rw [this, flatMap_id ha'.2]
        rw [if_neg (by simp), e, if_neg (by have := ha'.1; simp only [List.length_cons] at this ⊢; omega)]
        simp
      | cons y b =>
        have e : raw (x :: a) (y :: b) = ((x :: a).flatMap fun x => (y :: b).filterMap (inter x)) := by simp only [raw, all, List.length_cons]; rw [if_neg (by omega), if_neg (by omega)]
        rw [if_neg (by simp), e, if_neg (c := (x :: a).length = 0) (by simp), if_neg (c := (y :: b).length = 0) (by simp)]
        generalize ((x :: a).flatMap fun x => (y :: b).filterMap (inter x)) = z
        by_cases hz : z.length = 0
        · rw [if_pos (.inl hz), if_pos (.inl (by omega))]
        · by_cases hz2 : 6 < z.length
          · rw [if_pos (.inr hz2), if_pos (.inr hz2)]
          · rw [if_neg (by omega), if_neg (by omega)]
  · rw [if_neg h, if_neg h]
end H
end Go.Proofs.Ytdbllcphopecjaa
