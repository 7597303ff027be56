/-
The law of Both in plain lists.
-/
import Derived.Test.YtdbllcphopecjaaHPlain3
namespace Go.Proofs.Ytdbllcphopecjaa
namespace H

theorem rightFrom_raise {c c' : Int} {l : List (Int × Int)} (h : rightFrom c l = true) (hc : ∀ q ∈ l, c' < q.1) : rightFrom c' l = true := by
  cases l with
  | nil => rfl
  | cons p l =>
    simp only [rightFrom, Bool.and_eq_true, Bool.not_eq_true', Bool.or_eq_false_iff, decide_eq_false_iff_not] at h ⊢
    obtain ⟨⟨⟨⟨h1, h2⟩, h3⟩, h4⟩, h5⟩ := h
    have := hc p (List.mem_cons_self ..)
    exact ⟨⟨⟨⟨by omega, h2⟩, h3⟩, h4⟩, h5⟩

theorem rightFrom_append {c : Int} {u v : List (Int × Int)} (hu : rightFrom c u = true) (hv : rightFrom c v = true) (h : ∀ p ∈ u, ∀ q ∈ v, p.2 < q.1) : rightFrom c (u ++ v) = true := by
  induction u generalizing c with
  | nil => exact hv
  | cons p u ih =>
    simp only [List.cons_append, rightFrom, Bool.and_eq_true] at hu ⊢
    exact ⟨hu.1, ih hu.2 (rightFrom_raise hv (fun q hq => h p (List.mem_cons_self ..) q hq)) (fun a ha => h a (List.mem_cons_of_mem _ ha))⟩

theorem inter_some {x y z : Int × Int} : inter x y = some z ↔ z.1 = max x.1 y.1 ∧ z.2 = min x.2 y.2 ∧ z.1 ≤ z.2 := by
  unfold inter
  split
  · rename_i h
    constructor
    · intro e; injection e with e; subst e; exact ⟨rfl, rfl, h⟩
    · rintro ⟨h1, h2, _⟩
      obtain ⟨z1, z2⟩ := z
      simp at h1 h2; subst h1 h2; rfl
  · rename_i h
    constructor
    · intro e; cases e
    · rintro ⟨h1, h2, h3⟩; omega

theorem inner_right {b c : Int} {x : Int × Int} (hx : 0 ≤ x.1 ∧ x.1 ≤ x.2 ∧ x.2 ≤ 1000000) {B : List (Int × Int)} (h : rightFrom b B = true) (hc : ∀ y ∈ B, c < max x.1 y.1) : rightFrom c (B.filterMap (inter x)) = true := by
  induction B generalizing b c with
  | nil => rfl
  | cons y B ih =>
    have hy := rightFrom_bd h y (List.mem_cons_self ..)
    simp only [rightFrom, Bool.and_eq_true] at h
    have hbd := rightFrom_bd h.2
    rw [List.filterMap_cons]
    cases e : inter x y with
    | none => exact ih h.2 (fun z hz => hc z (List.mem_cons_of_mem _ hz))
    | some z =>
      obtain ⟨e1, e2, e3⟩ := inter_some.1 e
      have h0 := hc y (List.mem_cons_self ..)
      simp only [rightFrom, Bool.and_eq_true, Bool.not_eq_true', Bool.or_eq_false_iff, decide_eq_false_iff_not]
      refine ⟨⟨⟨⟨by omega, by omega⟩, by omega⟩, by omega⟩, ih h.2 (fun w hw => ?_)⟩
      have := (hbd w hw).2.2.2
      omega

theorem outer_right {b c : Int} {A B : List (Int × Int)} (hA : rightFrom b A = true) (hB : rightFrom (-1) B = true) (hc : ∀ x ∈ A, c < x.1) : rightFrom c (A.flatMap fun x => B.filterMap (inter x)) = true := by
  induction A generalizing b c with
  | nil => rfl
  | cons x A ih =>
    have hx := rightFrom_bd hA x (List.mem_cons_self ..)
    simp only [rightFrom, Bool.and_eq_true] at hA
    have hbd := rightFrom_bd hA.2
    rw [List.flatMap_cons]
    refine rightFrom_append (inner_right ⟨by omega, by omega, by omega⟩ hB (fun y _ => by have := hc x (List.mem_cons_self ..); omega)) (ih hA.2 (fun z hz => hc z (List.mem_cons_of_mem _ hz))) ?_
    intro p hp q hq
    obtain ⟨y, _, e⟩ := List.mem_filterMap.1 hp
    obtain ⟨e1, e2, e3⟩ := inter_some.1 e
    obtain ⟨x', hx', hq'⟩ := List.mem_flatMap.1 hq
    obtain ⟨y', _, e'⟩ := List.mem_filterMap.1 hq'
    obtain ⟨e1', e2', e3'⟩ := inter_some.1 e'
    have := (hbd x' hx').2.2.2
    omega

theorem raw_right {a b : List (Int × Int)} (ha : right a = true) (hb : right b = true) : rightFrom (-1) (raw a b) = true :=
  outer_right (rightFrom_all ha) (rightFrom_all hb) (fun x hx => by have := rightFrom_bd (rightFrom_all ha) x hx; omega)

theorem raw_mem {a b : List (Int × Int)} {p : Int × Int} : p ∈ raw a b ↔ ∃ x ∈ all a, ∃ y ∈ all b, inter x y = some p := by
  simp only [raw, List.mem_flatMap, List.mem_filterMap]

theorem inter_comm (x y : Int × Int) : inter x y = inter y x := by
  unfold inter; rw [Int.max_comm, Int.min_comm]

theorem right_uniq {c : Int} {l m : List (Int × Int)} (hl : rightFrom c l = true) (hm : rightFrom c m = true) (h : ∀ p, p ∈ l ↔ p ∈ m) : l = m := by
  induction l generalizing c m with
  | nil =>
    cases m with
    | nil => rfl
    | cons q m => exact absurd ((h q).2 (List.mem_cons_self ..)) (by simp)
  | cons p l ih =>
    cases m with
    | nil => exact absurd ((h p).1 (List.mem_cons_self ..)) (by simp)
    | cons q m =>
      have bp := rightFrom_bd hl p (List.mem_cons_self ..)
      have bq := rightFrom_bd hm q (List.mem_cons_self ..)
      simp only [rightFrom, Bool.and_eq_true] at hl hm
      have bl := rightFrom_bd hl.2
      have bm := rightFrom_bd hm.2
      have e : p = q := by
        rcases List.mem_cons.1 ((h p).1 (List.mem_cons_self ..)) with e | e1
        · exact e
        · rcases List.mem_cons.1 ((h q).2 (List.mem_cons_self ..)) with e | e2
          · exact e.symm
          · have := (bm p e1).2.2.2; have := (bl q e2).2.2.2; omega
      subst e
      rw [ih hl.2 hm.2 (fun r => ?_)]
      constructor
      · intro hr
        rcases List.mem_cons.1 ((h r).1 (List.mem_cons_of_mem _ hr)) with e | e
        · subst e; have := (bl r hr).2.2.2; omega
        · exact e
      · intro hr
        rcases List.mem_cons.1 ((h r).2 (List.mem_cons_of_mem _ hr)) with e | e
        · subst e; have := (bm r hr).2.2.2; omega
        · exact e

theorem raw_comm {a b : List (Int × Int)} (ha : right a = true) (hb : right b = true) : raw a b = raw b a := by
  refine right_uniq (raw_right ha hb) (raw_right hb ha) (fun p => ?_)
  rw [raw_mem, raw_mem]
  constructor
  · rintro ⟨x, hx, y, hy, e⟩; exact ⟨y, hy, x, hx, by rw [inter_comm]; exact e⟩
  · rintro ⟨x, hx, y, hy, e⟩; exact ⟨y, hy, x, hx, by rw [inter_comm]; exact e⟩

theorem both_comm {a b : List (Int × Int)} (ha : right a = true) (hb : right b = true) : both a b = both b a := by
  have e1 : (right a && right b) = true := by simp [ha, hb]
  have e2 : (right b && right a) = true := by simp [ha, hb]
  unfold both
  rw [if_pos e1, if_pos e2, raw_comm ha hb]
  by_cases h : a.length = 0 ∧ b.length = 0
  · rw [if_pos h, if_pos ⟨h.2, h.1⟩]
  · have h2 : ¬ (b.length = 0 ∧ a.length = 0) := fun h' => h ⟨h'.2, h'.1⟩
    rw [if_neg h, if_neg h2]

/-- A minute and a service lie in a common part exactly if they lie in both lists. -/
theorem raw_at {a b : List (Int × Int)} {x s : Int} (hs : 0 ≤ s) : (∃ q ∈ raw a b, q.1 ≤ x ∧ x + s ≤ q.2) ↔ At a x s ∧ At b x s := by
  constructor
  · rintro ⟨q, hq, h1, h2⟩
    obtain ⟨y, hy, z, hz, e⟩ := raw_mem.1 hq
    obtain ⟨e1, e2, e3⟩ := inter_some.1 e
    exact ⟨⟨y, hy, by omega, by omega⟩, ⟨z, hz, by omega, by omega⟩⟩
  · rintro ⟨⟨y, hy, h1, h2⟩, ⟨z, hz, h3, h4⟩⟩
    exact ⟨(max y.1 z.1, min y.2 z.2), raw_mem.2 ⟨y, hy, z, hz, inter_some.2 ⟨rfl, rfl, by simp; omega⟩⟩, by simp; omega, by simp; omega⟩

theorem nodup_le {l S : List Int} (h : l.Pairwise (· < ·)) (hs : ∀ x ∈ l, x ∈ S) : l.length ≤ S.length := by
  induction l generalizing S with
  | nil => simp
  | cons p l ih =>
    have hp := hs p (List.mem_cons_self ..)
    rw [List.pairwise_cons] at h
    have := ih h.2 (S := S.erase p) (fun x hx => (List.mem_erase_of_ne (by have := h.1 x hx; omega)).2 (hs x (List.mem_cons_of_mem _ hx)))
    rw [List.length_erase_of_mem hp] at this
    have h0 : 0 < S.length := List.length_pos_of_mem hp
    simp only [List.length_cons]; omega

theorem ends_rise {c : Int} {l : List (Int × Int)} (h : rightFrom c l = true) : (l.map (·.2)).Pairwise (· < ·) := by
  induction l generalizing c with
  | nil => exact List.Pairwise.nil
  | cons p l ih =>
    simp only [rightFrom, Bool.and_eq_true] at h
    have hb := rightFrom_bd h.2
    rw [List.map_cons, List.pairwise_cons]
    refine ⟨fun x hx => ?_, ih h.2⟩
    obtain ⟨q, hq, rfl⟩ := List.mem_map.1 hx
    have := hb q hq; omega

theorem raw_len {a b : List (Int × Int)} (ha : right a = true) (hb : right b = true) : (raw a b).length ≤ (all a).length + (all b).length := by
  have h := nodup_le (ends_rise (raw_right ha hb)) (S := (all a).map (·.2) ++ (all b).map (·.2)) (fun x hx => by
    obtain ⟨q, hq, rfl⟩ := List.mem_map.1 hx
    obtain ⟨y, hy, z, hz, e⟩ := raw_mem.1 hq
    obtain ⟨e1, e2, e3⟩ := inter_some.1 e
    rw [List.mem_append, List.mem_map, List.mem_map]
    by_cases hc : y.2 ≤ z.2
    · exact .inl ⟨y, hy, by omega⟩
    · exact .inr ⟨z, hz, by omega⟩)
  simpa using h

/-- All that the law of Both asks, in one. -/
theorem both_law {a b : List (Int × Int)} (ha : right a = true) (hb : right b = true) (t s : Int) :
    ((both a b).2 = false → (both a b).1 = [] ∧ ((isOpen a t && isOpen b t) = false ∨ 6 < a.length + b.length)) ∧
    ((both a b).2 = true → right (both a b).1 = true ∧ isOpen (both a b).1 t = (isOpen a t && isOpen b t) ∧
      (((fit (both a b).1 t s).2 = true ∧ (fit (both a b).1 t s).1 = t) ↔ ((fit a t s).2 = true ∧ (fit b t s).2 = true ∧ (fit a t s).1 = t ∧ (fit b t s).1 = t))) := by
  have hfit : ∀ l, right l = true → (((fit l t s).2 = true ∧ (fit l t s).1 = t) ↔ (0 ≤ t ∧ t ≤ 1000000) ∧ (0 ≤ s ∧ s ≤ 1000000) ∧ At l t s) := by
    intro l hl
    by_cases h : (0 ≤ t ∧ t ≤ 1000000) ∧ (0 ≤ s ∧ s ≤ 1000000)
    · obtain ⟨ht, hs⟩ := h
      obtain ⟨f1, f2⟩ := fit_least (t := t) hl ht hs
      constructor
      · rintro ⟨h1, h2⟩
        have := (f1 h1).1
        rw [h2] at this
        exact ⟨ht, hs, this⟩
      · rintro ⟨_, _, h3⟩
        obtain ⟨g1, g2⟩ := f2 t (Int.le_refl _) h3
        have := (f1 g1).2
        exact ⟨g1, by omega⟩
    · have : fit l t s = (0, false) := by
        unfold fit; rw [if_neg (by simp only [Bool.and_eq_true, minute_iff]; rintro ⟨⟨_, h1⟩, h2⟩; exact h ⟨h1, h2⟩)]
      rw [this]
      constructor
      · rintro ⟨h1, _⟩; cases h1
      · rintro ⟨h1, h2, _⟩; exact absurd ⟨h1, h2⟩ h
  have hopen : ∀ l, right l = true → (isOpen l t = true ↔ (0 ≤ t ∧ t ≤ 1000000) ∧ At l t 0) := by
    intro l hl
    rw [isOpen_iff hl]
    constructor
    · rintro ⟨h1, q, hq, h2, h3⟩; exact ⟨h1, q, hq, h2, by omega⟩
    · rintro ⟨h1, q, hq, h2, h3⟩; exact ⟨h1, q, hq, h2, by omega⟩
  unfold both
  rw [if_pos (by simp [ha, hb])]
  by_cases h0 : a.length = 0 ∧ b.length = 0
  · rw [if_pos h0]
    have e1 := List.length_eq_zero_iff.1 h0.1
    have e2 := List.length_eq_zero_iff.1 h0.2
    subst e1 e2
    refine ⟨fun h => (by cases h), fun _ => ⟨rfl, by simp, ?_⟩⟩
    constructor
    · rintro ⟨h1, h2⟩; exact ⟨h1, h1, h2, h2⟩
    · rintro ⟨h1, _, h2, _⟩; exact ⟨h1, h2⟩
  · rw [if_neg h0]
    have hr := raw_right ha hb
    by_cases h1 : (raw a b).length = 0 ∨ 6 < (raw a b).length
    · rw [if_pos h1]
      refine ⟨fun _ => ⟨rfl, ?_⟩, fun h => (by cases h)⟩
      rcases h1 with h1 | h1
      · left
        cases hk : (isOpen a t && isOpen b t)
        · rfl
        · exfalso
          rw [Bool.and_eq_true, hopen a ha, hopen b hb] at hk
          obtain ⟨q, hq, _⟩ := (raw_at (Int.le_refl 0)).2 ⟨hk.1.2, hk.2.2⟩
          rw [List.length_eq_zero_iff.1 h1] at hq
          cases hq
      · right
        have hlen := raw_len ha hb
        have ha6 := (right_bd ha).1
        have hb6 := (right_bd hb).1
        have ea : (all a).length = if a.length = 0 then 1 else a.length := by unfold all; split <;> simp
        have eb : (all b).length = if b.length = 0 then 1 else b.length := by unfold all; split <;> simp
        by_cases za : a.length = 0
        · exfalso
          have e1 := List.length_eq_zero_iff.1 za
          subst e1
          have : raw [] b = all b := by
            have h2 : raw [] b = (all b).filterMap (inter (0, 1000000)) := by simp [raw, all]
            rw [h2, filterMap_id (all_bd hb).2]
          rw [this] at h1
          have := (all_bd hb).1
          omega
        · by_cases zb : b.length = 0
          · exfalso
            have e2 := List.length_eq_zero_iff.1 zb
            subst e2
            have : raw a [] = all a := by
              have h2 : raw a [] = ((all a).flatMap fun x => [((0 : Int), (1000000 : Int))].filterMap (inter x)) := by simp [raw, all]
              rw [h2, flatMap_id (all_bd ha).2]
            rw [this] at h1
            have := (all_bd ha).1
            omega
          · rw [if_neg za] at ea; rw [if_neg zb] at eb; omega
    · rw [if_neg h1]
      have hrr : right (raw a b) = true := right_iff.2 ⟨hr, by omega⟩
      have eall : all (raw a b) = raw a b := by unfold all; rw [if_neg (by omega)]
      refine ⟨fun h => (by cases h), fun _ => ⟨hrr, ?_, ?_⟩⟩
      · rw [Bool.eq_iff_iff, Bool.and_eq_true, hopen _ hrr, hopen a ha, hopen b hb]
        simp only [At, eall]
        have := raw_at (a := a) (b := b) (x := t) (Int.le_refl 0)
        simp only [At] at this
        rw [this]
        exact ⟨fun ⟨h1, h2, h3⟩ => ⟨⟨h1, h2⟩, h1, h3⟩, fun ⟨⟨h1, h2⟩, _, h3⟩ => ⟨h1, h2, h3⟩⟩
      · rw [hfit _ hrr]
        have ga := hfit a ha
        have gb := hfit b hb
        constructor
        · rintro ⟨h1, h2, h3⟩
          have h4 : At a t s ∧ At b t s := by
            rw [← raw_at h2.1]; simpa only [At, eall] using h3
          have g1 := ga.2 ⟨h1, h2, h4.1⟩
          have g2 := gb.2 ⟨h1, h2, h4.2⟩
          exact ⟨g1.1, g2.1, g1.2, g2.2⟩
        · rintro ⟨h1, h2, h3, h4⟩
          obtain ⟨g1, g2, g3⟩ := ga.1 ⟨h1, h3⟩
          obtain ⟨_, _, g4⟩ := gb.1 ⟨h2, h4⟩
          refine ⟨g1, g2, ?_⟩
          have := (raw_at g2.1).2 ⟨g3, g4⟩
          simpa only [At, eall] using this
end H
end Go.Proofs.Ytdbllcphopecjaa
