/-
Windows: what the functions of layer 28 compute. Plain lists, no program.
-/
namespace Go.Proofs.Ytdbllcphopecjaa
namespace H

def rightFrom (b : Int) : List (Int × Int) → Bool
  | [] => true
  | p :: l => !(decide (p.1 ≤ b) || decide (p.1 < 0) || decide (p.2 < p.1) || decide (1000000 < p.2)) && rightFrom p.2 l

def right (l : List (Int × Int)) : Bool := rightFrom (-1) l && decide (l.length ≤ 6)

theorem rightFrom_drop {b o c : Int} {l : List (Int × Int)} {k : Nat} (h : l[k]? = some (o, c)) :
    rightFrom b (l.drop k) = (!(decide (o ≤ b) || decide (o < 0) || decide (c < o) || decide (1000000 < c)) && rightFrom c (l.drop (k + 1))) := by
  obtain ⟨hk, e⟩ := List.getElem?_eq_some_iff.1 h
  rw [List.drop_eq_getElem_cons hk, e]
  rfl

def minute (t : Int) : Bool := decide (0 ≤ t) && decide (t ≤ 1000000)

def all (l : List (Int × Int)) : List (Int × Int) := if l.length = 0 then [(0, 1000000)] else l

def fitGo (t s : Int) : List (Int × Int) → Int × Bool
  | [] => (0, false)
  | p :: l => if max t p.1 + s ≤ p.2 then (max t p.1, true) else fitGo t s l

def fit (l : List (Int × Int)) (t s : Int) : Int × Bool := if right l && minute t && minute s then fitGo t s (all l) else (0, false)

def lastGo (y s : Int) : List (Int × Int) → Int × Bool
  | [] => (0, false)
  | p :: l => if p.1 ≤ min y p.2 - s then (min y p.2 - s, true) else lastGo y s l

def last (l : List (Int × Int)) (y s : Int) : Int × Bool := if right l && minute y && minute s then lastGo y s (all l).reverse else (0, false)

def opens (t : Int) (p : Int × Int) : Bool := decide (p.1 ≤ t) && decide (t ≤ p.2)

def isOpen (l : List (Int × Int)) (t : Int) : Bool := minute t && right l && (all l).any (opens t)

theorem all_len (l : List (Int × Int)) : 1 ≤ (all l).length ∧ (all l).length ≤ l.length + 1 := by
  unfold all; split
  · simp
  · omega

theorem rightFrom_bd {b : Int} {l : List (Int × Int)} (h : rightFrom b l = true) : ∀ p ∈ l, 0 ≤ p.1 ∧ p.1 ≤ p.2 ∧ p.2 ≤ 1000000 ∧ b < p.1 := by
  induction l generalizing b with
  | nil => intro p hp; cases hp
  | cons q l ih =>
    simp only [rightFrom, Bool.and_eq_true, Bool.not_eq_true', Bool.or_eq_false_iff, decide_eq_false_iff_not] at h
    obtain ⟨⟨⟨⟨h1, h2⟩, h3⟩, h4⟩, h5⟩ := h
    intro p hp
    rcases List.mem_cons.1 hp with rfl | hp
    · omega
    · have := ih h5 p hp; omega

theorem right_bd {l : List (Int × Int)} (h : right l = true) : l.length ≤ 6 ∧ ∀ p ∈ l, 0 ≤ p.1 ∧ p.1 ≤ p.2 ∧ p.2 ≤ 1000000 := by
  simp only [right, Bool.and_eq_true, decide_eq_true_eq] at h
  exact ⟨h.2, fun p hp => by have := rightFrom_bd h.1 p hp; omega⟩

theorem all_bd {l : List (Int × Int)} (h : right l = true) : (all l).length ≤ 6 ∧ ∀ p ∈ all l, 0 ≤ p.1 ∧ p.1 ≤ p.2 ∧ p.2 ≤ 1000000 := by
  obtain ⟨h1, h2⟩ := right_bd h
  unfold all; split
  · refine ⟨by simp, fun p hp => ?_⟩
    rw [List.mem_singleton] at hp
    subst hp; simp
  · exact ⟨h1, h2⟩

theorem fitGo_drop {t s o c : Int} {l : List (Int × Int)} {k : Nat} (h : l[k]? = some (o, c)) :
    fitGo t s (l.drop k) = if max t o + s ≤ c then (max t o, true) else fitGo t s (l.drop (k + 1)) := by
  obtain ⟨hk, e⟩ := List.getElem?_eq_some_iff.1 h
  rw [List.drop_eq_getElem_cons hk, e]
  rfl

/-- The common part of two windows. -/
def inter (x y : Int × Int) : Option (Int × Int) := if max x.1 y.1 ≤ min x.2 y.2 then some (max x.1 y.1, min x.2 y.2) else none

def raw (a b : List (Int × Int)) : List (Int × Int) := (all a).flatMap fun x => (all b).filterMap (inter x)

def both (a b : List (Int × Int)) : List (Int × Int) × Bool :=
  if right a && right b then
    if a.length = 0 ∧ b.length = 0 then ([], true)
    else if (raw a b).length = 0 ∨ 6 < (raw a b).length then ([], false) else (raw a b, true)
  else ([], false)

theorem filterMap_le {α β : Type} (f : α → Option β) (l : List α) : (l.filterMap f).length ≤ l.length := List.length_filterMap_le f l

theorem take_flat {a b : List (Int × Int)} {k : Nat} {x : Int × Int} (h : a[k]? = some x) :
    (a.take (k + 1)).flatMap (fun x => b.filterMap (inter x)) = (a.take k).flatMap (fun x => b.filterMap (inter x)) ++ b.filterMap (inter x) := by
  obtain ⟨hk, e⟩ := List.getElem?_eq_some_iff.1 h
  rw [List.take_succ_eq_append_getElem hk, e, List.flatMap_append]
  simp

theorem take_filter {b : List (Int × Int)} {k : Nat} {x y : Int × Int} (h : b[k]? = some y) :
    (b.take (k + 1)).filterMap (inter x) = (b.take k).filterMap (inter x) ++ (match inter x y with | some z => [z] | none => []) := by
  obtain ⟨hk, e⟩ := List.getElem?_eq_some_iff.1 h
  rw [List.take_succ_eq_append_getElem hk, e, List.filterMap_append]
  simp only [List.filterMap_cons, List.filterMap_nil]
  cases inter x y <;> rfl

theorem flat_le (a b : List (Int × Int)) (k : Nat) : ((a.take k).flatMap (fun x => b.filterMap (inter x))).length ≤ k * b.length := by
  induction k with
  | zero => simp
  | succ k ih =>
    cases h : a[k]? with
    | none =>
      have : a.length ≤ k := by rw [List.getElem?_eq_none_iff] at h; exact h
      rw [List.take_of_length_le (by omega)]
      rw [List.take_of_length_le this] at ih
      rw [Nat.add_mul]; omega
    | some x =>
      rw [take_flat h, List.length_append, Nat.add_mul]
      have := filterMap_le (inter x) b
      omega
end H
end Go.Proofs.Ytdbllcphopecjaa
