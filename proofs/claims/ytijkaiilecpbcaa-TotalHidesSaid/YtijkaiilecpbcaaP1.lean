/-
Plain laws of the levels of Build.
-/
import Derived.Test.YtijkaiilecpbcaaW15
namespace Go.Proofs.Ytijkaiilecpbcaa
open Go.RowKit
namespace K
def sumv (V : List It) : List Int → Int
  | [] => 0
  | i :: l => (get V i).val + sumv V l
def sumb (V : List It) : List Int → Int
  | [] => 0
  | i :: l => (get V i).bl + sumb V l
/-- The numbers of a level name items with amounts. -/
def fine (V : List It) (lv : List Int) : Prop := ∀ i ∈ lv, (0 ≤ i ∧ i < V.length) ∧ 0 ≤ (get V i).val ∧ 0 ≤ (get V i).bl
end K

theorem K.get_old {V W : List It} {i : Int} (h : 0 ≤ i ∧ i < V.length) : K.get (V ++ W) i = K.get V i := by
  unfold K.get
  rw [List.getElem?_append_left (by omega)]

theorem K.get_new (V : List It) (x : It) (W : List It) : K.get (V ++ x :: W) (V.length : Int) = x := by
  unfold K.get
  rw [Int.toNat_natCast, List.getElem?_append_right (Nat.le_refl _), Nat.sub_self]
  rfl

theorem K.fine_app {V W : List It} {lv : List Int} (h : K.fine V lv) : K.fine (V ++ W) lv := by
  intro i hi
  obtain ⟨h1, h2, h3⟩ := h i hi
  rw [K.get_old h1]
  exact ⟨⟨h1.1, by rw [List.length_append]; omega⟩, h2, h3⟩

theorem K.sumv_app {V W : List It} : ∀ {lv : List Int}, K.fine V lv → K.sumv (V ++ W) lv = K.sumv V lv := by
  intro lv
  induction lv with
  | nil => intro _; rfl
  | cons i lv ih =>
    intro h
    simp only [K.sumv]
    rw [ih fun j hj => h j (List.mem_cons_of_mem _ hj), K.get_old (h i List.mem_cons_self).1]
theorem K.sumb_app {V W : List It} : ∀ {lv : List Int}, K.fine V lv → K.sumb (V ++ W) lv = K.sumb V lv := by
  intro lv
  induction lv with
  | nil => intro _; rfl
  | cons i lv ih =>
    intro h
    simp only [K.sumb]
    rw [ih fun j hj => h j (List.mem_cons_of_mem _ hj), K.get_old (h i List.mem_cons_self).1]

theorem K.sumv_mem {V : List It} : ∀ {lv : List Int}, K.fine V lv → (0 ≤ K.sumv V lv ∧ ∀ i ∈ lv, (K.get V i).val ≤ K.sumv V lv) := by
  intro lv
  induction lv with
  | nil => intro _; exact ⟨Int.le_refl _, fun i hi => by simp at hi⟩
  | cons j lv ih =>
    intro h
    obtain ⟨h1, h2⟩ := ih fun i hi => h i (List.mem_cons_of_mem _ hi)
    have hj := (h j List.mem_cons_self).2.1
    refine ⟨by simp only [K.sumv]; omega, fun i hi => ?_⟩
    simp only [K.sumv]
    rcases List.mem_cons.1 hi with rfl | hi
    · omega
    · have := h2 i hi; omega
theorem K.sumb_mem {V : List It} : ∀ {lv : List Int}, K.fine V lv → (0 ≤ K.sumb V lv ∧ ∀ i ∈ lv, (K.get V i).bl ≤ K.sumb V lv) := by
  intro lv
  induction lv with
  | nil => intro _; exact ⟨Int.le_refl _, fun i hi => by simp at hi⟩
  | cons j lv ih =>
    intro h
    obtain ⟨h1, h2⟩ := ih fun i hi => h i (List.mem_cons_of_mem _ hi)
    have hj := (h j List.mem_cons_self).2.2
    refine ⟨by simp only [K.sumb]; omega, fun i hi => ?_⟩
    simp only [K.sumb]
    rcases List.mem_cons.1 hi with rfl | hi
    · omega
    · have := h2 i hi; omega

/-- One level up. -/
theorem K.pair_fine : ∀ (m : Nat) (lv : List Int) (V : List It), lv.length ≤ m → K.fine V lv →
    K.fine (K.pairUp V lv).1 (K.pairUp V lv).2 ∧ K.sumv (K.pairUp V lv).1 (K.pairUp V lv).2 = K.sumv V lv ∧ K.sumb (K.pairUp V lv).1 (K.pairUp V lv).2 = K.sumb V lv ∧
      (∃ W, (K.pairUp V lv).1 = V ++ W) ∧ (K.pairUp V lv).1.length + (K.pairUp V lv).2.length = V.length + lv.length ∧ 2 * (K.pairUp V lv).2.length ≤ lv.length + 1 ∧ lv.length ≤ 2 * (K.pairUp V lv).2.length := by
  intro m
  induction m with
  | zero =>
    intro lv V hm h
    have : lv = [] := List.length_eq_zero_iff.1 (by omega)
    subst this
    exact ⟨h, rfl, rfl, ⟨[], by simp [K.pairUp]⟩, rfl, by simp [K.pairUp], by simp⟩
  | succ m ih =>
    intro lv V hm h
    rcases lv with _ | ⟨a, _ | ⟨b, r⟩⟩
    · exact ⟨h, rfl, rfl, ⟨[], by simp [K.pairUp]⟩, rfl, by simp [K.pairUp], by simp⟩
    · exact ⟨h, rfl, rfl, ⟨[], by simp [K.pairUp]⟩, rfl, by simp [K.pairUp], by simp [K.pairUp]⟩
    · have ha := h a List.mem_cons_self
      have hb := h b (List.mem_cons_of_mem _ List.mem_cons_self)
      have hr : K.fine V r := fun i hi => h i (List.mem_cons_of_mem _ (List.mem_cons_of_mem _ hi))
      have hr1 : K.fine (V ++ [K.sumIt V a b]) r := K.fine_app hr
      obtain ⟨g1, g2, g3, ⟨W, g4⟩, g5, g6, g7⟩ := ih r (V ++ [K.sumIt V a b]) (by simp at hm; omega) hr1
      have hget : K.get (K.pairUp (V ++ [K.sumIt V a b]) r).1 (V.length : Int) = K.sumIt V a b := by
        rw [g4, List.append_assoc]; exact K.get_new V _ W
      simp only [K.pairUp]
      refine ⟨?_, ?_, ?_, ⟨K.sumIt V a b :: W, by rw [g4]; simp⟩, ?_, ?_, ?_⟩
      · intro i hi
        rcases List.mem_cons.1 hi with rfl | hi
        · rw [hget]
          refine ⟨⟨by omega, by rw [g4]; simp; omega⟩, ?_, ?_⟩
          · show 0 ≤ (K.get V a).val + (K.get V b).val; omega
          · show 0 ≤ (K.get V a).bl + (K.get V b).bl; omega
        · exact g1 i hi
      · simp only [K.sumv]
        rw [hget, g2, K.sumv_app hr]
        show (K.get V a).val + (K.get V b).val + _ = _; omega
      · simp only [K.sumb]
        rw [hget, g3, K.sumb_app hr]
        show (K.get V a).bl + (K.get V b).bl + _ = _; omega
      · simp only [List.length_cons, List.length_append, List.length_nil] at g5 ⊢; omega
      · simp only [List.length_cons] at g6 ⊢; omega
      · simp only [List.length_cons] at g7 ⊢; omega

/-- The inner loop's next pair. -/
theorem K.pair_next {V V' : List It} {lv nx : List Int} {t : Nat} {a b : Int} (h : K.pairUp V lv = ((K.pairUp V' (lv.drop (2 * t))).1, nx ++ (K.pairUp V' (lv.drop (2 * t))).2)) (ha : lv[2 * t]? = some a) (hb : lv[2 * t + 1]? = some b) :
    K.pairUp V lv = ((K.pairUp (V' ++ [K.sumIt V' a b]) (lv.drop (2 * (t + 1)))).1, (nx ++ [(V'.length : Int)]) ++ (K.pairUp (V' ++ [K.sumIt V' a b]) (lv.drop (2 * (t + 1)))).2) := by
  obtain ⟨h1, e1⟩ := List.getElem?_eq_some_iff.1 ha
  obtain ⟨h2, e2⟩ := List.getElem?_eq_some_iff.1 hb
  rw [h, List.drop_eq_getElem_cons h1, e1, List.drop_eq_getElem_cons h2, e2]
  simp only [K.pairUp, List.append_assoc, List.cons_append, List.nil_append]
  rw [show 2 * (t + 1) = 2 * t + 1 + 1 by omega]

theorem K.leaf_get (v : List It) (l : List Ln) (i : Nat) (x : Ln) (hx : l[i]? = some x) : K.get (v ++ l.map K.leafIt) ((v.length + i : Nat) : Int) = K.leafIt x := by
  unfold K.get
  rw [Int.toNat_natCast, List.getElem?_append_right (by omega), Nat.add_sub_cancel_left, List.getElem?_map, hx]
  rfl
end Go.Proofs.Ytijkaiilecpbcaa
