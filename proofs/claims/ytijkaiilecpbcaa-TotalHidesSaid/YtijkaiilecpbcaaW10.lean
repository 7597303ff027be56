/-
Which items are near; paths, as functions.
-/
import Derived.Test.YtijkaiilecpbcaaW9
namespace Go.Proofs.Ytijkaiilecpbcaa
open Go.RowKit
namespace K
def nextOf (bs : List Bool) (x : It) : Int := if bs.getD (min x.lt x.rt).toNat false then min x.lt x.rt else max x.lt x.rt
def tailOf (l : List It) (bs : List Bool) (leaf : Nat) : Nat → Nat → List Int
  | 0, _ => []
  | f + 1, k => if k = leaf then [] else match l[k]? with
    | some x => nextOf bs x :: tailOf l bs leaf f (nextOf bs x).toNat
    | none => []
def path (l : List It) (root leaf : Int) : List Int :=
  if (sound l && (has l.length root && (has l.length leaf && (near l leaf.toNat).getD root.toNat false))) = true then root :: tailOf l (near l leaf.toNat) leaf.toNat (root.toNat + 1) root.toNat else []
end K

theorem K.near_spec {l : List It} (hso : K.sound l = true) {leaf : Nat} : ∀ (k : Nat) (i : Nat) (x : It), l[i]? = some x →
    (K.nearUp l leaf k).getD i false = (if i = leaf then true else if leaf < i ∧ i < leaf + 1 + k then K.nearOf (K.nearUp l leaf k) x else false) := by
  intro k
  induction k with
  | zero =>
    intro i x hx
    have hi := (List.getElem?_eq_some_iff.1 hx).1
    simp only [K.nearUp, List.getD_eq_getElem?_getD, List.getElem?_set, List.length_replicate]
    by_cases h : i = leaf
    · subst h; simp [hi]
    · rw [if_neg (Ne.symm h), if_neg h, if_neg (by omega)]
      simp [hi]
  | succ k ih =>
    intro i x hx
    have hi := (List.getElem?_eq_some_iff.1 hx).1
    by_cases hlt : leaf + 1 + k < l.length
    · have hy : l[leaf + 1 + k]? = some (l[leaf + 1 + k]'hlt) := List.getElem?_eq_getElem hlt
      rw [K.near_next hy]
      have hlen := K.near_len l leaf k
      obtain ⟨vv, hvv⟩ : ∃ vv, vv = K.nearOf (K.nearUp l leaf k) (l[leaf + 1 + k]'hlt) := ⟨_, rfl⟩
      rw [← hvv]
      -- the parts of an item stand before it
      have old : ∀ j : Nat, j < leaf + 1 + k → ((K.nearUp l leaf k).set (leaf + 1 + k) vv).getD j false = (K.nearUp l leaf k).getD j false := by
        intro j hj
        simp only [List.getD_eq_getElem?_getD]
        rw [List.getElem?_set_ne (by omega)]
      have same : ∀ y, l[i]? = some y → i ≤ leaf + 1 + k → K.nearOf ((K.nearUp l leaf k).set (leaf + 1 + k) vv) y = K.nearOf (K.nearUp l leaf k) y := by
        intro y hy' hik
        unfold K.nearOf
        cases hlf : K.leafy y
        · obtain ⟨⟨a0, a1⟩, b0, b1⟩ := K.sound_parts hso hy' hlf
          rw [old _ (by omega), old _ (by omega)]
        · rfl
      by_cases e : i = leaf + 1 + k
      · subst e
        rw [if_neg (by omega), if_pos (by omega)]
        rw [same x hx (Nat.le_refl _)]
        simp only [List.getD_eq_getElem?_getD]
        rw [List.getElem?_set_self (by omega)]
        rw [hy] at hx; injection hx with hx; rw [hvv, hx]; rfl
      · by_cases e2 : i < leaf + 1 + k
        · rw [old i e2, ih i x hx, same x hx (by omega)]
          by_cases e3 : i = leaf
          · simp [e3]
          · rw [if_neg e3, if_neg e3]
            by_cases e4 : leaf < i
            · rw [if_pos ⟨e4, e2⟩, if_pos ⟨e4, by omega⟩]
            · rw [if_neg (by omega), if_neg (by omega)]
        · simp only [List.getD_eq_getElem?_getD]
          rw [List.getElem?_set_ne (by omega)]
          have := ih i x hx
          simp only [List.getD_eq_getElem?_getD] at this
          rw [this, if_neg (by omega), if_neg (by omega), if_neg (by omega), if_neg (by omega)]
    · have hy : l[leaf + 1 + k]? = none := List.getElem?_eq_none (by omega)
      have he : K.nearUp l leaf (k + 1) = K.nearUp l leaf k := by simp only [K.nearUp, K.nearStep, hy]
      rw [he, ih i x hx]
      by_cases e3 : i = leaf
      · simp [e3]
      · rw [if_neg e3, if_neg e3]
        by_cases e4 : leaf < i
        · rw [if_pos ⟨e4, by omega⟩, if_pos ⟨e4, by omega⟩]
        · rw [if_neg (by omega), if_neg (by omega)]

theorem K.near_at {l : List It} (hso : K.sound l = true) {leaf i : Nat} {x : It} (hx : l[i]? = some x) : (K.near l leaf).getD i false = (if i = leaf then true else if leaf < i then K.nearOf (K.near l leaf) x else false) := by
  have hi := (List.getElem?_eq_some_iff.1 hx).1
  have h := K.near_spec hso (leaf := leaf) (l.length - (leaf + 1)) i x hx
  unfold K.near
  rw [h]
  by_cases e3 : i = leaf
  · simp [e3]
  · rw [if_neg e3, if_neg e3]
    by_cases e4 : leaf < i
    · rw [if_pos ⟨e4, by omega⟩, if_pos e4]
    · rw [if_neg (by omega), if_neg e4]

/-- At an item that is near and not the leaf itself: it has parts before it, and the next one is near. -/
theorem K.near_step {l : List It} (hso : K.sound l = true) {leaf i : Nat} {x : It} (hx : l[i]? = some x) (hn : (K.near l leaf).getD i false = true) (hne : i ≠ leaf) :
    K.leafy x = false ∧ ((0 ≤ x.lt ∧ x.lt < i) ∧ (0 ≤ x.rt ∧ x.rt < i)) ∧ (K.near l leaf).getD (K.nextOf (K.near l leaf) x).toNat false = true := by
  rw [K.near_at hso hx, if_neg hne] at hn
  split at hn
  · have hlf : K.leafy x = false := by
      cases h : K.leafy x
      · rfl
      · simp [K.nearOf, h] at hn
    refine ⟨hlf, K.sound_parts hso hx hlf, ?_⟩
    simp only [K.nearOf, hlf, Bool.not_false, Bool.true_and, Bool.or_eq_true] at hn
    unfold K.nextOf
    split
    · assumption
    · rename_i h
      rcases Int.le_total x.lt x.rt with e | e
      · rw [Int.min_eq_left e] at h
        rw [Int.max_eq_right e]
        rcases hn with hn | hn
        · exact absurd hn h
        · exact hn
      · rw [Int.min_eq_right e] at h
        rw [Int.max_eq_left e]
        rcases hn with hn | hn
        · exact hn
        · exact absurd hn h
  · simp at hn

theorem K.tail_next {l : List It} {bs : List Bool} {leaf f k : Nat} {x : It} (hx : l[k]? = some x) (hne : k ≠ leaf) : K.tailOf l bs leaf (f + 1) k = K.nextOf bs x :: K.tailOf l bs leaf f (K.nextOf bs x).toNat := by
  simp only [K.tailOf, if_neg hne, hx]
theorem K.tail_end {l : List It} {bs : List Bool} {leaf f : Nat} : K.tailOf l bs leaf f leaf = [] := by
  cases f <;> simp [K.tailOf]
end Go.Proofs.Ytijkaiilecpbcaa
