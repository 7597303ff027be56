/-
Routes: right cases, as the statements ask for them.
-/
import Derived.Test.YtippdjmpkafifaaPH
import Derived.Test.YtippdjmpkafifaaL5
namespace Go.Proofs.Ytippdjmpkafifaa
open Go.RowKit

namespace K
/-- Numbers in order, behind p. -/
def ordGo (n : Int) : Int → List Int → Bool
  | _, [] => true
  | p, k :: rest => decide (0 ≤ k) && (decide (k < n) && (decide (p < k) && ordGo n k rest))
def set31 (l : List Int) (n : Int) : Bool := ordGo n (-1) l && decide (l.length ≤ 6)
theorem ordGo_at {n : Int} {v : List Int} {k : Nat} {i : Int} (h : v[k]? = some i) (p : Int) : ordGo n p (v.drop k) = (decide (0 ≤ i) && (decide (i < n) && (decide (p < i) && ordGo n i (v.drop (k + 1))))) := by
  obtain ⟨hk, e⟩ := List.getElem?_eq_some_iff.1 h
  rw [List.drop_eq_getElem_cons hk, e]
  rfl
theorem ordGo_sorted {n : Int} : ∀ (l : List Int) (p : Int), ordGo n p l = true → (∀ x ∈ l, 0 ≤ x ∧ x < n) ∧ (∀ x ∈ l, p < x) ∧ l.Nodup
  | [], _, _ => ⟨by simp, by simp, List.nodup_nil⟩
  | i :: l, p, h => by
    simp only [ordGo, Bool.and_eq_true, decide_eq_true_eq] at h
    obtain ⟨h1, h2, h3⟩ := ordGo_sorted l i h.2.2.2
    refine ⟨fun x hx => ?_, fun x hx => ?_, List.nodup_cons.2 ⟨fun hi => by have := h2 i hi; omega, h3⟩⟩
    · rcases List.mem_cons.1 hx with rfl | hx
      · exact ⟨h.1, h.2.1⟩
      · exact h1 x hx
    · rcases List.mem_cons.1 hx with rfl | hx
      · exact h.2.2.1
      · have := h2 x hx; have := h.2.2.1; omega
theorem setGo_ord {nd : Int} {r : List Q} : ∀ (l : List Int) (p : Int), setGo nd r p l = (ordGo (r.length : Int) p l && l.all fun i => decide ((req r i).node < nd))
  | [], _ => rfl
  | i :: l, p => by
    simp only [setGo, ordGo, List.all_cons, setGo_ord l i]
    cases decide (0 ≤ i) <;> cases decide (i < (r.length : Int)) <;> cases decide (p < i) <;> cases decide ((req r i).node < nd) <;> simp
/-- A right case is a right round over a set in order. -/
theorem ok31_eq (nd : Int) (l : List Ro) (s : S) (r : List Q) (v : List Int) : ok31 nd l s r v = (set31 v (r.length : Int) && right nd l s r v) := by
  unfold ok31 set31 right
  rw [setGo_ord]
  cases h1 : ordGo (r.length : Int) (-1) v
  · simp
  · obtain ⟨a, -, c⟩ := ordGo_sorted _ _ h1
    have hs : T.isSet (r.length : Int) v = true := T.isSet_iff.2 ⟨a, c⟩
    unfold T.load
    rw [hs]
    cases (netErr nd l == 0) <;> cases (T.check s == 0) <;> cases decide (s.depot < nd) <;> cases (r.any fun q => !T.right q) <;> cases decide (v.length ≤ 6) <;> simp
end K

end Go.Proofs.Ytippdjmpkafifaa
