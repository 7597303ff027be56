/-
Plain laws: a state that the search can reach is a round driven so far.
-/
import Derived.Test.YtjcdpfpdjcannaaV7
namespace Go.Proofs.Ytjcdpfpdjcannaa
open Go.RowKit
namespace K
section
variable {nd : Int} {l : List Ro} {s : S} {r : List Q} {v : List Int}

theorem legs_snoc {k : Int} : ∀ (o served : List Int) (a t : Int), (legs nd l s r served a t o).e = 0 → (leg nd l s r (served ++ o) k (legs nd l s r served a t o).a (legs nd l s r served a t o).t).2 = 0 →
    legs nd l s r served a t (o ++ [k]) = ⟨(legs nd l s r served a t o).times ++ [(leg nd l s r (served ++ o) k (legs nd l s r served a t o).a (legs nd l s r served a t o).t).1], (req r k).node, (leg nd l s r (served ++ o) k (legs nd l s r served a t o).a (legs nd l s r served a t o).t).1 + (req r k).service, 0⟩
  | [], served, a, t, _, h2 => by
    simp only [List.append_nil, legs] at h2
    simp [legs, h2]
  | i :: o, served, a, t, h1, h2 => by
    by_cases h : (leg nd l s r served i a t).2 = 0
    · have e1 : legs nd l s r served a t (i :: o) = ⟨(leg nd l s r served i a t).1 :: (legs nd l s r (served ++ [i]) (req r i).node ((leg nd l s r served i a t).1 + (req r i).service) o).times, (legs nd l s r (served ++ [i]) (req r i).node ((leg nd l s r served i a t).1 + (req r i).service) o).a, (legs nd l s r (served ++ [i]) (req r i).node ((leg nd l s r served i a t).1 + (req r i).service) o).t, (legs nd l s r (served ++ [i]) (req r i).node ((leg nd l s r served i a t).1 + (req r i).service) o).e⟩ := by
        conv => lhs; unfold legs
        rw [if_neg (by rw [h]; simp)]
      rw [e1] at h1 h2 ⊢
      dsimp only at h1 h2 ⊢
      have hsv : served ++ i :: o = (served ++ [i]) ++ o := by simp
      rw [hsv] at h2 ⊢
      have ih := legs_snoc (k := k) o (served ++ [i]) (req r i).node ((leg nd l s r served i a t).1 + (req r i).service) h1 h2
      rw [List.cons_append]
      conv => lhs; unfold legs
      rw [if_neg (by rw [h]; simp), ih]
      rfl
    · have e1 : (legs nd l s r served a t (i :: o)).e = (leg nd l s r served i a t).2 := by
        conv => lhs; unfold legs
        rw [if_pos h]
      rw [e1] at h1
      exact absurd h1 h

/-- A state that can be reached is a round driven so far. -/
theorem hits_legs {o : Option Nat} {c : St} (h : Hits nd l s r v o c) : legs nd l s r [] s.depot s.start c.stops = ⟨c.times, c.a, c.t, 0⟩ := by
  induction h with
  | first => rfl
  | step h hk ho ih =>
    obtain ⟨g1, g2, g3, g4, g5⟩ := leg_of_onward (hits_stops h) hk ho
    rw [g4, legs_snoc _ _ _ _ (by rw [ih]) (by rw [ih]; exact g1), ih, g2, g3, g5]
    rfl
end
end K
end Go.Proofs.Ytjcdpfpdjcannaa
