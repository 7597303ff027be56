/-
Plain laws: a step of the search is a leg of a round.
-/
import Derived.Test.YtjcdpfpdjcannaaV6
namespace Go.Proofs.Ytjcdpfpdjcannaa
open Go.RowKit
namespace K
section
variable {nd : Int} {l : List Ro} {s : S} {r : List Q} {v : List Int}

/-- A step of the search is a leg of a round. -/
theorem leg_of_onward {c c' : St} {i : Nat} {k : Int} (hp : c.stops.Perm (part v c.bits)) (hk : v[i]? = some k) (ho : onward nd l s r v c i k = some c') :
    (leg nd l s r c.stops k c.a c.t).2 = 0 ∧ c'.a = (req r k).node ∧ c'.t = (leg nd l s r c.stops k c.a c.t).1 + (req r k).service ∧ c'.stops = c.stops ++ [k] ∧ c'.times = c.times ++ [(leg nd l s r c.stops k c.a c.t).1] := by
  obtain ⟨h1, h2, h3, e⟩ := onward_some ho
  have hw : T.weight s r c.stops = T.weight s r (part v c.bits) := T.weight_perm hp
  have hf : T.fits s r (c.stops ++ [k]) = T.fits s r (part v (c.bits + 2 ^ i)) := T.fits_perm ((hp.append_right [k]).trans (part_add _ _ _ _ hk h1).symm)
  obtain ⟨hc, hft, he, -, -, hend, -⟩ := begins_ok h3
  have g1 : ¬ s.day < (req r k).frm := fun h => hc ▸ (.inl h)
  have g2 : ¬ (req r k).by_ < s.day := fun h => hc ▸ (.inr (.inl h))
  have g3 : ¬ s.end_ < c.t + way nd l c.a (T.weight s r (part v c.bits)) (req r k).node := fun h => hc ▸ (.inr (.inr (.inl h)))
  have g4 : ¬ T.fits s r (part v (c.bits + 2 ^ i)) = false := fun h => hc ▸ (.inr (.inr (.inr h)))
  have hr : reach nd l s r c.stops c.a c.t (req r k).node = (c.t + way nd l c.a (T.weight s r (part v c.bits)) (req r k).node, 0) := by
    unfold reach
    rw [hw, if_neg h2, if_neg g3]
  have hl : leg nd l s r c.stops k c.a c.t = ((begins s r (req r k) (part v (c.bits + 2 ^ i)) (c.t + way nd l c.a (T.weight s r (part v c.bits)) (req r k).node)).1, 0) := by
    unfold leg
    rw [if_neg (fun h => h.elim g1 g2), if_neg (by rw [hf]; exact g4), hr]
    dsimp only
    rw [if_neg (by simp), if_neg (by rw [hft]; simp), if_neg (by rw [he] at hend; omega), he]
  rw [hl, e]
  exact ⟨rfl, rfl, rfl, rfl, rfl⟩
end
end K
end Go.Proofs.Ytjcdpfpdjcannaa
