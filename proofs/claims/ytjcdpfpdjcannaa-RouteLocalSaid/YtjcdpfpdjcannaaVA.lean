/-
Plain laws: a leg of a round is a step of the search.
-/
import Derived.Test.YtjcdpfpdjcannaaV9
namespace Go.Proofs.Ytjcdpfpdjcannaa
open Go.RowKit
namespace K
section
variable {nd : Int} {l : List Ro} {s : S} {r : List Q} {v : List Int}

/-- A leg of a round is a step of the search. -/
theorem onward_of_leg {c : St} {i : Nat} {k : Int} (hp : c.stops.Perm (part v c.bits)) (hk : v[i]? = some k) (hb : c.bits.testBit i = false) (hl : (leg nd l s r c.stops k c.a c.t).2 = 0) : ∃ c', onward nd l s r v c i k = some c' := by
  obtain ⟨l1, l2, l3, l4, l5, l6, l7⟩ := leg_ok hl
  obtain ⟨r1, -, r3, r4⟩ := reach_ok l4
  have hw : T.weight s r c.stops = T.weight s r (part v c.bits) := T.weight_perm hp
  have hf : T.fits s r (c.stops ++ [k]) = T.fits s r (part v (c.bits + 2 ^ i)) := T.fits_perm ((hp.append_right [k]).trans (part_add _ _ _ _ hk hb).symm)
  rw [r3] at l5 l6 r4
  rw [hw] at r1 l5 l6 r4
  rw [hf] at l3
  have hbg : (begins s r (req r k) (part v (c.bits + 2 ^ i)) (c.t + way nd l c.a (T.weight s r (part v c.bits)) (req r k).node)).2 = true := by
    unfold begins
    rw [if_neg (by rintro (h | h | h | h) <;> first | omega | (rw [l3] at h; cases h))]
    simp only [Bool.and_eq_true, decide_eq_true_eq]
    exact ⟨l5, by omega⟩
  unfold onward
  rw [if_neg (by rw [hb]; simp), if_neg r1, if_neg (by rw [hbg]; simp)]
  exact ⟨_, rfl⟩
end
end K
end Go.Proofs.Ytjcdpfpdjcannaa
