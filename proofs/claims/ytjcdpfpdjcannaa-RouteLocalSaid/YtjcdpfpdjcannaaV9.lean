/-
Plain laws: a tour of the search is a round over an order of the set.
-/
import Derived.Test.YtjcdpfpdjcannaaV8
namespace Go.Proofs.Ytjcdpfpdjcannaa
open Go.RowKit
namespace K
theorem part_full : ∀ v : List Int, part v (2 ^ v.length - 1) = v
  | [] => rfl
  | x :: r => by
    have h1 : (2 ^ (r.length + 1) - 1).testBit 0 = true := by rw [Nat.testBit_two_pow_sub_one]; simp
    have hpw : 2 ^ (r.length + 1) = 2 * 2 ^ r.length := by rw [Nat.pow_succ]; omega
    have h2 : (2 ^ (r.length + 1) - 1) / 2 = 2 ^ r.length - 1 := by have := Nat.two_pow_pos r.length; omega
    simp only [part, List.length_cons, h1, h2, if_true, part_full r]
theorem right_perm {nd : Int} {l : List Ro} {s : S} {r : List Q} {a b : List Int} (h : a.Perm b) (hr : right nd l s r a = true) : right nd l s r b = true := by
  unfold right at hr ⊢
  rw [← T.load_perm h]
  simp only [Bool.and_eq_true, List.all_eq_true] at hr ⊢
  exact ⟨hr.1, hr.2.1, hr.2.2.1, fun x hx => hr.2.2.2 x (h.mem_iff.2 hx)⟩
section
variable {nd : Int} {l : List Ro} {s : S} {r : List Q} {v : List Int}

/-- A tour of the search is a round over an order of the set. -/
theorem home_run (hok : ok31 nd l s r v = true) {o : Option Nat} {c : St} {t : Tr} (h : Hits nd l s r v o c) (hH : Home nd l s r v c t) :
    t.stops.Perm v ∧ run nd l s r t.stops = ⟨t, 0, t.stops.length⟩ := by
  obtain ⟨h1, h2, h3, rfl⟩ := hH
  have hp : c.stops.Perm v := by
    have := hits_stops h
    rw [h1, part_full] at this
    exact this
  refine ⟨hp, ?_⟩
  have hr : right nd l s r c.stops = true := by
    rw [ok31_eq] at hok
    simp only [Bool.and_eq_true] at hok
    exact right_perm hp.symm hok.2
  have hw : T.weight s r c.stops = T.weight s r (part v c.bits) := T.weight_perm (hits_stops h)
  have hl := hits_legs h
  have hre : reach nd l s r c.stops c.a c.t s.depot = (c.t + way nd l c.a (T.weight s r (part v c.bits)) s.depot, 0) := by
    unfold reach
    rw [hw, if_neg h2, if_neg (by omega)]
  show run nd l s r c.stops = _
  unfold run
  rw [hr, hl]
  dsimp only
  rw [hre, if_neg (by simp), if_neg (by simp), if_neg (by simp)]
end
end K
end Go.Proofs.Ytjcdpfpdjcannaa
