/-
Plain laws: a round that can be driven so far is a state that the search can reach.
-/
import Derived.Test.YtjcdpfpdjcannaaVA
namespace Go.Proofs.Ytjcdpfpdjcannaa
open Go.RowKit
namespace K
section
variable {nd : Int} {l : List Ro} {s : S} {r : List Q} {v : List Int}

theorem legs_snoc_inv {k : Int} : ∀ (o served : List Int) (a t : Int), (legs nd l s r served a t (o ++ [k])).e = 0 →
    (legs nd l s r served a t o).e = 0 ∧ (leg nd l s r (served ++ o) k (legs nd l s r served a t o).a (legs nd l s r served a t o).t).2 = 0
  | [], served, a, t, h => by
    by_cases h2 : (leg nd l s r served k a t).2 = 0
    · simp only [List.append_nil, legs]
      exact ⟨trivial, h2⟩
    · simp [legs, h2] at h
  | i :: o, served, a, t, h => by
    rw [List.cons_append] at h
    by_cases h2 : (leg nd l s r served i a t).2 = 0
    · have e1 : ∀ o', legs nd l s r served a t (i :: o') = ⟨(leg nd l s r served i a t).1 :: (legs nd l s r (served ++ [i]) (req r i).node ((leg nd l s r served i a t).1 + (req r i).service) o').times, (legs nd l s r (served ++ [i]) (req r i).node ((leg nd l s r served i a t).1 + (req r i).service) o').a, (legs nd l s r (served ++ [i]) (req r i).node ((leg nd l s r served i a t).1 + (req r i).service) o').t, (legs nd l s r (served ++ [i]) (req r i).node ((leg nd l s r served i a t).1 + (req r i).service) o').e⟩ := fun o' => by
        conv => lhs; unfold legs
        rw [if_neg (by rw [h2]; simp)]
      rw [e1] at h ⊢
      dsimp only at h ⊢
      have ih := legs_snoc_inv (k := k) o (served ++ [i]) (req r i).node ((leg nd l s r served i a t).1 + (req r i).service) h
      rw [show served ++ i :: o = (served ++ [i]) ++ o by simp]
      exact ih
    · have e1 : (legs nd l s r served a t (i :: (o ++ [k]))).e = (leg nd l s r served i a t).2 := by
        conv => lhs; unfold legs
        rw [if_pos h2]
      rw [e1] at h
      exact absurd h h2

theorem part_mem : ∀ (v : List Int) (m i : Nat) (k : Int), v[i]? = some k → m.testBit i = true → k ∈ part v m
  | [], _, _, _, h, _ => by simp at h
  | x :: r, m, 0, k, h, hb => by
    simp at h
    subst h
    simp only [part, hb, if_true]
    exact List.mem_cons_self ..
  | x :: r, m, i + 1, k, h, hb => by
    have hk : r[i]? = some k := by simpa using h
    have hb2 : (m / 2).testBit i = true := by rw [← Nat.testBit_succ]; exact hb
    have ih := part_mem r (m / 2) i k hk hb2
    simp only [part]
    split
    · exact List.mem_cons_of_mem _ ih
    · exact ih

/-- A round that can be driven so far is a state that the search can reach. -/
theorem legs_hits : ∀ (n : Nat) (o : List Int), o.length = n → o.Nodup → (∀ x ∈ o, x ∈ v) → (legs nd l s r [] s.depot s.start o).e = 0 → ∃ q c, Hits nd l s r v q c ∧ c.stops = o := by
  intro n
  induction n with
  | zero =>
    intro o hn _ _ _
    have : o = [] := List.length_eq_zero_iff.1 hn
    subst this
    exact ⟨none, _, .first, rfl⟩
  | succ n ih =>
    intro o hn hd hm he
    obtain ⟨o', k, rfl⟩ : ∃ o' k, o = o' ++ [k] := by
      rcases List.eq_nil_or_concat o with rfl | ⟨o', k, h⟩
      · simp at hn
      · exact ⟨o', k, by simpa using h⟩
    obtain ⟨h1, h2⟩ := legs_snoc_inv o' [] _ _ he
    rw [List.nil_append] at h2
    rw [List.nodup_append] at hd
    obtain ⟨d1, -, d2⟩ := hd
    obtain ⟨q, c, hc, hs⟩ := ih o' (by simpa using hn) d1 (fun x hx => hm x (List.mem_append.2 (.inl hx))) h1
    obtain ⟨i, hi⟩ := List.mem_iff_getElem?.1 (hm k (List.mem_append.2 (.inr (List.mem_singleton.2 rfl))))
    have hp := hits_stops hc
    have hlg := hits_legs hc
    rw [hs] at hlg
    rw [hlg] at h2
    have hb : c.bits.testBit i = false := by
      cases hb : c.bits.testBit i with
      | false => rfl
      | true =>
        have h3 := hp.mem_iff.2 (part_mem v c.bits i k hi hb)
        rw [hs] at h3
        exact absurd rfl (d2 k h3 k (List.mem_singleton.2 rfl))
    obtain ⟨c', ho⟩ := onward_of_leg hp hi hb (by rw [hs]; exact h2)
    exact ⟨_, c', .step hc hi ho, by rw [(leg_of_onward hp hi ho).2.2.2.1, hs]⟩
end
end K
end Go.Proofs.Ytjcdpfpdjcannaa
