/-
Plain laws of labels and tours: the labels of all requests prove that there is no tour exactly if there is none.
-/
import Derived.Test.YtjcdpfpdjcannaaV2
import Derived.Test.YtjcdpfpdjcannaaPG
namespace Go.Proofs.Ytjcdpfpdjcannaa
open Go.RowKit
namespace K
section
variable {nd : Int} {l : List Ro} {s : S} {r : List Q} {v : List Int}

theorem hits_ends {o : Option Nat} {c : St} {t : Tr} (h : Hits nd l s r v o c) (h2 : Ends nd l s r v c t) : Ends nd l s r v (St.first s) t := by
  induction h with
  | first => exact h2
  | step h hk ho ih => exact ih (.step ⟨_, _, hk, ho⟩ h2)
theorem ends_hits {a : St} {t : Tr} (h : Ends nd l s r v a t) : ∀ o, Hits nd l s r v o a → ∃ o' c, Hits nd l s r v o' c ∧ Home nd l s r v c t := by
  induction h with
  | home h => exact fun o ho => ⟨o, _, ho, h⟩
  | step h h2 ih =>
    obtain ⟨i, k, hk, ho⟩ := h
    exact fun o hh => ih _ (.step hh hk ho)

theorem rowLabs_mem {m : Nat} {row : List Int} {k : Nat} : ∀ {i : Nat}, k < i → m.testBit k = true → (⟨m, k, (row[k]?).getD (-1)⟩ : Lb) ∈ rowLabs m row i
  | 0, h, _ => by omega
  | i + 1, h, hb => by
    rw [rowLabs]
    by_cases hki : k = i
    · subst hki
      rw [if_pos hb]
      exact List.mem_append.2 (.inr (List.mem_singleton.2 rfl))
    · exact List.mem_append.2 (.inl (rowLabs_mem (by omega) hb))
theorem tabLabs_mem {n : Nat} {t : List (List Int)} {x : Lb} {m : Nat} : ∀ {M : Nat}, m < M → x ∈ rowLabs m ((t[m]?).getD []) n → x ∈ tabLabs n t M
  | 0, h, _ => by omega
  | M + 1, h, hx => by
    rw [tabLabs]
    by_cases hmM : m = M
    · subst hmM
      exact List.mem_append.2 (.inr hx)
    · exact List.mem_append.2 (.inl (tabLabs_mem (by omega) hx))
theorem labs_mem (h : ok31 nd l s r v = true) {m i : Nat} (hm : m < 2 ^ v.length) (hi : i < v.length) (hb : m.testBit i = true) : (⟨m, i, lab nd l s r v m i⟩ : Lb) ∈ labs nd l s r v := by
  unfold labs
  rw [if_pos h]
  refine tabLabs_mem hm ?_
  rw [table_at hm, Option.getD_some]
  exact rowLabs_mem hi hb
theorem mem_labs (h : ok31 nd l s r v = true) {x : Lb} (hx : x ∈ labs nd l s r v) : ∃ m i : Nat, m < 2 ^ v.length ∧ i < v.length ∧ m.testBit i = true ∧ x = ⟨m, i, lab nd l s r v m i⟩ := by
  unfold labs at hx
  rw [if_pos h] at hx
  obtain ⟨m, hm, hx⟩ := mem_tabLabs hx
  rw [table_at hm, Option.getD_some] at hx
  obtain ⟨i, hi, hb, rfl⟩ := mem_rowLabs hx
  exact ⟨m, i, hm, hi, hb, rfl⟩

theorem opens_ends (h : ok31 nd l s r v = true) (hv : v ≠ []) : (labs nd l s r v).any (opensAt nd l s r v (2 ^ v.length - 1)) = true ↔ ∃ t, Ends nd l s r v (St.first s) t := by
  have hc := case31 h
  have hl : 1 ≤ v.length := by cases v with | nil => exact absurd rfl hv | cons a b => simp
  have hp : 2 ≤ 2 ^ v.length := Nat.le_trans (by decide) (Nat.pow_le_pow_right (n := 2) (by omega) hl)
  rw [List.any_eq_true]
  constructor
  · rintro ⟨x, hx, ho⟩
    obtain ⟨m, i, hm, hi, hb, rfl⟩ := mem_labs h hx
    simp only [opensAt, opens, Bool.and_eq_true, beq_iff_eq, bne_iff_ne, decide_eq_true_eq, Int.toNat_natCast] at ho
    obtain ⟨h1, h2, h3, h4⟩ := ho
    have hmE : m = 2 ^ v.length - 1 := by omega
    have hk := List.getElem?_eq_getElem hi
    rw [hk, Option.getD_some] at h3 h4
    obtain ⟨c, c1, c2, c3⟩ := (lab_least hc m hm i _ hk).2 h2
    obtain ⟨-, k2, hk2, hca⟩ := (hits_inv hc c1).2.2 i rfl
    rw [hk] at hk2; injection hk2 with hk2; subst hk2
    have hcb : c.bits = 2 ^ v.length - 1 := by rw [c2, hmE]
    exact ⟨_, hits_ends c1 (.home ⟨hcb, by rw [hca, hcb]; exact h3, by rw [hca, hcb, c3]; exact h4, rfl⟩)⟩
  · rintro ⟨t, ht⟩
    obtain ⟨o, c, c1, hH⟩ := ends_hits ht none .first
    obtain ⟨g1, g2, g3, -⟩ := hH
    cases o with
    | none =>
      have := (hits_inv hc c1).2.1 rfl
      subst this
      have g1 : 0 = 2 ^ v.length - 1 := g1
      omega
    | some i =>
      obtain ⟨hb, k, hk, hca⟩ := (hits_inv hc c1).2.2 i rfl
      have hi := (List.getElem?_eq_some_iff.1 hk).1
      have hm := (hits_inv hc c1).1
      obtain ⟨a1, a2⟩ := (lab_least hc c.bits hm i k hk).1 c c1 rfl
      refine ⟨_, labs_mem h hm hi hb, ?_⟩
      simp only [opensAt, opens, Bool.and_eq_true, beq_iff_eq, bne_iff_ne, decide_eq_true_eq, Int.toNat_natCast]
      rw [hk, Option.getD_some, ← g1, ← hca]
      exact ⟨rfl, a1, g2, by omega⟩

/-- The law of RouteProves. -/
theorem proves_law (h : ok31 nd l s r v = true) (hv : v ≠ []) : blocks nd l s r v (labs nd l s r v) = (best nd l s r v).isNone := by
  have hl : (v.length == 0) = false := by cases v with | nil => exact absurd rfl hv | cons a b => simp
  have h1 : blocks nd l s r v (labs nd l s r v) = !((labs nd l s r v).any (opensAt nd l s r v (2 ^ v.length - 1))) := by
    unfold blocks
    rw [h, hl, decide_eq_true rfl]
    simp
  rw [h1]
  have h2 := opens_ends h hv
  have h3 := best_none (case31 h)
  cases hb : best nd l s r v with
  | none =>
    have h4 := h3.1 hb
    cases ha : (labs nd l s r v).any (opensAt nd l s r v (2 ^ v.length - 1)) with
    | false => rfl
    | true =>
      obtain ⟨t, ht⟩ := h2.1 ha
      exact absurd ht (h4 t)
  | some t =>
    cases ha : (labs nd l s r v).any (opensAt nd l s r v (2 ^ v.length - 1)) with
    | true => rfl
    | false =>
      have h4 : best nd l s r v = none := h3.2 (fun t ht => by
        have := h2.2 ⟨t, ht⟩
        rw [ha] at this; cases this)
      rw [hb] at h4; cases h4
end
end K
end Go.Proofs.Ytjcdpfpdjcannaa
