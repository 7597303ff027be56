/-
Plain laws: a part of a right set is right.
-/
import Derived.Test.YtjcdpfpdjcannaaV3
namespace Go.Proofs.Ytjcdpfpdjcannaa
open Go.RowKit
namespace K
/-- A set in order: its numbers are in their bounds, behind p, and each one is less than those behind it. -/
theorem setGo_iff {nd : Int} {r : List Q} : ∀ (v : List Int) (p : Int), setGo nd r p v = true ↔ (∀ k ∈ v, 0 ≤ k ∧ k < (r.length : Int) ∧ p < k ∧ (req r k).node < nd) ∧ v.Pairwise (· < ·)
  | [], p => by simp [setGo]
  | i :: v, p => by
    simp only [setGo, Bool.and_eq_true, decide_eq_true_eq, setGo_iff v i, List.pairwise_cons]
    constructor
    · rintro ⟨h1, h2, h3, h4, h5, h6⟩
      refine ⟨fun k hk => ?_, fun k hk => (h5 k hk).2.2.1, h6⟩
      rcases List.mem_cons.1 hk with rfl | hk
      · exact ⟨h1, h2, h3, h4⟩
      · obtain ⟨a, b, c, d⟩ := h5 k hk
        exact ⟨a, b, by omega, d⟩
    · rintro ⟨h1, h2, h3⟩
      obtain ⟨a, b, c, d⟩ := h1 i (List.mem_cons_self ..)
      refine ⟨a, b, c, d, fun k hk => ?_, h3⟩
      obtain ⟨e1, e2, e3, e4⟩ := h1 k (List.mem_cons_of_mem _ hk)
      exact ⟨e1, e2, h2 k hk, e4⟩
theorem ok31_sub {nd : Int} {l : List Ro} {s : S} {r : List Q} {v v' : List Int} (h : ok31 nd l s r v = true) (hs : v'.Sublist v) : ok31 nd l s r v' = true := by
  unfold ok31 at h ⊢
  simp only [Bool.and_eq_true, beq_iff_eq, decide_eq_true_eq] at h ⊢
  obtain ⟨h1, h2, h3, h4, h5, h6⟩ := h
  obtain ⟨g1, g2⟩ := (setGo_iff v (-1)).1 h6
  exact ⟨h1, h2, h3, h4, Nat.le_trans hs.length_le h5, (setGo_iff v' (-1)).2 ⟨fun k hk => g1 k (hs.subset hk), g2.sublist hs⟩⟩
/-- A part of a right set is right. -/
theorem ok31_part {nd : Int} {l : List Ro} {s : S} {r : List Q} {v : List Int} (m : Nat) (h : ok31 nd l s r v = true) : ok31 nd l s r (part v m) = true := ok31_sub h (part_sub v m)
end K
end Go.Proofs.Ytjcdpfpdjcannaa
