/-
Plain laws: a tour of a set gives one of each part, that ends no later.
-/
import Derived.Test.YtjcdpfpdjcannaaVC
namespace Go.Proofs.Ytjcdpfpdjcannaa
open Go.RowKit
namespace K
section
variable {nd : Int} {l : List Ro} {s : S} {r : List Q} {v : List Int}

theorem run_sub {o' o : List Int} (h : o'.Sublist o) : ∀ pre : List Int, (run nd l s r (pre ++ o)).e = 0 → (run nd l s r (pre ++ o')).e = 0 ∧ (run nd l s r (pre ++ o')).tour.end_ ≤ (run nd l s r (pre ++ o)).tour.end_ := by
  induction h with
  | slnil => exact fun pre h => ⟨h, Int.le_refl _⟩
  | cons a _ ih =>
    intro pre h
    obtain ⟨⟨h1, h2⟩, -⟩ := skips h
    obtain ⟨h3, h4⟩ := ih pre h1
    exact ⟨h3, Int.le_trans h4 h2⟩
  | cons_cons a _ ih =>
    intro pre h
    have h2 := ih (pre ++ [a])
    simp only [List.append_assoc, List.singleton_append] at h2
    exact h2 h

/-- The law of RouteLess. -/
theorem less_law (hok : ok31 nd l s r v = true) (m : Nat) {t : Tr} (hb : best nd l s r v = some t) : ∃ u, best nd l s r (part v m) = some u ∧ u.end_ ≤ t.end_ := by
  have hc := case31 hok
  have hok2 := ok31_part m hok
  have hE : Ends nd l s r v (St.first s) t := by
    rcases (best_sees hc).sound t hb with h | h
    · cases h
    · exact h
  obtain ⟨q, c, hh, hH⟩ := ends_hits hE none .first
  obtain ⟨hp, hr⟩ := home_run hok hh hH
  have hnd : v.Nodup := by
    have h := hok
    rw [ok31_eq] at h
    simp only [Bool.and_eq_true] at h
    exact (T.isSet_iff.1 (T.load_parts (right_parts h.2).2.1).2.1).2
  have hsub := part_sub v m
  have hpf : (t.stops.filter fun x => decide (x ∈ part v m)).Perm (part v m) := by
    have h1 := hp.filter fun x => decide (x ∈ part v m)
    refine h1.trans ?_
    refine (List.perm_ext_iff_of_nodup (hnd.filter _) (hnd.sublist hsub)).2 fun x => ?_
    rw [List.mem_filter]
    constructor
    · rintro ⟨-, h⟩; exact of_decide_eq_true h
    · intro h; exact ⟨hsub.subset h, decide_eq_true h⟩
  obtain ⟨g1, g2⟩ := run_sub (nd := nd) (l := l) (s := s) (r := r) (List.filter_sublist (p := fun x => decide (x ∈ part v m)) (l := t.stops)) [] (by rw [List.nil_append, hr])
  rw [List.nil_append, List.nil_append, hr] at g2
  rw [List.nil_append] at g1
  obtain ⟨q2, c2, hh2, hH2, -⟩ := run_home hok2 hpf g1
  obtain ⟨u, hu, hle⟩ := (best_sees (case31 hok2)).least _ (hits_ends hh2 (.home hH2))
  exact ⟨u, hu, Int.le_trans hle g2⟩
end
end K
end Go.Proofs.Ytjcdpfpdjcannaa
