/-
The walks of slices.Clone, of items and of numbers.
-/
import Derived.Test.YtijkaiilecpbcaaM3
namespace Go.Proofs.Ytijkaiilecpbcaa
open Go.RowKit

set_option maxHeartbeats 2000000 in
theorem clone_items (A : Option Addr) (n c : Nat) (l : List It) (w : World) (hl : Items w A n l) (hn : n ≤ 1000000) :
    Calls Try.prog 22 #[.slice A n c] w fun e w' => (∃ v, e = .returned v ∧ w'.ownsRow w.heap.size 37 4 v n (itemCells l)) ∧ Below w.heap.size w w' := by
  obtain ⟨i0, hi, hz0, hz1, hz2⟩ := info_parts Try.info37
  have heq := eql22
  cases A with
  | none =>
    go_enter Try.func22, Try.ntmps22
    go_wp2_with fail
    go_ret
    have h0 : n = 0 := by
      cases n with
      | zero => rfl
      | succ n => obtain ⟨ad, e, _⟩ := hl.2.2 (by omega); cases e
    subst h0
    have hl0 : l = [] := List.length_eq_zero_iff.1 hl.1.symm
    subst hl0
    exact ⟨⟨_, rfl, World.ownsRow_nil _ _ _ _⟩, Below.refl _ _⟩
  | some ad =>
    have hlit : (w.alloc (.cells #[] 37)).ownsRow w.heap.size 37 4 (.slice (some ⟨w.heap.size, 0, none⟩) 0 0) 0 [] := World.ownsRow_lit w #[] 0 (Nat.le_refl _) (by simp only [maxLen]; omega) (by simp)
    have hb0 := (Below.refl w.heap.size w).alloc (Nat.le_refl _) (.cells #[] 37)
    go_enter Try.func22, Try.ntmps22
    go_wp2_with (at_builtin; refine wp_append_rd rfl (.tmp 5) (.tmp 6) 22 rfl w.heap.size 37 i0 (.agg #[.int .i64 0, .int .i64 0, .int .i64 0, .int .i64 0]) 4 32 Try.underlying22 hi hz0 hz1 hz2 rfl (by decide) _ 0 _ rfl hlit (some ad) n c (itemCells l) rfl (hl.below hb0).2 (itemCells_one l) (by simp only [maxLen]; omega) (by omega) (by first | (simp; done) | (simp; omega)) ?_; intro v' w4 hown4 hgrow4 hat4)
    rw [Nat.zero_add] at hown4
    have hb4 : Below w.heap.size w w4 := below_own hb0 (Nat.le_refl _) hgrow4 (fun g h => (hlit.lt g h).1)
    clear hgrow4 hat4
    go_wp2_with fail
    go_ret
    exact ⟨⟨_, rfl, hown4⟩, hb4⟩

theorem intCells_one' (l : List Int) : ∀ u ∈ intCells l, u.oneCell' = true := by
  intro u hu
  obtain ⟨x, _, rfl⟩ := List.mem_map.1 hu
  rfl

set_option maxHeartbeats 2000000 in
theorem clone_ints (A : Option Addr) (n c : Nat) (l : List Int) (w : World) (hl : Ints w A n l) (hn : n ≤ 1000000) :
    Calls Try.prog 24 #[.slice A n c] w fun e w' => (∃ A' c', e = .returned (.slice A' n c') ∧ Ints w' A' n l) ∧ Below w.heap.size w w' := by
  obtain ⟨i0, hi, hz0, hz1, hz2⟩ := info_parts Try.info3
  have heq := eql28
  cases A with
  | none =>
    go_enter Try.func24, Try.ntmps24
    go_wp2_with fail
    go_ret
    have h0 : n = 0 := by
      cases n with
      | zero => rfl
      | succ n => obtain ⟨ad, e, _⟩ := hl.2.2 (by omega); cases e
    subst h0
    have hl0 : l = [] := List.length_eq_zero_iff.1 hl.1.symm
    subst hl0
    exact ⟨⟨_, _, rfl, ints_nil _⟩, Below.refl _ _⟩
  | some ad =>
    have hlit : (w.alloc (.cells #[] 3)).ownsRow w.heap.size 3 1 (.slice (some ⟨w.heap.size, 0, none⟩) 0 0) 0 [] := World.ownsRow_lit w #[] 0 (Nat.le_refl _) (by simp only [maxLen]; omega) (by simp)
    have hb0 := (Below.refl w.heap.size w).alloc (Nat.le_refl _) (.cells #[] 3)
    go_enter Try.func24, Try.ntmps24
    go_wp2_with (at_builtin; refine wp_append_rd rfl (.tmp 5) (.tmp 6) 28 rfl w.heap.size 3 i0 (.int .i64 0) 1 8 Try.underlying28 hi hz0 hz1 hz2 rfl (by decide) _ 0 _ rfl hlit (some ad) n c (intCells l) rfl (hl.below hb0).2 (intCells_one' l) (by simp only [maxLen]; omega) (by omega) (by first | (simp; done) | (simp; omega)) ?_; intro v' w4 hown4 hgrow4 hat4)
    rw [Nat.zero_add] at hown4
    have hb4 : Below w.heap.size w w4 := below_own hb0 (Nat.le_refl _) hgrow4 (fun g h => (hlit.lt g h).1)
    clear hgrow4 hat4
    obtain ⟨A', c', rfl, hI⟩ := own_ints hown4 hl.1
    go_wp2_with fail
    go_ret
    exact ⟨⟨_, _, rfl, hI⟩, hb4⟩
end Go.Proofs.Ytijkaiilecpbcaa
