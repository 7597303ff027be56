/-
hours.Last, in every case.
-/
import Derived.Test.YtdbllcphopecjaaLast
namespace Go.Proofs.Ytdbllcphopecjaa
open Go.RowKit Go.Shelf

theorem last_boxes {w w1 : World} {y s : Int} (hb1 : Below ((((w.alloc (.cells #[.int .i64 y] 3)).alloc (.cells #[.int .i64 s] 3)).alloc (.cells #[.int .i64 0] 3)).alloc (.cells #[.bool false] 4)).heap.size
      ((((w.alloc (.cells #[.int .i64 y] 3)).alloc (.cells #[.int .i64 s] 3)).alloc (.cells #[.int .i64 0] 3)).alloc (.cells #[.bool false] 4)) w1) :
    Boxed w1 w.heap.size 3 (.int .i64 y) ∧ Boxed w1 (w.heap.size + 1) 3 (.int .i64 s) ∧ Boxed w1 (w.heap.size + 1 + 1) 3 (.int .i64 0) ∧ Boxed w1 (w.heap.size + 1 + 1 + 1) 4 (.bool false) ∧ Below w.heap.size w w1 :=
  ⟨blk_below hb1 (((Boxed.new w 3 _).alloc _).alloc _ |>.alloc _), blk_below hb1 (((boxed_at _ 3 _ _ (by simp)).alloc _).alloc _), blk_below hb1 ((boxed_at _ 3 _ _ (by simp)).alloc _), blk_below hb1 (boxed_at _ 4 _ _ (by simp)), bel (below_four w _ _ _ _) hb1⟩

theorem last_end {w w1 : World} (g6 : Boxed w1 (w.heap.size + 1 + 1) 3 (.int .i64 0)) (g7 : Boxed w1 (w.heap.size + 1 + 1 + 1) 4 (.bool false)) (hb : Below w.heap.size w w1) :
    let w2 := (w1.setCell ⟨w.heap.size + 1 + 1, 0, none⟩ (.int .i64 0)).setCell ⟨w.heap.size + 1 + 1 + 1, 0, none⟩ (.bool false)
    w2.cell? ⟨w.heap.size + 1 + 1, 0, none⟩ = some (.int .i64 0) ∧ w2.cell? ⟨w.heap.size + 1 + 1 + 1, 0, none⟩ = some (.bool false) ∧ Below w.heap.size w w2 := by
  have e6 := ((g6.set (.int .i64 0)).other (show w.heap.size + 1 + 1 ≠ w.heap.size + 1 + 1 + 1 by omega) (.bool false))
  have e7 := ((g7.other (show w.heap.size + 1 + 1 + 1 ≠ w.heap.size + 1 + 1 by omega) (.int .i64 0)).set (.bool false))
  exact ⟨e6.cell, e7.cell, (hb.setCell (p := ⟨w.heap.size + 1 + 1, 0, none⟩) (by simp; omega) (.int .i64 0)).setCell (p := ⟨w.heap.size + 1 + 1 + 1, 0, none⟩) (by simp; omega) (.bool false)⟩

set_option maxHeartbeats 1000000 in
theorem last_no (A : Option Addr) (n c : Nat) (l : List (Int × Int)) (y s : Int) (w : World) (hl : Wins w A n l) (hn : n ≤ 1000000000) (h : ¬ (H.right l = true ∧ H.minute y = true ∧ H.minute s = true)) :
    Calls Try.prog 31 #[.slice A n c, .int .i64 y, .int .i64 s] w fun e w' => e = .returned (.tuple #[.int .i64 0, .bool false]) ∧ Below w.heap.size w w' := by
  have hcase : (H.right l = false) ∨ (H.right l = true ∧ H.minute y = false) ∨ (H.right l = true ∧ H.minute y = true ∧ H.minute s = false) := by
    cases h1 : H.right l <;> cases h2 : H.minute y <;> cases h3 : H.minute s <;> simp_all
  clear h
  rcases hcase with k1 | ⟨k1, k2⟩ | ⟨k1, k2, k3⟩
  all_goals
    go_enter Try.func31, Try.ntmps31
    go_wp2_with fail
    refine (hright_any A n c l _ (hl.below (below_four w _ _ _ _)) hn).mono ?_
    rintro e w1 ⟨rfl, hb1⟩
    obtain ⟨b4, b5, b6, b7, hb⟩ := last_boxes hb1
    have x4 := b4.cell; have x5 := b5.cell; have x6 := b6.cell; have x7 := b7.cell
    have f6 := b6.frozen; have f7 := b7.frozen
    have HE := Lib.hid (last_end b6 b7 hb)
    clear b4 b5 b6 b7 hb1
    go_wp2_with (go_at_call 46; refine (minute_any _ _).mono ?_; rintro e w2 ⟨rfl, rfl⟩)
    refine bodyPost_ret (v := .tuple #[.int .i64 0, .bool false]) (by simp [results, Try.results31, go_sem, HE.out.1, HE.out.2.1]) rfl ⟨rfl, HE.out.2.2⟩

theorem last_any (A : Option Addr) (n c : Nat) (l : List (Int × Int)) (y s : Int) (w : World) (hl : Wins w A n l) (hn : n ≤ 1000000000) :
    Calls Try.prog 31 #[.slice A n c, .int .i64 y, .int .i64 s] w fun e w' => e = .returned (.tuple #[.int .i64 (H.last l y s).1, .bool (H.last l y s).2]) ∧ Below w.heap.size w w' := by
  by_cases h : H.right l = true ∧ H.minute y = true ∧ H.minute s = true
  · have e : H.last l y s = H.lastGo y s (H.all l).reverse := by unfold H.last; rw [if_pos (by simp [h])]
    rw [e]
    exact callsIn_wide.1 (last_in 20 (by omega) A n c l y s w hl h.1 (by have := h.2.1; simp [H.minute] at this; omega) (by have := h.2.2; simp [H.minute] at this; omega))
  · have e : H.last l y s = (0, false) := by unfold H.last; rw [if_neg (by simpa [and_assoc] using h)]
    rw [e]
    exact last_no A n c l y s w hl hn h
end Go.Proofs.Ytdbllcphopecjaa
