/-
Routes: small blocks.
-/
import Derived.Test.YtjcdpfpdjcannaaPK
namespace Go.Proofs.Ytjcdpfpdjcannaa
open Go.RowKit

set_option maxHeartbeats 4000000 in
theorem fewBlock_any (x : C) (sh : Int) (V : Option Addr) (vn vc : Nat) (LA : Option Addr) (ln lc : Nat) (w : World) (hq : Reqs w x.B x.m x.r) :
    Calls Try.prog 26 #[.agg #[.int .i64 x.nd, .slice x.A x.n x.c], .agg #[.int .i64 x.s.day, .int .i64 x.s.depot, .int .i64 x.s.start, .int .i64 x.s.end_, .int .i64 x.s.tare, .slice x.s.A x.s.n x.s.c], .slice x.B x.m x.d, .agg #[.int .i64 sh, .slice V vn vc, .slice LA ln lc]] w fun e w' => e = .returned (.bool (K.few31 x.nd x.n x.s x.r vn && decide (ln ≤ 60))) ∧ Below w.heap.size w w' := by
  obtain ⟨w1, hw1⟩ : ∃ w1 : World, w1 = w.alloc (.cells #[.int .i64 x.nd, .slice x.A x.n x.c] 24) := ⟨_, rfl⟩
  obtain ⟨w2, hw2⟩ : ∃ w2 : World, w2 = w1.alloc (.cells #[.int .i64 x.s.day, .int .i64 x.s.depot, .int .i64 x.s.start, .int .i64 x.s.end_, .int .i64 x.s.tare, .slice x.s.A x.s.n x.s.c] 27) := ⟨_, rfl⟩
  obtain ⟨w3, hw3⟩ : ∃ w3 : World, w3 = w2.alloc (.cells #[.int .i64 sh, .slice V vn vc, .slice LA ln lc] 51) := ⟨_, rfl⟩
  have z1 : w1.heap.size = w.heap.size + 1 := by rw [hw1]; exact World.size_alloc _ _
  have z2 : w2.heap.size = w.heap.size + 1 + 1 := by rw [hw2, World.size_alloc, z1]
  have b01 : Below w.heap.size w w1 := by rw [hw1]; exact (Below.refl _ _).alloc (Nat.le_refl _) _
  have b12 : Below w1.heap.size w1 w2 := by rw [hw2]; exact (Below.refl _ _).alloc (Nat.le_refl _) _
  have b23 : Below w2.heap.size w2 w3 := by rw [hw3]; exact (Below.refl _ _).alloc (Nat.le_refl _) _
  have hB : w3.heap[w.heap.size + 1 + 1]? = some (.cells #[.int .i64 sh, .slice V vn vc, .slice LA ln lc] 51 (0, 0)) := by rw [← z2, hw3]; exact heap_alloc_new _ _
  have b3 := bel (bel b01 b12) b23
  go_enter Try.func26, Try.ntmps26
  go_wp2_with fail
  rw [← hw1, ← hw2, ← hw3]
  clear hw1 hw2 hw3 z1 z2 b01 b12 b23
  refine (few31_any x V vn vc _ (hq.below b3)).mono ?_
  rintro e w4 ⟨rfl, b4⟩
  have hB := blk_below b4 hB
  have c2 := blk_cell hB 2 _ rfl
  have hb := bel b3 b4
  cases h1 : K.few31 x.nd x.n x.s x.r vn
  · have HX := Lib.hid (show (K.few31 x.nd x.n x.s x.r vn && decide (ln ≤ 60)) = false by rw [h1]; rfl)
    clear h1
    go_wp2_with fail
    go_ret
    exact ⟨ret_b HX.out.symm, hb⟩
  have HF := Lib.hid h1
  clear h1
  cases h2 : decide (ln ≤ 60)
  · have h2i : decide ((ln : Int) ≤ 60) = false := by have := of_decide_eq_false h2; simp; omega
    have HX := Lib.hid (show (K.few31 x.nd x.n x.s x.r vn && decide (ln ≤ 60)) = false by rw [HF.out, h2]; rfl)
    go_wp2_with fail
    go_ret
    exact ⟨ret_b HX.out.symm, hb⟩
  · have h2i : decide ((ln : Int) ≤ 60) = true := by have := of_decide_eq_true h2; simp; omega
    have HX := Lib.hid (show (K.few31 x.nd x.n x.s x.r vn && decide (ln ≤ 60)) = true by rw [HF.out, h2]; rfl)
    go_wp2_with fail
    go_ret
    exact ⟨ret_b HX.out.symm, hb⟩
end Go.Proofs.Ytjcdpfpdjcannaa
