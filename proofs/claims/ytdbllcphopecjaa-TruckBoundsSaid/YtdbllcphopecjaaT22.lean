/-
The walk of the example of Truck.
-/
import Derived.Test.YtdbllcphopecjaaT21
import Derived.Laws.ResultCell
namespace Go.Proofs.Ytdbllcphopecjaa
open Go.RowKit Go.Maps
def T.s0 (A : Option Addr) (c : Nat) : S := ⟨0, 0, 0, 600, 8000, A, 2, c, [3000, 1000]⟩
def T.q0 (room kilos : Int) : Q := ⟨0, room, kilos, 0, 0, 0, none, 0, 0, []⟩
def T.r0 : List Q := [T.q0 0 2000, T.q0 0 1500, T.q0 1 900, T.q0 2 1]

set_option maxHeartbeats 400000 in
theorem texample_any (w : World) : Calls Try.prog 39 #[] w fun e w' => (∃ A c B d, e = .returned (.tuple #[.agg #[.int .i64 0, .int .i64 0, .int .i64 0, .int .i64 600, .int .i64 8000, .slice A 2 c], .slice B 4 d]) ∧ Ints w' A 2 [3000, 1000] ∧ Reqs w' B 4 T.r0) ∧ Below w.heap.size w w' := by
  go_enter Try.func39, Try.ntmps39
  go_wp2
  refine bodyPost_ret_by (v := .tuple #[.agg #[.int .i64 0, .int .i64 0, .int .i64 0, .int .i64 600, .int .i64 8000, .slice (some ⟨w.heap.size + 1, 0, none⟩) 2 2], .slice (some ⟨w.heap.size + 1 + 1 + 1, 0, none⟩) 4 4]) ?_ rfl ?_
  · rw [results_cell_tmp rfl]
    simp [go_sem]
  · refine ⟨⟨_, _, _, _, rfl, ⟨rfl, ?_⟩, ⟨rfl, ?_, ?_⟩⟩, ?_⟩
    · exact Rd.of_block (t := 3) (cs := #[.int .i64 3000, .int .i64 1000]) (blk_alloc (blk_alloc (heap_alloc_at _ _ _ (by simp)) _) _) 1 2 rfl
    · exact Rd.of_block (t := 31) (cs := (reqCells T.r0).toArray) (heap_alloc_at _ _ _ (by simp)) 7 4 rfl
    · intro q hq
      simp [T.r0, T.q0] at hq
      rcases hq with rfl | rfl | rfl | rfl <;> exact wins_nil _
    · exact (((((Below.refl _ _).alloc (Nat.le_refl _) _).alloc (by simp) _).alloc (by simp; omega) _).alloc (by simp; omega) _)

theorem Shf.cells {w : World} {b : Nat} {s : S} (h : Shf w b s) : w.cell? ⟨b, 0, none⟩ = some (.int .i64 s.day) ∧ w.cell? ⟨b, 1, none⟩ = some (.int .i64 s.depot) ∧ w.cell? ⟨b, 2, none⟩ = some (.int .i64 s.start) ∧ w.cell? ⟨b, 3, none⟩ = some (.int .i64 s.end_) ∧ w.cell? ⟨b, 4, none⟩ = some (.int .i64 s.tare) ∧ w.cell? ⟨b, 5, none⟩ = some (.slice s.A s.n s.c) :=
  ⟨blk_cell h 0 _ rfl, blk_cell h 1 _ rfl, blk_cell h 2 _ rfl, blk_cell h 3 _ rfl, blk_cell h 4 _ rfl, blk_cell h 5 _ rfl⟩

theorem ints_lit (w : World) (l : List Int) : Ints (w.alloc (.cells (intCells l).toArray 3)) (some ⟨w.heap.size, 0, none⟩) l.length l :=
  ⟨rfl, by have h := Rd.new w (intCells l).toArray 3 1 l.length (by simp [intCells]); simpa using h⟩
end Go.Proofs.Ytdbllcphopecjaa
