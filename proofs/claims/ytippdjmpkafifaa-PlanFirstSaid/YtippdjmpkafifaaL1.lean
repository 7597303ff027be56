/-
The walk of the law TourBegins.
-/
import Derived.Test.YtippdjmpkafifaaBE
import Derived.Test.YtippdjmpkafifaaBD
import Derived.Deep.RegionHeld3
namespace Go.Proofs.Ytippdjmpkafifaa
open Go.RowKit

/-- The cells of the network's block and the shift's, in a world behind w. -/
def LAt (w : World) (b : Nat) (x : C) (w' : World) : Prop :=
  Below w.heap.size w w' ∧ w'.cell? ⟨b, 0, none⟩ = some (.int .i64 x.nd) ∧ w'.cell? ⟨b, 1, none⟩ = some (.slice x.A x.n x.c) ∧ w'.cell? ⟨b + 1, 0, none⟩ = some (.int .i64 x.s.day) ∧ w'.cell? ⟨b + 1, 1, none⟩ = some (.int .i64 x.s.depot) ∧ w'.cell? ⟨b + 1, 2, none⟩ = some (.int .i64 x.s.start) ∧
    w'.cell? ⟨b + 1, 3, none⟩ = some (.int .i64 x.s.end_) ∧ w'.cell? ⟨b + 1, 4, none⟩ = some (.int .i64 x.s.tare) ∧ w'.cell? ⟨b + 1, 5, none⟩ = some (.slice x.s.A x.s.n x.s.c)
theorem LAt.mk' {w : World} {b : Nat} {x : C} (hP : Net w b x.nd x.A x.n x.c) (hS : Shf w (b + 1) x.s) {w' : World} (hb : Below w.heap.size w w') : LAt w b x w' := by
  have h1 := hP.below hb
  have h2 := hS.below hb
  obtain ⟨s0, s1, s2, s3, s4, s5⟩ := h2.cells
  exact ⟨hb, h1.c0, h1.c1, s0, s1, s2, s3, s4, s5⟩

theorem blk_free {w : World} {g : Nat} {cs : Array Value} {t : TypeId} (h : w.heap[g]? = some (.cells cs t (0, 0))) (i : Nat) : w.frozen? ⟨g, i, none⟩ = false := by simp [World.frozen?, h]

/-- A slice's beginning. -/
theorem Ints.take {w : World} {A : Option Addr} {n : Nat} {l : List Int} (h : Ints w A n l) {k : Nat} (hk : k ≤ n) : Ints w A k (l.take k) := by
  refine ⟨by rw [List.length_take, ← h.1]; omega, by simp [intCells]; have := h.1; omega, fun h0 => ?_⟩
  obtain ⟨ad, e, hc⟩ := h.2.2 (by omega)
  refine ⟨ad, e, fun j u hu => hc j u ?_⟩
  rw [intCells, List.map_take, List.getElem?_take] at hu
  split at hu
  · exact hu
  · cases hu

end Go.Proofs.Ytippdjmpkafifaa
