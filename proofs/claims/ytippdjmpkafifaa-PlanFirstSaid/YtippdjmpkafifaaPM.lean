/-
Routes: what the search for the best tour leaves in memory.
-/
import Derived.Test.YtippdjmpkafifaaPK
namespace Go.Proofs.Ytippdjmpkafifaa
open Go.RowKit

/-- w' is w, but for the blocks mb, gb and gf, and for new ones. -/
structure But3 (w w' : World) (mb gb gf : Nat) : Prop where
  os : w'.os = w.os
  tape : w'.tape = w.tape
  output : w'.output = w.output
  size : w.heap.size ≤ w'.heap.size
  block : ∀ k, k < w.heap.size → k ≠ mb → k ≠ gb → k ≠ gf → w'.heap[k]? = w.heap[k]?
theorem But3.of {w w' : World} {mb gb gf : Nat} (h : w.grownBy w' (some mb)) : But3 w w' mb gb gf := ⟨h.os, h.tape, h.output, h.size, fun k hk hne _ _ => h.block k hk (fun e => hne (by injection e))⟩
theorem But3.refl (w : World) (mb gb gf : Nat) : But3 w w mb gb gf := ⟨rfl, rfl, rfl, Nat.le_refl _, fun _ _ _ _ _ => rfl⟩
theorem But3.trans {w w1 w2 : World} {mb gb gf : Nat} (h : But3 w w1 mb gb gf) (h2 : But3 w1 w2 mb gb gf) : But3 w w2 mb gb gf :=
  ⟨h2.os.trans h.os, h2.tape.trans h.tape, h2.output.trans h.output, Nat.le_trans h.size h2.size, fun k hk a b c => (h2.block k (Nat.lt_of_lt_of_le hk h.size) a b c).trans (h.block k hk a b c)⟩
theorem But3.below {w w1 w2 : World} {mb gb gf : Nat} (h : But3 w w1 mb gb gf) (h2 : Below w1.heap.size w1 w2) : But3 w w2 mb gb gf :=
  h.trans ⟨h2.os, h2.tape, h2.output, h2.size, fun k hk _ _ _ => h2.block k hk⟩
theorem But3.set {w w' : World} {mb gb gf g : Nat} (h : But3 w w' mb gb gf) (hg : g = gb ∨ g = gf) (i : Nat) (v : Value) : But3 w (w'.setCell ⟨g, i, none⟩ v) mb gb gf :=
  ⟨h.os, h.tape, h.output, by rw [World.size_setCell]; exact h.size, fun k hk a b c => (Below.heap_setCell w' _ _ k (by rcases hg with rfl | rfl <;> assumption)).trans (h.block k hk a b c)⟩

/-- The best tour so far, in two variables of the caller. -/
structure BestAt (w : World) (gb gf : Nat) (best : Option K.Tr) : Prop where
  found : w.heap[gf]? = some (.cells #[.bool best.isSome] 4 (0, 0))
  blk : ∃ A n c A' n' c' e, TBlk w gb 0 (.slice A n c) (.slice A' n' c') e ∧ ∀ b, best = some b → Ints w A n b.stops ∧ Ints w A' n' b.times ∧ e = b.end_ ∧ (∀ ad, A = some ad → gb < ad.block ∧ gf < ad.block) ∧ ∀ ad, A' = some ad → gb < ad.block ∧ gf < ad.block
theorem BestAt.ext {w w' : World} {gb gf : Nat} {best : Option K.Tr} (h : BestAt w gb gf best) (hx : Ext w w') : BestAt w' gb gf best := by
  obtain ⟨A, n, c, A', n', c', e, hT, hb⟩ := h.blk
  exact ⟨hx.cells _ _ _ _ h.found, A, n, c, A', n', c', e, hx.cells _ _ _ _ hT, fun b e => by
    obtain ⟨h1, h2, h3⟩ := hb b e
    exact ⟨h1.ext hx, h2.ext hx, h3⟩⟩
theorem BestAt.ne {w : World} {gb gf : Nat} {best : Option K.Tr} (h : BestAt w gb gf best) : gb ≠ gf := fun e => by
  obtain ⟨A, n, c, A', n', c', e', hT, -⟩ := h.blk
  have h1 := h.found
  rw [← e] at h1
  have h2 := hT.symm.trans h1
  injection h2 with h2
  injection h2 with h2
  simp at h2
end Go.Proofs.Ytippdjmpkafifaa
