/-
Words for memory: a slice that reads as a list of values, nil let in (after the kit's page of words); windows, numbers.
-/
import Derived.Below
import Derived.Laws.OwnMore
import Derived.Deep.AppendLies
import Derived.Deep.Draws
import Derived.Lib.Hide
import Derived.WalkKit
import Derived.WalkSpells
import Derived.WalkLawsBesides
namespace Go.Proofs.Ytdbllcphopecjaa
open Go.RowKit

theorem bel {w w1 w2 : World} (a : Below w.heap.size w w1) (b : Below w1.heap.size w1 w2) : Below w.heap.size w w2 := a.trans (b.mono a.size)

theorem cell_lt {w : World} {p : Addr} {v : Value} (h : w.cell? p = some v) : p.block < w.heap.size := by
  unfold World.cell? at h
  by_cases hb : p.block < w.heap.size
  · exact hb
  · rw [Array.getElem?_eq_none (by omega)] at h
    simp at h

theorem add_block (a : Addr) (n : Nat) : (a.add n).block = a.block := by unfold Addr.add; split <;> rfl
theorem add_add (a : Addr) (i j : Nat) : (a.add i).add j = a.add (i + j) := by
  unfold Addr.add
  by_cases hi : i = 0 <;> by_cases hj : j = 0 <;> simp [hi, hj, Nat.add_assoc]

theorem add_next (a : Addr) (i j : Nat) (hj : 0 < j) : a.add (i + j) = ⟨(a.add i).block, (a.add i).off + j, none⟩ := by
  unfold Addr.add
  rw [if_neg (by omega)]
  by_cases hi : i = 0 <;> simp [hi, Nat.add_assoc]

/-- The slice value '.slice A n c' of n elements, 'size' cells each, reads as the cells xs. -/
def Rd (w : World) (size : Nat) (A : Option Addr) (n : Nat) (xs : List Value) : Prop :=
  xs.length = n * size ∧ (0 < n → ∃ ad, A = some ad ∧ ∀ j u, xs[j]? = some u → w.cell? (ad.add j) = some u)

theorem Rd.below {w w' : World} {size n : Nat} {A : Option Addr} {xs : List Value} (h : Rd w size A n xs) (hb : Below w.heap.size w w') : Rd w' size A n xs :=
  ⟨h.1, fun hn => by
    obtain ⟨ad, e, hc⟩ := h.2 hn
    exact ⟨ad, e, fun j u hu => (hb.cell (cell_lt (hc j u hu))).trans (hc j u hu)⟩⟩

theorem Rd.at_ {w : World} {size n k : Nat} {A : Option Addr} {xs : List Value} (h : Rd w size A n xs) (hk : k < n) :
    ∃ ad, A = some ad ∧ ∀ j, j < size → ∃ u, xs[k * size + j]? = some u ∧ w.cell? (ad.add (k * size + j)) = some u := by
  obtain ⟨ad, e, hc⟩ := h.2 (by omega)
  refine ⟨ad, e, fun j hj => ?_⟩
  have hl : k * size + j < xs.length := by
    rw [h.1]
    have : (k + 1) * size ≤ n * size := Nat.mul_le_mul_right _ hk
    rw [Nat.add_mul] at this
    omega
  exact ⟨xs[k * size + j], List.getElem?_eq_getElem hl, hc _ _ (List.getElem?_eq_getElem hl)⟩

theorem add_zero_block (g j : Nat) : (⟨g, 0, none⟩ : Addr).add j = ⟨g, j, none⟩ := by
  unfold Addr.add; split
  · rename_i h; subst h; rfl
  · simp

theorem Rd.of_block {w : World} {g : Nat} {cs : Array Value} {t : TypeId} (h : w.heap[g]? = some (.cells cs t (0, 0))) (size n : Nat) (hn : cs.size = n * size) : Rd w size (some ⟨g, 0, none⟩) n cs.toList :=
  ⟨by simpa using hn, fun _ => ⟨_, rfl, fun j u hu => by
    rw [add_zero_block, cell_of_row w g j cs t (0, 0) h]
    simpa using hu⟩⟩

theorem Rd.new (w : World) (cs : Array Value) (t : TypeId) (size n : Nat) (hn : cs.size = n * size) : Rd (w.alloc (.cells cs t)) size (some ⟨w.heap.size, 0, none⟩) n cs.toList :=
  Rd.of_block (heap_alloc_new w _) size n hn

/-- The cells of windows. -/
def winCells : List (Int × Int) → List Value
  | [] => []
  | p :: l => .int .i64 p.1 :: .int .i64 p.2 :: winCells l

theorem winCells_len (l : List (Int × Int)) : (winCells l).length = l.length * 2 := by
  induction l with
  | nil => rfl
  | cons p l ih => simp [winCells, ih]; omega

theorem winCells_get (l : List (Int × Int)) : ∀ (k : Nat) (p : Int × Int), l[k]? = some p → (winCells l)[k * 2]? = some (.int .i64 p.1) ∧ (winCells l)[k * 2 + 1]? = some (.int .i64 p.2) := by
  induction l with
  | nil => intro k p h; simp at h
  | cons q l ih =>
    intro k p h
    cases k with
    | zero => simp at h; subst h; simp [winCells]
    | succ k =>
      have := ih k p (by simpa using h)
      rw [show (k + 1) * 2 = k * 2 + 1 + 1 by omega]
      simpa [winCells] using this

/-- The slice value '.slice A n c' reads as the windows l. -/
def Wins (w : World) (A : Option Addr) (n : Nat) (l : List (Int × Int)) : Prop := n = l.length ∧ Rd w 2 A n (winCells l)

theorem Wins.below {w w' : World} {A : Option Addr} {n : Nat} {l : List (Int × Int)} (h : Wins w A n l) (hb : Below w.heap.size w w') : Wins w' A n l := ⟨h.1, h.2.below hb⟩

theorem Wins.at_ {w : World} {A : Option Addr} {n k : Nat} {l : List (Int × Int)} (h : Wins w A n l) (hk : k < n) :
    ∃ ad o c, A = some ad ∧ l[k]? = some (o, c) ∧ w.cell? (ad.add (k * 2)) = some (.int .i64 o) ∧ w.cell? ⟨(ad.add (k * 2)).block, (ad.add (k * 2)).off + 1, none⟩ = some (.int .i64 c) := by
  obtain ⟨e, hr⟩ := h
  obtain ⟨ad, hA, hc⟩ := hr.at_ hk
  have hl : l[k]? = some (l[k]'(by omega)) := List.getElem?_eq_getElem (by omega)
  obtain ⟨g1, g2⟩ := winCells_get l k _ hl
  obtain ⟨u0, a0, b0⟩ := hc 0 (by omega)
  obtain ⟨u1, a1, b1⟩ := hc 1 (by omega)
  rw [Nat.add_zero] at a0 b0
  rw [add_next _ _ _ (by omega)] at b1
  rw [g1] at a0; rw [g2] at a1
  injection a0 with a0; injection a1 with a1
  subst a0 a1
  exact ⟨ad, _, _, hA, hl, b0, b1⟩
end Go.Proofs.Ytdbllcphopecjaa
