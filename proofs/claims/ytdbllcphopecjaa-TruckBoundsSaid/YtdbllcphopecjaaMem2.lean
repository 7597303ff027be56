/-
Words for memory, more: a slice that the call appends to; what stays beside it.
-/
import Derived.Test.YtdbllcphopecjaaMem
import Derived.Test.YtdbllcphopecjaaRows
import Derived.Maps.AppendAt
namespace Go.Proofs.Ytdbllcphopecjaa
open Go.RowKit

theorem Rd.grown {w w' : World} {size n : Nat} {A : Option Addr} {xs : List Value} {r : Option Nat} (h : Rd w size A n xs) (hg : w.grownBy w' r) (hA : ∀ ad, A = some ad → some ad.block ≠ r) : Rd w' size A n xs :=
  ⟨h.1, fun hn => by
    obtain ⟨ad, e, hc⟩ := h.2 hn
    refine ⟨ad, e, fun j u hu => ?_⟩
    have h1 := hc j u hu
    have h2 := cell_lt h1
    rw [add_block] at h2
    exact (World.cell?_of_block (by rw [add_block]; exact hg.block _ h2 (hA ad e))).trans h1⟩

theorem Wins.grown {w w' : World} {A : Option Addr} {n : Nat} {l : List (Int × Int)} {r : Option Nat} (h : Wins w A n l) (hg : w.grownBy w' r) (hA : ∀ ad, A = some ad → some ad.block ≠ r) : Wins w' A n l := ⟨h.1, h.2.grown hg hA⟩

theorem own_form {w : World} {base : Nat} {e : TypeId} {size n : Nat} {v : Value} {xs : List Value} (h : w.ownsRow base e size v n xs) :
    ∃ A c, v = .slice A n c ∧ Rd w size A n xs ∧ ∀ g, v.ownBlock = some g → base ≤ g ∧ g < w.heap.size := by
  obtain ⟨hl, ⟨rfl, rfl⟩ | ⟨g, cap, cur, rfl, hb, hh, hnc, _, hsz, ht⟩⟩ := h
  · exact ⟨none, 0, rfl, ⟨hl, fun h0 => absurd h0 (by omega)⟩, fun g h => by cases h⟩
  · refine ⟨_, cap, rfl, ⟨hl, fun _ => ⟨_, rfl, fun j u hu => ?_⟩⟩, fun g' h => ?_⟩
    · rw [add_zero_block, cell_of_row w g j cur e (0, 0) hh]
      rw [← ht] at hu
      rw [List.getElem?_take] at hu
      split at hu
      · simpa using hu
      · cases hu
    · injection h with h
      subst h
      exact ⟨hb, (Array.getElem?_eq_some_iff.1 hh).1⟩

theorem grow_step {w3 wr w1 : World} {r vb : Option Nat} (h : w3.grownBy wr r) (h1 : wr.grownBy w1 vb) (hv : vb = r ∨ vb = none ∨ ∃ g, vb = some g ∧ w3.heap.size ≤ g) : w3.grownBy w1 r :=
  ⟨h1.os.trans h.os, h1.tape.trans h.tape, h1.output.trans h.output, Nat.le_trans h.size h1.size, fun k hk hne =>
    (h1.block k (Nat.lt_of_lt_of_le hk h.size) (by
      rcases hv with rfl | rfl | ⟨g, rfl, hg⟩
      · exact hne
      · simp
      · intro e; injection e with e; omega)).trans (h.block k hk hne)⟩

theorem grow_alloc {w3 wr : World} {r : Option Nat} (h : w3.grownBy wr r) (o : Obj) : w3.grownBy (wr.alloc o) r :=
  ⟨h.os, h.tape, h.output, Nat.le_trans h.size (by simp), fun k hk hne => (Below.heap_alloc wr o k (Nat.lt_of_lt_of_le hk h.size)).trans (h.block k hk hne)⟩

theorem grow_refl (w : World) (r : Option Nat) : w.grownBy w r := World.grownBy.refl w r

theorem grow_below {w3 wr w1 : World} {r : Option Nat} (h : w3.grownBy wr r) (hb : Below wr.heap.size wr w1) : w3.grownBy w1 r :=
  ⟨hb.os.trans h.os, hb.tape.trans h.tape, hb.output.trans h.output, Nat.le_trans h.size hb.size, fun k hk hne => (hb.block k (Nat.lt_of_lt_of_le hk h.size)).trans (h.block k hk hne)⟩

theorem grow_blk {w w' : World} {r : Option Nat} {g : Nat} {o : Obj} (h : w.grownBy w' r) (hg : w.heap[g]? = some o) (hne : some g ≠ r) : w'.heap[g]? = some o :=
  (h.block g (Array.getElem?_eq_some_iff.1 hg).1 hne).trans hg

theorem blk_below {w w' : World} {g : Nat} {o : Obj} (h : Below w.heap.size w w') (hg : w.heap[g]? = some o) : w'.heap[g]? = some o :=
  (h.block g (Array.getElem?_eq_some_iff.1 hg).1).trans hg

theorem blk_alloc {w : World} {g : Nat} {o : Obj} (hg : w.heap[g]? = some o) (o' : Obj) : (w.alloc o').heap[g]? = some o :=
  (Below.heap_alloc w o' g (Array.getElem?_eq_some_iff.1 hg).1).trans hg

theorem blk_cell {w : World} {g : Nat} {cs : Array Value} {t : TypeId} (h : w.heap[g]? = some (.cells cs t (0, 0))) (i : Nat) (v : Value) (hv : cs[i]? = some v) : w.cell? ⟨g, i, none⟩ = some v :=
  (cell_of_row w g i cs t (0, 0) h).trans hv

/-- 'Below B a ..' over an append into a row from B on. -/
theorem below_own {B : Nat} {a w w' : World} {v : Value} (h : Below B a w) (hs : B ≤ a.heap.size) (hg : w.grownBy w' v.ownBlock) (hv : ∀ g, v.ownBlock = some g → B ≤ g) : Below B a w' :=
  h.grown hg (Nat.le_trans hs h.size) (fun k e => hv k e)

theorem winCells_app (l m : List (Int × Int)) : winCells (l ++ m) = winCells l ++ winCells m := by
  induction l with
  | nil => rfl
  | cons p l ih => simp [winCells, ih]

theorem Try.info56 : (Try.prog.info? 56).map (fun i => (i.zero, i.size, i.bytes)) = some (some (.agg #[.int .i64 0, .int .i64 0]), 2, 16) := by kernel_rfl

theorem app_win {ops : Array Oper} {rest : List Oper} {o : Oper} {a : Act} {Q : Exit → Act → World → Prop} {w : World} (hgd : o.guard = none) (s x : Operand)
    (ho : o.op = .call { callee := .builtin .append, args := #[s, x], argTypes := #[29, 29] })
    (base : Nat) (v : Value) (n : Nat) (l : List (Int × Int)) (hs : a.eval s = v) (hown : w.ownsRow base 56 2 v n (winCells l)) (g : Nat) (p q : Int) (hx : a.eval x = .slice (some ⟨g, 0, none⟩) 1 1)
    (hg : w.heap[g]? = some (.cells #[.int .i64 p, .int .i64 q] 56 (0, 0))) (hn : n ≤ 1000000) (hbase : base ≤ w.heap.size)
    (h : ∀ v' w', w'.ownsRow base 56 2 v' (n + 1) (winCells (l ++ [(p, q)])) → w.grownBy w' v.ownBlock → (v'.ownBlock = v.ownBlock ∨ v'.ownBlock = some w.heap.size) → wpList Try.prog ops Q rest (a.put o.dst v') w') :
    wpList Try.prog ops Q (o :: rest) a w := by
  obtain ⟨i0, hi, hz0, hz1, hz2⟩ := info_parts Try.info56
  refine wpList_append_own_at w hgd s x 29 ho base 56 i0 (.agg #[.int .i64 0, .int .i64 0]) 2 16 Try.underlying29 hi hz0 hz1 hz2 rfl (by decide) v n (winCells l) hs hown ⟨g, 0, none⟩ 1 1 [.int .i64 p, .int .i64 q] hx rfl ?_ ?_ ?_ ?_ hbase ?_
  · intro j u hu
    rw [add_zero_block]
    exact blk_cell hg j u (by simpa using hu)
  · intro u hu
    simp at hu
    rcases hu with rfl | rfl <;> rfl
  · simp only [maxLen]; omega
  · omega
  · intro v' w' h2 h3 _ h5
    exact h v' w' (by rw [winCells_app]; exact h2) h3 h5
end Go.Proofs.Ytdbllcphopecjaa
