/-
Words for memory: slices that read as lists, what stays beside what is written; regions that draw their order.
-/
import Derived.Below
import Derived.Laws.OwnMore
import Derived.Deep.AppendLies
import Derived.Deep.Draws
import Derived.Lib.Hide
import Derived.WalkKit
import Derived.WalkSpells
import Derived.WalkLawsBesides
import Derived.Maps.AppendAt
import Derived.BigQuiet
import Derived.Test.YtijkaiilecpbcaaRows
namespace Go.Proofs.Ytijkaiilecpbcaa
open Go.RowKit

theorem bel {w w1 w2 : World} (a : Below w.heap.size w w1) (b : Below w1.heap.size w1 w2) : Below w.heap.size w w2 := a.trans (b.mono a.size)

theorem cell_lt {w : World} {p : Addr} {v : Value} (h : w.cell? p = some v) : p.block < w.heap.size := by
  unfold World.cell? at h
  by_cases hb : p.block < w.heap.size
  · exact hb
  · rw [Array.getElem?_eq_none (by omega)] at h
    simp at h

theorem add_block (a : Addr) (n : Nat) : (a.add n).block = a.block := by unfold Addr.add; split <;> rfl
theorem add_add (a : Addr) (i j : Nat) : (a.add i).add j = a.add (i + j) := by
  unfold Addr.add
  by_cases hi : i = 0 <;> by_cases hj : j = 0 <;> simp [hi, hj, Nat.add_assoc]

theorem add_next (a : Addr) (i j : Nat) (hj : 0 < j) : a.add (i + j) = ⟨(a.add i).block, (a.add i).off + j, none⟩ := by
  unfold Addr.add
  rw [if_neg (by omega)]
  by_cases hi : i = 0 <;> simp [hi, Nat.add_assoc]

/-- The slice value '.slice A n c' of n elements, 'size' cells each, reads as the cells xs. -/
def Rd (w : World) (size : Nat) (A : Option Addr) (n : Nat) (xs : List Value) : Prop :=
  xs.length = n * size ∧ (0 < n → ∃ ad, A = some ad ∧ ∀ j u, xs[j]? = some u → w.cell? (ad.add j) = some u)

theorem Rd.below {w w' : World} {size n : Nat} {A : Option Addr} {xs : List Value} (h : Rd w size A n xs) (hb : Below w.heap.size w w') : Rd w' size A n xs :=
  ⟨h.1, fun hn => by
    obtain ⟨ad, e, hc⟩ := h.2 hn
    exact ⟨ad, e, fun j u hu => (hb.cell (cell_lt (hc j u hu))).trans (hc j u hu)⟩⟩

theorem Rd.at_ {w : World} {size n k : Nat} {A : Option Addr} {xs : List Value} (h : Rd w size A n xs) (hk : k < n) :
    ∃ ad, A = some ad ∧ ∀ j, j < size → ∃ u, xs[k * size + j]? = some u ∧ w.cell? (ad.add (k * size + j)) = some u := by
  obtain ⟨ad, e, hc⟩ := h.2 (by omega)
  refine ⟨ad, e, fun j hj => ?_⟩
  have hl : k * size + j < xs.length := by
    rw [h.1]
    have : (k + 1) * size ≤ n * size := Nat.mul_le_mul_right _ hk
    rw [Nat.add_mul] at this
    omega
  exact ⟨xs[k * size + j], List.getElem?_eq_getElem hl, hc _ _ (List.getElem?_eq_getElem hl)⟩

theorem add_zero_block (g j : Nat) : (⟨g, 0, none⟩ : Addr).add j = ⟨g, j, none⟩ := by
  unfold Addr.add; split
  · rename_i h; subst h; rfl
  · simp

theorem Rd.of_block {w : World} {g : Nat} {cs : Array Value} {t : TypeId} (h : w.heap[g]? = some (.cells cs t (0, 0))) (size n : Nat) (hn : cs.size = n * size) : Rd w size (some ⟨g, 0, none⟩) n cs.toList :=
  ⟨by simpa using hn, fun _ => ⟨_, rfl, fun j u hu => by
    rw [add_zero_block, cell_of_row w g j cs t (0, 0) h]
    simpa using hu⟩⟩

theorem Rd.new (w : World) (cs : Array Value) (t : TypeId) (size n : Nat) (hn : cs.size = n * size) : Rd (w.alloc (.cells cs t)) size (some ⟨w.heap.size, 0, none⟩) n cs.toList :=
  Rd.of_block (heap_alloc_new w _) size n hn

theorem Rd.grown {w w' : World} {size n : Nat} {A : Option Addr} {xs : List Value} {r : Option Nat} (h : Rd w size A n xs) (hg : w.grownBy w' r) (hA : ∀ ad, A = some ad → some ad.block ≠ r) : Rd w' size A n xs :=
  ⟨h.1, fun hn => by
    obtain ⟨ad, e, hc⟩ := h.2 hn
    refine ⟨ad, e, fun j u hu => ?_⟩
    have h1 := hc j u hu
    have h2 := cell_lt h1
    rw [add_block] at h2
    exact (World.cell?_of_block (by rw [add_block]; exact hg.block _ h2 (hA ad e))).trans h1⟩

theorem own_form {w : World} {base : Nat} {e : TypeId} {size n : Nat} {v : Value} {xs : List Value} (h : w.ownsRow base e size v n xs) :
    ∃ A c, v = .slice A n c ∧ Rd w size A n xs ∧ ∀ g, v.ownBlock = some g → base ≤ g ∧ g < w.heap.size := by
  obtain ⟨hl, ⟨rfl, rfl⟩ | ⟨g, cap, cur, rfl, hb, hh, hnc, _, hsz, ht⟩⟩ := h
  · exact ⟨none, 0, rfl, ⟨hl, fun h0 => absurd h0 (by omega)⟩, fun g h => by cases h⟩
  · refine ⟨_, cap, rfl, ⟨hl, fun _ => ⟨_, rfl, fun j u hu => ?_⟩⟩, fun g' h => ?_⟩
    · rw [add_zero_block, cell_of_row w g j cur e (0, 0) hh]
      rw [← ht] at hu
      rw [List.getElem?_take] at hu
      split at hu
      · simpa using hu
      · cases hu
    · injection h with h
      subst h
      exact ⟨hb, (Array.getElem?_eq_some_iff.1 hh).1⟩

theorem grow_step {w3 wr w1 : World} {r vb : Option Nat} (h : w3.grownBy wr r) (h1 : wr.grownBy w1 vb) (hv : vb = r ∨ vb = none ∨ ∃ g, vb = some g ∧ w3.heap.size ≤ g) : w3.grownBy w1 r :=
  ⟨h1.os.trans h.os, h1.tape.trans h.tape, h1.output.trans h.output, Nat.le_trans h.size h1.size, fun k hk hne =>
    (h1.block k (Nat.lt_of_lt_of_le hk h.size) (by
      rcases hv with rfl | rfl | ⟨g, rfl, hg⟩
      · exact hne
      · simp
      · intro e; injection e with e; omega)).trans (h.block k hk hne)⟩

theorem grow_alloc {w3 wr : World} {r : Option Nat} (h : w3.grownBy wr r) (o : Obj) : w3.grownBy (wr.alloc o) r :=
  ⟨h.os, h.tape, h.output, Nat.le_trans h.size (by simp), fun k hk hne => (Below.heap_alloc wr o k (Nat.lt_of_lt_of_le hk h.size)).trans (h.block k hk hne)⟩

theorem grow_refl (w : World) (r : Option Nat) : w.grownBy w r := World.grownBy.refl w r

theorem grow_below {w3 wr w1 : World} {r : Option Nat} (h : w3.grownBy wr r) (hb : Below wr.heap.size wr w1) : w3.grownBy w1 r :=
  ⟨hb.os.trans h.os, hb.tape.trans h.tape, hb.output.trans h.output, Nat.le_trans h.size hb.size, fun k hk hne => (hb.block k (Nat.lt_of_lt_of_le hk h.size)).trans (h.block k hk hne)⟩

theorem grow_blk {w w' : World} {r : Option Nat} {g : Nat} {o : Obj} (h : w.grownBy w' r) (hg : w.heap[g]? = some o) (hne : some g ≠ r) : w'.heap[g]? = some o :=
  (h.block g (Array.getElem?_eq_some_iff.1 hg).1 hne).trans hg

theorem blk_below {w w' : World} {g : Nat} {o : Obj} (h : Below w.heap.size w w') (hg : w.heap[g]? = some o) : w'.heap[g]? = some o :=
  (h.block g (Array.getElem?_eq_some_iff.1 hg).1).trans hg

theorem blk_alloc {w : World} {g : Nat} {o : Obj} (hg : w.heap[g]? = some o) (o' : Obj) : (w.alloc o').heap[g]? = some o :=
  (Below.heap_alloc w o' g (Array.getElem?_eq_some_iff.1 hg).1).trans hg

theorem blk_cell {w : World} {g : Nat} {cs : Array Value} {t : TypeId} (h : w.heap[g]? = some (.cells cs t (0, 0))) (i : Nat) (v : Value) (hv : cs[i]? = some v) : w.cell? ⟨g, i, none⟩ = some v :=
  (cell_of_row w g i cs t (0, 0) h).trans hv

/-- 'Below B a ..' over an append into a row from B on. -/
theorem below_own {B : Nat} {a w w' : World} {v : Value} (h : Below B a w) (hs : B ≤ a.heap.size) (hg : w.grownBy w' v.ownBlock) (hv : ∀ g, v.ownBlock = some g → B ≤ g) : Below B a w' :=
  h.grown hg (Nat.le_trans hs h.size) (fun k e => hv k e)

theorem own_below {w w' : World} {base : Nat} {e : TypeId} {size n : Nat} {v : Value} {xs : List Value} (h : w.ownsRow base e size v n xs) (hb : Below w.heap.size w w') : w'.ownsRow base e size v n xs := by
  obtain ⟨hl, h1 | ⟨g, cap, cur, hv, hbg, hh, r⟩⟩ := h
  · exact ⟨hl, .inl h1⟩
  · exact ⟨hl, .inr ⟨g, cap, cur, hv, hbg, blk_below hb hh, r⟩⟩

theorem below_own2 {B : Nat} {w2 w3 wr : World} {r : Option Nat} (h : Below B w2 w3) (hg : w3.grownBy wr r) (hr : ∀ g, r = some g → B ≤ g) (hB : B ≤ w2.heap.size := by exact Nat.le_refl _) : Below B w2 wr :=
  h.grown hg (Nat.le_trans hB h.size) hr

theorem heap_alloc_at (w : World) (o : Obj) (g : Nat) (hg : g = w.heap.size) : (w.alloc o).heap[g]? = some o := by subst hg; exact heap_alloc_new w o

theorem beq0_no (x : Nat) (h : ¬ x = 0) : ((x : Int) == 0) = false := by simp; omega
theorem beq0_yes (x : Nat) (h : x = 0) : ((x : Int) == 0) = true := by simp; omega
theorem gt_no (x y : Nat) (h : ¬ y < x) : decide ((y : Int) < (x : Int)) = false := by simp; omega

/-- The cells of numbers. -/
def intCells (l : List Int) : List Value := l.map (Value.int .i64)

/-- The slice value '.slice A n c' reads as the numbers l. -/
def Ints (w : World) (A : Option Addr) (n : Nat) (l : List Int) : Prop := n = l.length ∧ Rd w 1 A n (intCells l)

theorem Ints.below {w w' : World} {A : Option Addr} {n : Nat} {l : List Int} (h : Ints w A n l) (hb : Below w.heap.size w w') : Ints w' A n l := ⟨h.1, h.2.below hb⟩

theorem Ints.at_ {w : World} {A : Option Addr} {n k : Nat} {l : List Int} (h : Ints w A n l) (hk : k < n) :
    ∃ ad x, A = some ad ∧ l[k]? = some x ∧ w.cell? (ad.add k) = some (.int .i64 x) := by
  obtain ⟨e, hr⟩ := h
  obtain ⟨ad, hA, hc⟩ := hr.at_ hk
  have hl : l[k]? = some (l[k]'(by omega)) := List.getElem?_eq_getElem (by omega)
  obtain ⟨u0, a0, b0⟩ := hc 0 (by omega)
  rw [Nat.add_zero, Nat.mul_one] at a0 b0
  unfold intCells at a0
  rw [List.getElem?_map, hl] at a0
  simp at a0
  subst a0
  exact ⟨ad, _, hA, hl, b0⟩

theorem ret_i {x y : Int} (h : x = y) : Ending.returned (.int .i64 x) = .returned (.int .i64 y) := by rw [h]

theorem intCells_one (l : List Int) : ∀ u ∈ intCells l, u.oneCell' = true := by
  intro u hu
  obtain ⟨x, _, rfl⟩ := List.mem_map.1 hu
  rfl

theorem own_ints {w : World} {base : Nat} {v : Value} {n : Nat} {l : List Int} (h : w.ownsRow base 3 1 v n (intCells l)) (hn : n = l.length) : ∃ A c, v = .slice A n c ∧ Ints w A n l := by
  obtain ⟨A, c, e, hr, _⟩ := own_form h
  exact ⟨A, c, e, hn, hr⟩

theorem drop_any {α : Type} {p : α → Bool} {l : List α} {k : Nat} {x : α} (h : l[k]? = some x) : (l.drop k).any p = (p x || (l.drop (k + 1)).any p) := by
  obtain ⟨hk, e⟩ := List.getElem?_eq_some_iff.1 h
  rw [List.drop_eq_getElem_cons hk, e]
  rfl

theorem drop_all {α : Type} {p : α → Bool} {l : List α} {k : Nat} {x : α} (h : l[k]? = some x) : (l.drop k).all p = (p x && (l.drop (k + 1)).all p) := by
  obtain ⟨hk, e⟩ := List.getElem?_eq_some_iff.1 h
  rw [List.drop_eq_getElem_cons hk, e]
  rfl

theorem take_snoc {α : Type} {l : List α} {k : Nat} {x : α} (h : l[k]? = some x) : l.take (k + 1) = l.take k ++ [x] := by
  obtain ⟨hk, e⟩ := List.getElem?_eq_some_iff.1 h
  rw [List.take_succ_eq_append_getElem hk, e]

theorem below_drewN {B : Nat} {a w : World} (h : Below B a w) (n : Nat) : Below B a (w.drewN n) := ⟨h.os, h.tape, h.output, h.size, h.block⟩

theorem ret_b {x y : Bool} (h : x = y) : Ending.returned (.bool x) = .returned (.bool y) := by rw [h]

theorem ints_nil (w : World) : Ints w none 0 [] := ⟨rfl, rfl, fun h => absurd h (by omega)⟩

theorem intCells_app (l m : List Int) : intCells (l ++ m) = intCells l ++ intCells m := by simp [intCells]

/-- A world behind w: of what was there, all stands. -/
structure Beh (w : World) where
  val : World
  property : Below w.heap.size w val

instance (w : World) : Nonempty (Beh w) := ⟨⟨w, Below.refl _ _⟩⟩

theorem Beh.cell {w : World} {a : Addr} {v : Value} (h : w.cell? a = some v) : ∀ i : Beh w, i.val.cell? a = some v := fun i => (i.property.cell (cell_lt h)).trans h

theorem reg_beh {P : Program} {id : Nat} {Q : Exit → Act → World → Prop} {a : Act} {w : World} {l : List Oper} (hm : P.follows .mixedOrders = true) (hB : Region.lexB .any l.toArray = true)
    (h : wpQuiet P l.toArray (fun w' => ∃ i : Beh w, w' = i.val) (fun a' => ∀ w', (∃ i : Beh w, w' = i.val) → Q .normal a' w') l a) : (Code.region id l.toArray true).wp P Q a w :=
  wp_region_quiet (C := fun w' => ∃ i : Beh w, w' = i.val) hm hB ⟨⟨w.drew, (Below.refl _ _).drew⟩, rfl⟩ (by simpa using h)

theorem Beh.calls {P : Program} {f : FuncId} {args : Array Value} {w : World} {i : Beh w} {v : Value} (h : Calls P f args i.val fun e w' => e = .returned v ∧ Below i.val.heap.size i.val w') :
    Calls P f args i.val fun e w'' => e = .returned v ∧ ∃ j : Beh w, w'' = j.val :=
  h.mono fun _ w' ⟨he, hb⟩ => ⟨he, ⟨w', bel i.property hb⟩, rfl⟩

theorem Beh.calls_same {P : Program} {f : FuncId} {args : Array Value} {w : World} {i : Beh w} {v : Value} (h : Calls P f args i.val fun e w' => e = .returned v ∧ i.val = w') :
    Calls P f args i.val fun e w'' => e = .returned v ∧ ∃ j : Beh w, w'' = j.val :=
  h.mono fun _ _ ⟨he, hb⟩ => ⟨he, i, hb.symm⟩
theorem ints_lit (w : World) (l : List Int) : Ints (w.alloc (.cells (intCells l).toArray 3)) (some ⟨w.heap.size, 0, none⟩) l.length l :=
  ⟨rfl, by have h := Rd.new w (intCells l).toArray 3 1 l.length (by simp [intCells]); simpa using h⟩
end Go.Proofs.Ytijkaiilecpbcaa

