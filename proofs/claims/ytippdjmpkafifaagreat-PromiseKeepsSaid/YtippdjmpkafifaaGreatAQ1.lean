import Derived.Below
import Derived.Laws.OwnMore
import Derived.Deep.AppendLies
import Derived.Deep.Draws
import Derived.Lib.Hide
import Derived.WalkKit
import Derived.WalkSpells
import Derived.WalkLawsBesides
import Derived.Maps.AppendAt
import Derived.BigQuiet
import Derived.Test.YtippdjmpkafifaaGreatRows
import Derived.Deep.QuietTactic
import Derived.StillTailTactics
import Derived.BigRegion
import Derived.RegionTactic
import Derived.Deep.DeepCutAuto
import Derived.Deep.OwnRows
import Derived.Maps.OwnSet
import Derived.Lib.LazyBuf
/-
Words for memory: slices that read as lists, what stays beside what is written; regions that draw their order.
Words for memory: lists of elements of a few cells each; roads, stops.
Plain laws of shortest ways: walks, the search by the earliest stop, the search round by round.
Words for memory: a slice that reads as a list of values, nil let in (after the kit's page of words); windows, numbers.
Windows: what the functions of layer 28 compute. Plain lists, no program.
The walk of hours.Right.
The walks of hours.minute, hours.all, hours.Fit.
The walks of slices.IndexFunc and slices.ContainsFunc at windows, and of hours.Open.
The walk of the reference's Right, Minute, Fits.
Words for memory, more: a slice that the call appends to; what stays beside it.
Words for memory: numbers, requests.
The reference's windows: what its functions compute, and that it is the same. Plain lists, no program.
The walks of the reference's Fits, Open, Fit, Last.
The walks of the reference's Fit and Last.
The walk of the reference's Same.
The walk of the reference's Both.
The laws of layer 28 in plain lists.
-/
namespace Go.Proofs.YtippdjmpkafifaaGreat
open Go.RowKit

theorem bel {w w1 w2 : World} (a : Below w.heap.size w w1) (b : Below w1.heap.size w1 w2) : Below w.heap.size w w2 := a.trans (b.mono a.size)

theorem cell_lt {w : World} {p : Addr} {v : Value} (h : w.cell? p = some v) : p.block < w.heap.size := by
  unfold World.cell? at h
  by_cases hb : p.block < w.heap.size
  · exact hb
  · rw [Array.getElem?_eq_none (by omega)] at h
    simp at h

theorem add_block (a : Addr) (n : Nat) : (a.add n).block = a.block := by unfold Addr.add; split <;> rfl
theorem add_add (a : Addr) (i j : Nat) : (a.add i).add j = a.add (i + j) := by
  unfold Addr.add
  by_cases hi : i = 0 <;> by_cases hj : j = 0 <;> simp [hi, hj, Nat.add_assoc]

theorem add_next (a : Addr) (i j : Nat) (hj : 0 < j) : a.add (i + j) = ⟨(a.add i).block, (a.add i).off + j, none⟩ := by
  unfold Addr.add
  rw [if_neg (by omega)]
  by_cases hi : i = 0 <;> simp [hi, Nat.add_assoc]

/-- The slice value '.slice A n c' of n elements, 'size' cells each, reads as the cells xs. -/
def Rd (w : World) (size : Nat) (A : Option Addr) (n : Nat) (xs : List Value) : Prop :=
  xs.length = n * size ∧ (0 < n → ∃ ad, A = some ad ∧ ∀ j u, xs[j]? = some u → w.cell? (ad.add j) = some u)

theorem Rd.below {w w' : World} {size n : Nat} {A : Option Addr} {xs : List Value} (h : Rd w size A n xs) (hb : Below w.heap.size w w') : Rd w' size A n xs :=
  ⟨h.1, fun hn => by
    obtain ⟨ad, e, hc⟩ := h.2 hn
    exact ⟨ad, e, fun j u hu => (hb.cell (cell_lt (hc j u hu))).trans (hc j u hu)⟩⟩

theorem Rd.at_ {w : World} {size n k : Nat} {A : Option Addr} {xs : List Value} (h : Rd w size A n xs) (hk : k < n) :
    ∃ ad, A = some ad ∧ ∀ j, j < size → ∃ u, xs[k * size + j]? = some u ∧ w.cell? (ad.add (k * size + j)) = some u := by
  obtain ⟨ad, e, hc⟩ := h.2 (by omega)
  refine ⟨ad, e, fun j hj => ?_⟩
  have hl : k * size + j < xs.length := by
    rw [h.1]
    have : (k + 1) * size ≤ n * size := Nat.mul_le_mul_right _ hk
    rw [Nat.add_mul] at this
    omega
  exact ⟨xs[k * size + j], List.getElem?_eq_getElem hl, hc _ _ (List.getElem?_eq_getElem hl)⟩

theorem add_zero_block (g j : Nat) : (⟨g, 0, none⟩ : Addr).add j = ⟨g, j, none⟩ := by
  unfold Addr.add; split
  · rename_i h; subst h; rfl
  · simp

theorem Rd.of_block {w : World} {g : Nat} {cs : Array Value} {t : TypeId} (h : w.heap[g]? = some (.cells cs t (0, 0))) (size n : Nat) (hn : cs.size = n * size) : Rd w size (some ⟨g, 0, none⟩) n cs.toList :=
  ⟨by simpa using hn, fun _ => ⟨_, rfl, fun j u hu => by
    rw [add_zero_block, cell_of_row w g j cs t (0, 0) h]
    simpa using hu⟩⟩

theorem Rd.new (w : World) (cs : Array Value) (t : TypeId) (size n : Nat) (hn : cs.size = n * size) : Rd (w.alloc (.cells cs t)) size (some ⟨w.heap.size, 0, none⟩) n cs.toList :=
  Rd.of_block (heap_alloc_new w _) size n hn

theorem Rd.grown {w w' : World} {size n : Nat} {A : Option Addr} {xs : List Value} {r : Option Nat} (h : Rd w size A n xs) (hg : w.grownBy w' r) (hA : ∀ ad, A = some ad → some ad.block ≠ r) : Rd w' size A n xs :=
  ⟨h.1, fun hn => by
    obtain ⟨ad, e, hc⟩ := h.2 hn
    refine ⟨ad, e, fun j u hu => ?_⟩
    have h1 := hc j u hu
    have h2 := cell_lt h1
    rw [add_block] at h2
    exact (World.cell?_of_block (by rw [add_block]; exact hg.block _ h2 (hA ad e))).trans h1⟩

theorem own_form {w : World} {base : Nat} {e : TypeId} {size n : Nat} {v : Value} {xs : List Value} (h : w.ownsRow base e size v n xs) :
    ∃ A c, v = .slice A n c ∧ Rd w size A n xs ∧ ∀ g, v.ownBlock = some g → base ≤ g ∧ g < w.heap.size := by
  obtain ⟨hl, ⟨rfl, rfl⟩ | ⟨g, cap, cur, rfl, hb, hh, hnc, _, hsz, ht⟩⟩ := h
  · exact ⟨none, 0, rfl, ⟨hl, fun h0 => absurd h0 (by omega)⟩, fun g h => by cases h⟩
  · refine ⟨_, cap, rfl, ⟨hl, fun _ => ⟨_, rfl, fun j u hu => ?_⟩⟩, fun g' h => ?_⟩
    · rw [add_zero_block, cell_of_row w g j cur e (0, 0) hh]
      rw [← ht] at hu
      rw [List.getElem?_take] at hu
      split at hu
      · simpa using hu
      · cases hu
    · injection h with h
      subst h
      exact ⟨hb, (Array.getElem?_eq_some_iff.1 hh).1⟩

theorem grow_step {w3 wr w1 : World} {r vb : Option Nat} (h : w3.grownBy wr r) (h1 : wr.grownBy w1 vb) (hv : vb = r ∨ vb = none ∨ ∃ g, vb = some g ∧ w3.heap.size ≤ g) : w3.grownBy w1 r :=
  ⟨h1.os.trans h.os, h1.tape.trans h.tape, h1.output.trans h.output, Nat.le_trans h.size h1.size, fun k hk hne =>
    (h1.block k (Nat.lt_of_lt_of_le hk h.size) (by
      rcases hv with rfl | rfl | ⟨g, rfl, hg⟩
      · exact hne
      · simp
      · intro e; injection e with e; omega)).trans (h.block k hk hne)⟩

theorem grow_refl (w : World) (r : Option Nat) : w.grownBy w r := World.grownBy.refl w r

theorem grow_below {w3 wr w1 : World} {r : Option Nat} (h : w3.grownBy wr r) (hb : Below wr.heap.size wr w1) : w3.grownBy w1 r :=
  ⟨hb.os.trans h.os, hb.tape.trans h.tape, hb.output.trans h.output, Nat.le_trans h.size hb.size, fun k hk hne => (hb.block k (Nat.lt_of_lt_of_le hk h.size)).trans (h.block k hk hne)⟩

theorem grow_blk {w w' : World} {r : Option Nat} {g : Nat} {o : Obj} (h : w.grownBy w' r) (hg : w.heap[g]? = some o) (hne : some g ≠ r) : w'.heap[g]? = some o :=
  (h.block g (Array.getElem?_eq_some_iff.1 hg).1 hne).trans hg

theorem blk_below {w w' : World} {g : Nat} {o : Obj} (h : Below w.heap.size w w') (hg : w.heap[g]? = some o) : w'.heap[g]? = some o :=
  (h.block g (Array.getElem?_eq_some_iff.1 hg).1).trans hg

theorem blk_alloc {w : World} {g : Nat} {o : Obj} (hg : w.heap[g]? = some o) (o' : Obj) : (w.alloc o').heap[g]? = some o :=
  (Below.heap_alloc w o' g (Array.getElem?_eq_some_iff.1 hg).1).trans hg

theorem blk_cell {w : World} {g : Nat} {cs : Array Value} {t : TypeId} (h : w.heap[g]? = some (.cells cs t (0, 0))) (i : Nat) (v : Value) (hv : cs[i]? = some v) : w.cell? ⟨g, i, none⟩ = some v :=
  (cell_of_row w g i cs t (0, 0) h).trans hv

/-- 'Below B a ..' over an append into a row from B on. -/
theorem below_own {B : Nat} {a w w' : World} {v : Value} (h : Below B a w) (hs : B ≤ a.heap.size) (hg : w.grownBy w' v.ownBlock) (hv : ∀ g, v.ownBlock = some g → B ≤ g) : Below B a w' :=
  h.grown hg (Nat.le_trans hs h.size) (fun k e => hv k e)

theorem own_below {w w' : World} {base : Nat} {e : TypeId} {size n : Nat} {v : Value} {xs : List Value} (h : w.ownsRow base e size v n xs) (hb : Below w.heap.size w w') : w'.ownsRow base e size v n xs := by
  obtain ⟨hl, h1 | ⟨g, cap, cur, hv, hbg, hh, r⟩⟩ := h
  · exact ⟨hl, .inl h1⟩
  · exact ⟨hl, .inr ⟨g, cap, cur, hv, hbg, blk_below hb hh, r⟩⟩

theorem below_own2 {B : Nat} {w2 w3 wr : World} {r : Option Nat} (h : Below B w2 w3) (hg : w3.grownBy wr r) (hr : ∀ g, r = some g → B ≤ g) (hB : B ≤ w2.heap.size := by exact Nat.le_refl _) : Below B w2 wr :=
  h.grown hg (Nat.le_trans hB h.size) hr

theorem heap_alloc_at (w : World) (o : Obj) (g : Nat) (hg : g = w.heap.size) : (w.alloc o).heap[g]? = some o := by subst hg; exact heap_alloc_new w o

/-- The cells of numbers. -/
def intCells (l : List Int) : List Value := l.map (Value.int .i64)

/-- The slice value '.slice A n c' reads as the numbers l. -/
def Ints (w : World) (A : Option Addr) (n : Nat) (l : List Int) : Prop := n = l.length ∧ Rd w 1 A n (intCells l)

theorem Ints.below {w w' : World} {A : Option Addr} {n : Nat} {l : List Int} (h : Ints w A n l) (hb : Below w.heap.size w w') : Ints w' A n l := ⟨h.1, h.2.below hb⟩

theorem Ints.at_ {w : World} {A : Option Addr} {n k : Nat} {l : List Int} (h : Ints w A n l) (hk : k < n) :
    ∃ ad x, A = some ad ∧ l[k]? = some x ∧ w.cell? (ad.add k) = some (.int .i64 x) := by
  obtain ⟨e, hr⟩ := h
  obtain ⟨ad, hA, hc⟩ := hr.at_ hk
  have hl : l[k]? = some (l[k]'(by omega)) := List.getElem?_eq_getElem (by omega)
  obtain ⟨u0, a0, b0⟩ := hc 0 (by omega)
  rw [Nat.add_zero, Nat.mul_one] at a0 b0
  unfold intCells at a0
  rw [List.getElem?_map, hl] at a0
  simp at a0
  subst a0
  exact ⟨ad, _, hA, hl, b0⟩

theorem ret_i {x y : Int} (h : x = y) : Ending.returned (.int .i64 x) = .returned (.int .i64 y) := by rw [h]

theorem intCells_one (l : List Int) : ∀ u ∈ intCells l, u.oneCell' = true := by
  intro u hu
  obtain ⟨x, _, rfl⟩ := List.mem_map.1 hu
  rfl

theorem own_ints {w : World} {base : Nat} {v : Value} {n : Nat} {l : List Int} (h : w.ownsRow base 3 1 v n (intCells l)) (hn : n = l.length) : ∃ A c, v = .slice A n c ∧ Ints w A n l := by
  obtain ⟨A, c, e, hr, _⟩ := own_form h
  exact ⟨A, c, e, hn, hr⟩

theorem drop_any {α : Type} {p : α → Bool} {l : List α} {k : Nat} {x : α} (h : l[k]? = some x) : (l.drop k).any p = (p x || (l.drop (k + 1)).any p) := by
  obtain ⟨hk, e⟩ := List.getElem?_eq_some_iff.1 h
  rw [List.drop_eq_getElem_cons hk, e]
  rfl

theorem drop_all {α : Type} {p : α → Bool} {l : List α} {k : Nat} {x : α} (h : l[k]? = some x) : (l.drop k).all p = (p x && (l.drop (k + 1)).all p) := by
  obtain ⟨hk, e⟩ := List.getElem?_eq_some_iff.1 h
  rw [List.drop_eq_getElem_cons hk, e]
  rfl

theorem take_snoc {α : Type} {l : List α} {k : Nat} {x : α} (h : l[k]? = some x) : l.take (k + 1) = l.take k ++ [x] := by
  obtain ⟨hk, e⟩ := List.getElem?_eq_some_iff.1 h
  rw [List.take_succ_eq_append_getElem hk, e]

theorem below_drewN {B : Nat} {a w : World} (h : Below B a w) (n : Nat) : Below B a (w.drewN n) := ⟨h.os, h.tape, h.output, h.size, h.block⟩

theorem ret_b {x y : Bool} (h : x = y) : Ending.returned (.bool x) = .returned (.bool y) := by rw [h]

theorem ints_nil (w : World) : Ints w none 0 [] := ⟨rfl, rfl, fun h => absurd h (by omega)⟩

theorem intCells_app (l m : List Int) : intCells (l ++ m) = intCells l ++ intCells m := by simp [intCells]

/-- A world behind w: of what was there, all stands. -/
structure Beh (w : World) where
  val : World
  property : Below w.heap.size w val

instance (w : World) : Nonempty (Beh w) := ⟨⟨w, Below.refl _ _⟩⟩

theorem Beh.cell {w : World} {a : Addr} {v : Value} (h : w.cell? a = some v) : ∀ i : Beh w, i.val.cell? a = some v := fun i => (i.property.cell (cell_lt h)).trans h

theorem reg_beh {P : Program} {id : Nat} {Q : Exit → Act → World → Prop} {a : Act} {w : World} {l : List Oper} (hm : P.follows .mixedOrders = true) (hB : Region.lexB .any l.toArray = true)
    (h : wpQuiet P l.toArray (fun w' => ∃ i : Beh w, w' = i.val) (fun a' => ∀ w', (∃ i : Beh w, w' = i.val) → Q .normal a' w') l a) : (Code.region id l.toArray true).wp P Q a w :=
  wp_region_quiet (C := fun w' => ∃ i : Beh w, w' = i.val) hm hB ⟨⟨w.drew, (Below.refl _ _).drew⟩, rfl⟩ (by simpa using h)

theorem Beh.calls {P : Program} {f : FuncId} {args : Array Value} {w : World} {i : Beh w} {v : Value} (h : Calls P f args i.val fun e w' => e = .returned v ∧ Below i.val.heap.size i.val w') :
    Calls P f args i.val fun e w'' => e = .returned v ∧ ∃ j : Beh w, w'' = j.val :=
  h.mono fun _ w' ⟨he, hb⟩ => ⟨he, ⟨w', bel i.property hb⟩, rfl⟩

end Go.Proofs.YtippdjmpkafifaaGreat
namespace Go.Proofs.YtippdjmpkafifaaGreat
open Go.RowKit

theorem flat_len {α : Type} (f : α → List Value) (s : Nat) (hs : ∀ x, (f x).length = s) (l : List α) : (l.flatMap f).length = l.length * s := by
  induction l with
  | nil => simp
  | cons x l ih => rw [List.flatMap_cons, List.length_append, ih, hs, List.length_cons, Nat.add_mul]; omega

theorem flat_get {α : Type} (f : α → List Value) (s : Nat) (hs : ∀ x, (f x).length = s) (l : List α) : ∀ (k : Nat) (x : α), l[k]? = some x → ∀ j, j < s → (l.flatMap f)[k * s + j]? = (f x)[j]? := by
  induction l with
  | nil => intro k x h; simp at h
  | cons y l ih =>
    intro k x h j hj
    rw [List.flatMap_cons]
    cases k with
    | zero =>
      simp at h; subst h
      rw [Nat.zero_mul, Nat.zero_add, List.getElem?_append_left (by rw [hs]; exact hj)]
    | succ k =>
      have h1 := ih k x (by simpa using h) j hj
      rw [List.getElem?_append_right (by rw [hs, Nat.add_mul]; omega), hs, show (k + 1) * s + j - s = k * s + j by rw [Nat.add_mul]; omega]
      exact h1

/-- The slice value '.slice A n c' reads as the list l, each element by its cells. -/
def Lst {α : Type} (f : α → List Value) (s : Nat) (w : World) (A : Option Addr) (n : Nat) (l : List α) : Prop := n = l.length ∧ Rd w s A n (l.flatMap f)

theorem Lst.below {α : Type} {f : α → List Value} {s : Nat} {w w' : World} {A : Option Addr} {n : Nat} {l : List α} (h : Lst f s w A n l) (hb : Below w.heap.size w w') : Lst f s w' A n l := ⟨h.1, h.2.below hb⟩

theorem Lst.get {α : Type} {f : α → List Value} {s : Nat} (hs : ∀ x, (f x).length = s) {w : World} {A : Option Addr} {n k : Nat} {l : List α} (h : Lst f s w A n l) (hk : k < n) :
    ∃ ad x, A = some ad ∧ l[k]? = some x ∧ ∀ j u, j < s → (f x)[j]? = some u → w.cell? (ad.add (k * s + j)) = some u := by
  obtain ⟨e, hr⟩ := h
  obtain ⟨ad, hA, hc⟩ := hr.at_ hk
  have hl : l[k]? = some (l[k]'(by omega)) := List.getElem?_eq_getElem (by omega)
  refine ⟨ad, _, hA, hl, fun j u hj hu => ?_⟩
  obtain ⟨v, a, b⟩ := hc j hj
  rw [flat_get f s hs l k _ hl j hj, hu] at a
  injection a with a
  subst a; exact b

/-- A stop: a time and a node. -/
abbrev P := Int × Int
def pairCells (p : P) : List Value := [.int .i64 p.1, .int .i64 p.2]
abbrev Pairs (w : World) (A : Option Addr) (n : Nat) (l : List P) : Prop := Lst pairCells 2 w A n l

theorem Pairs.at_ {w : World} {A : Option Addr} {n k : Nat} {l : List P} (h : Pairs w A n l) (hk : k < n) :
    ∃ ad x, A = some ad ∧ l[k]? = some x ∧ w.cell? (ad.add (k * 2)) = some (.int .i64 x.1) ∧ w.cell? ⟨(ad.add (k * 2)).block, (ad.add (k * 2)).off + 1, none⟩ = some (.int .i64 x.2) := by
  obtain ⟨ad, x, hA, hl, hc⟩ := Lst.get (f := pairCells) (s := 2) (fun _ => rfl) h hk
  refine ⟨ad, x, hA, hl, hc 0 _ (by omega) rfl, ?_⟩
  rw [← add_next _ _ _ (by omega)]; exact hc 1 _ (by omega) rfl
end Go.Proofs.YtippdjmpkafifaaGreat
namespace Go.Proofs.YtippdjmpkafifaaGreat

/-- A road. -/
structure Ro where
  fr : Int
  tt : Int
  mins : Int
  lim : Int

namespace G
def carries (x : Ro) (k : Int) : Bool := (x.lim == -1) || decide (k ≤ x.lim)

/-- A way over roads that carry the weight k, from s: where it ends, its minutes, its roads. -/
inductive Walk (l : List Ro) (k s : Int) : Int → Int → Nat → Prop
  | nil : Walk l k s s 0 0
  | snoc (u t : Int) (e : Nat) (x : Ro) : Walk l k s u t e → x ∈ l → carries x k = true → x.fr = u → Walk l k s x.tt (t + x.mins) (e + 1)

/-- Roads of a network of n nodes. -/
def Fine (n : Int) (l : List Ro) : Prop := ∀ x ∈ l, (0 ≤ x.fr ∧ x.fr < n) ∧ (0 ≤ x.tt ∧ x.tt < n) ∧ 1 ≤ x.mins

/-- The list's entry at a node. -/
def at_ (out : List Int) (v : Int) : Int := (out[v.toNat]?).getD (-1)

/-- The least minutes from s, or -1. -/
def Dist (n : Nat) (l : List Ro) (k s : Int) (out : List Int) : Prop :=
  out.length = n ∧ ∀ v : Int, 0 ≤ v → v < n → (at_ out v = -1 ∧ ∀ t e, ¬ Walk l k s v t e) ∨ (0 ≤ at_ out v ∧ (∃ e, Walk l k s v (at_ out v) e) ∧ ∀ t e, Walk l k s v t e → at_ out v ≤ t)

theorem Walk.pos {n : Int} {l : List Ro} {k s v t : Int} {e : Nat} (hf : Fine n l) (h : Walk l k s v t e) : (e : Int) ≤ t := by
  induction h with
  | nil => simp
  | snoc u t e x _ hx _ _ ih => have := (hf x hx).2.2; omega

theorem Walk.node {n : Int} {l : List Ro} {k s v t : Int} {e : Nat} (hf : Fine n l) (hs : 0 ≤ s ∧ s < n) (h : Walk l k s v t e) : 0 ≤ v ∧ v < n := by
  cases h with
  | nil => exact hs
  | snoc u t e x _ hx _ _ => exact (hf x hx).2.1

theorem Dist.eq {n : Nat} {l : List Ro} {k s : Int} {a b : List Int} (ha : Dist n l k s a) (hb : Dist n l k s b) : a = b := by
  apply List.ext_getElem?
  intro i
  by_cases hi : i < n
  · have h1 : a[i]? = some (a[i]'(by rw [ha.1]; exact hi)) := List.getElem?_eq_getElem _
    have h2 : b[i]? = some (b[i]'(by rw [hb.1]; exact hi)) := List.getElem?_eq_getElem _
    have e1 : at_ a (i : Int) = a[i]'(by rw [ha.1]; exact hi) := by unfold at_; rw [Int.toNat_natCast, h1]; rfl
    have e2 : at_ b (i : Int) = b[i]'(by rw [hb.1]; exact hi) := by unfold at_; rw [Int.toNat_natCast, h2]; rfl
    have ga := ha.2 i (by omega) (by omega)
    have gb := hb.2 i (by omega) (by omega)
    rw [e1] at ga
    rw [e2] at gb
    rw [h1, h2]
    congr 1
    rcases ga with ⟨a1, a2⟩ | ⟨a1, ⟨ea, a2⟩, a3⟩
    · rcases gb with ⟨b1, _⟩ | ⟨_, ⟨eb, b2⟩, _⟩
      · rw [a1, b1]
      · exact absurd b2 (a2 _ _)
    · rcases gb with ⟨_, b2⟩ | ⟨_, ⟨eb, b2⟩, b3⟩
      · exact absurd a2 (b2 _ _)
      · have := a3 _ _ b2
        have := b3 _ _ a2
        omega
  · rw [List.getElem?_eq_none (by rw [ha.1]; omega), List.getElem?_eq_none (by rw [hb.1]; omega)]

theorem at_set {out : List Int} {v u t : Int} (hv : 0 ≤ v ∧ v < out.length) (hu : 0 ≤ u) : at_ (out.set v.toNat t) u = if u = v then t else at_ out u := by
  unfold at_
  by_cases h : u = v
  · subst h
    rw [if_pos rfl, List.getElem?_set_self (by omega)]; rfl
  · rw [if_neg h, List.getElem?_set_ne (by omega)]

/-- The search by the earliest stop: what holds ahead of each round. -/
structure Inv (n : Nat) (l : List Ro) (k s : Int) (out : List Int) (q : List (Int × Int)) : Prop where
  len : out.length = n
  done : ∀ v, 0 ≤ v → at_ out v ≠ -1 → 0 ≤ at_ out v ∧ (∃ e, Walk l k s v (at_ out v) e) ∧ ∀ t e, Walk l k s v t e → at_ out v ≤ t
  que : ∀ p ∈ q, (0 ≤ p.2 ∧ p.2 < n) ∧ ∃ e, Walk l k s p.2 p.1 e
  start : at_ out s ≠ -1 ∨ (0, s) ∈ q
  next : ∀ x ∈ l, carries x k = true → at_ out x.fr ≠ -1 → at_ out x.tt ≠ -1 ∨ (at_ out x.fr + x.mins, x.tt) ∈ q

theorem Inv.exit {n : Nat} {l : List Ro} {k s : Int} {out : List Int} {q : List (Int × Int)} (hf : Fine n l) (hs : 0 ≤ s ∧ s < n) (h : Inv n l k s out q) {v t : Int} {e : Nat} (hw : Walk l k s v t e) : at_ out v = -1 → ∃ p ∈ q, p.1 ≤ t := by
  induction hw with
  | nil =>
    intro h0
    rcases h.start with h1 | h1
    · exact absurd h0 h1
    · exact ⟨_, h1, Int.le_refl _⟩
  | snoc u t e x hu hx hc hxu ih =>
    intro h0
    have hm := (hf x hx).2.2
    by_cases hd : at_ out u = -1
    · obtain ⟨p, hp, hle⟩ := ih hd
      exact ⟨p, hp, by omega⟩
    · have hu0 := hu.node hf hs
      have h2 := (h.done u hu0.1 hd).2.2 _ _ hu
      rcases h.next x hx hc (by rw [hxu]; exact hd) with h3 | h3
      · exact absurd h0 h3
      · rw [hxu] at h3
        exact ⟨_, h3, by simp only; omega⟩

theorem Inv.first {n : Nat} {l : List Ro} {k s : Int} (hs : 0 ≤ s ∧ s < n) : Inv n l k s (List.replicate n (-1)) [(0, s)] := by
  have h1 : ∀ v : Int, at_ (List.replicate n (-1)) v = -1 := by
    intro v
    unfold at_
    rw [List.getElem?_replicate]
    split <;> rfl
  refine ⟨by simp, fun v _ h => absurd (h1 v) h, fun p hp => ?_, .inr List.mem_cons_self, fun x _ _ h => absurd (h1 _) h⟩
  simp at hp
  subst hp
  exact ⟨hs, 0, Walk.nil⟩

/-- A stop at a node that is done is dropped. -/
theorem Inv.drop {n : Nat} {l : List Ro} {k s : Int} {out : List Int} {q q' : List (Int × Int)} {t v : Int} (h : Inv n l k s out q) (hp : q.Perm ((t, v) :: q')) (hd : at_ out v ≠ -1) : Inv n l k s out q' := by
  have mem : ∀ p, p ∈ q → p = (t, v) ∨ p ∈ q' := fun p hq => List.mem_cons.1 (hp.mem_iff.1 hq)
  refine ⟨h.len, h.done, fun p hq => h.que p (hp.mem_iff.2 (List.mem_cons_of_mem _ hq)), ?_, fun x hx hc hx1 => ?_⟩
  · rcases h.start with h1 | h1
    · exact .inl h1
    · rcases mem _ h1 with h2 | h2
      · injection h2 with _ h2
        exact .inl (h2 ▸ hd)
      · exact .inr h2
  · rcases h.next x hx hc hx1 with h1 | h1
    · exact .inl h1
    · rcases mem _ h1 with h2 | h2
      · injection h2 with _ h2
        exact .inl (by rw [h2]; exact hd)
      · exact .inr h2

/-- The earliest stop, at a node that is not done: the node is done, its roads are followed. -/
theorem Inv.take {n : Nat} {l : List Ro} {k s : Int} {out : List Int} {q q' q2 : List (Int × Int)} {t v : Int} (hf : Fine n l) (hs : 0 ≤ s ∧ s < n) (h : Inv n l k s out q) (hp : q.Perm ((t, v) :: q')) (hd : at_ out v = -1)
    (hmin : ∀ p ∈ q, t ≤ p.1) (hq2 : ∀ p, p ∈ q2 ↔ (p ∈ q' ∨ ∃ x ∈ l, carries x k = true ∧ x.fr = v ∧ p = (t + x.mins, x.tt))) : Inv n l k s (out.set v.toNat t) q2 := by
  have mem : ∀ p, p ∈ q → p = (t, v) ∨ p ∈ q' := fun p hq => List.mem_cons.1 (hp.mem_iff.1 hq)
  obtain ⟨hv, ev, hwv⟩ := h.que (t, v) (hp.mem_iff.2 List.mem_cons_self)
  simp only at hv hwv
  have hvl : 0 ≤ v ∧ v < out.length := by rw [h.len]; exact hv
  have ht := hwv.pos hf
  have hbest : ∀ t' e', Walk l k s v t' e' → t ≤ t' := by
    intro t' e' hw
    obtain ⟨p, hpq, hle⟩ := h.exit hf hs hw hd
    have := hmin p hpq
    omega
  refine ⟨by rw [List.length_set]; exact h.len, ?_, ?_, ?_, ?_⟩
  · intro u hu hu1
    rw [at_set hvl hu] at hu1 ⊢
    by_cases e : u = v
    · subst e
      rw [if_pos rfl]
      exact ⟨by omega, ⟨ev, hwv⟩, hbest⟩
    · rw [if_neg e] at hu1 ⊢
      exact h.done u hu hu1
  · intro p hpq
    rcases (hq2 p).1 hpq with h1 | ⟨x, hx, hc, hxv, rfl⟩
    · exact h.que p (hp.mem_iff.2 (List.mem_cons_of_mem _ h1))
    · exact ⟨(hf x hx).2.1, ev + 1, Walk.snoc v t ev x hwv hx hc hxv⟩
  · rw [at_set hvl hs.1]
    by_cases e : s = v
    · rw [if_pos e]; exact .inl (by omega)
    · rw [if_neg e]
      rcases h.start with h1 | h1
      · exact .inl h1
      · rcases mem _ h1 with h2 | h2
        · injection h2 with _ h2
          exact absurd h2 e
        · exact .inr ((hq2 _).2 (.inl h2))
  · intro x hx hc
    rw [at_set hvl (hf x hx).1.1, at_set hvl (hf x hx).2.1.1]
    by_cases e2 : x.tt = v
    · intro _
      rw [if_pos e2]
      exact .inl (by omega)
    · rw [if_neg e2]
      by_cases e1 : x.fr = v
      · rw [if_pos e1]
        intro _
        exact .inr ((hq2 _).2 (.inr ⟨x, hx, hc, e1, rfl⟩))
      · rw [if_neg e1]
        intro hx1
        rcases h.next x hx hc hx1 with h1 | h1
        · exact .inl h1
        · rcases mem _ h1 with h2 | h2
          · injection h2 with _ h2
            exact absurd h2 e2
          · exact .inr ((hq2 _).2 (.inl h2))

/-- The queue is empty: the least minutes. -/
theorem Inv.dist {n : Nat} {l : List Ro} {k s : Int} {out : List Int} (hf : Fine n l) (hs : 0 ≤ s ∧ s < n) (h : Inv n l k s out []) : Dist n l k s out := by
  refine ⟨h.len, fun v h0 _ => ?_⟩
  by_cases e : at_ out v = -1
  · refine .inl ⟨e, fun t e' hw => ?_⟩
    obtain ⟨p, hp, _⟩ := h.exit hf hs hw e
    simp at hp
  · exact .inr (h.done v h0 e)

/-! ### Round by round -/

/-- One road is looked at. -/
def step (k : Int) (out : List Int) (x : Ro) : List Int :=
  if (carries x k && (decide (0 ≤ at_ out x.fr) && (decide (at_ out x.tt < 0) || decide (at_ out x.fr + x.mins < at_ out x.tt)))) = true then out.set x.tt.toNat (at_ out x.fr + x.mins) else out
def round (k : Int) (out : List Int) : List Ro → List Int
  | [] => out
  | x :: l => round k (step k out x) l
def rounds (k : Int) (l : List Ro) : Nat → List Int → List Int
  | 0, out => out
  | r + 1, out => rounds k l r (round k out l)

/-- Every entry is a way's minutes, or -1; ways of at most r roads are not shorter. -/
structure Upto (n : Nat) (l : List Ro) (k s : Int) (r : Nat) (out : List Int) : Prop where
  len : out.length = n
  walk : ∀ v, 0 ≤ v → at_ out v = -1 ∨ (0 ≤ at_ out v ∧ ∃ e, Walk l k s v (at_ out v) e)
  best : ∀ v t e, Walk l k s v t e → e ≤ r → 0 ≤ at_ out v ∧ at_ out v ≤ t

/-- Nothing gets worse. -/
def Le (a b : List Int) : Prop := a.length = b.length ∧ ∀ v, 0 ≤ v → 0 ≤ at_ a v → 0 ≤ at_ b v ∧ at_ b v ≤ at_ a v

theorem Le.refl (a : List Int) : Le a a := ⟨rfl, fun _ _ h => ⟨h, Int.le_refl _⟩⟩
theorem Le.trans {a b c : List Int} (h : Le a b) (h2 : Le b c) : Le a c := ⟨h.1.trans h2.1, fun v hv h0 => by
  obtain ⟨g1, g2⟩ := h.2 v hv h0
  obtain ⟨g3, g4⟩ := h2.2 v hv g1
  exact ⟨g3, by omega⟩⟩

theorem step_le {n : Nat} {l : List Ro} {k : Int} {out : List Int} {x : Ro} (hf : Fine n l) (hx : x ∈ l) (hl : out.length = n) : Le out (step k out x) := by
  have f := hf x hx
  unfold step
  split
  · rename_i h
    simp only [Bool.and_eq_true, Bool.or_eq_true, decide_eq_true_eq] at h
    refine ⟨by rw [List.length_set], fun v hv h0 => ?_⟩
    rw [at_set (by rw [hl]; exact f.2.1) hv]
    by_cases e : v = x.tt
    · subst e; rw [if_pos rfl]; omega
    · rw [if_neg e]; exact ⟨h0, Int.le_refl _⟩
  · exact Le.refl _

theorem step_walk {n : Nat} {l : List Ro} {k s : Int} {out : List Int} {x : Ro} (hf : Fine n l) (hx : x ∈ l) (hl : out.length = n) (h : ∀ v, 0 ≤ v → at_ out v = -1 ∨ (0 ≤ at_ out v ∧ ∃ e, Walk l k s v (at_ out v) e)) :
    ∀ v, 0 ≤ v → at_ (step k out x) v = -1 ∨ (0 ≤ at_ (step k out x) v ∧ ∃ e, Walk l k s v (at_ (step k out x) v) e) := by
  have f := hf x hx
  intro v hv
  unfold step
  split
  · rename_i hc
    simp only [Bool.and_eq_true, Bool.or_eq_true, decide_eq_true_eq] at hc
    rw [at_set (by rw [hl]; exact f.2.1) hv]
    by_cases e : v = x.tt
    · subst e
      rw [if_pos rfl]
      rcases h x.fr f.1.1 with h1 | ⟨h1, e1, h2⟩
      · omega
      · exact .inr ⟨by omega, e1 + 1, Walk.snoc _ _ _ x h2 hx hc.1 rfl⟩
    · rw [if_neg e]; exact h v hv
  · exact h v hv

theorem step_best {n : Nat} {l : List Ro} {k : Int} {out : List Int} {x : Ro} (hf : Fine n l) (hx : x ∈ l) (hl : out.length = n) (hc : carries x k = true) (h0 : 0 ≤ at_ out x.fr) : 0 ≤ at_ (step k out x) x.tt ∧ at_ (step k out x) x.tt ≤ at_ out x.fr + x.mins := by
  have f := hf x hx
  unfold step
  split
  · rw [at_set (by rw [hl]; exact f.2.1) f.2.1.1, if_pos rfl]
    omega
  · rename_i h
    simp only [Bool.and_eq_true, Bool.or_eq_true, decide_eq_true_eq, hc, true_and, not_and, not_or] at h
    have := h h0
    omega

theorem round_all {n : Nat} {l0 : List Ro} {k s : Int} (hf : Fine n l0) : ∀ (l : List Ro) (out : List Int), (∀ x ∈ l, x ∈ l0) → out.length = n → (∀ v, 0 ≤ v → at_ out v = -1 ∨ (0 ≤ at_ out v ∧ ∃ e, Walk l0 k s v (at_ out v) e)) →
    Le out (round k out l) ∧ (∀ v, 0 ≤ v → at_ (round k out l) v = -1 ∨ (0 ≤ at_ (round k out l) v ∧ ∃ e, Walk l0 k s v (at_ (round k out l) v) e)) ∧
      ∀ x ∈ l, carries x k = true → 0 ≤ at_ out x.fr → 0 ≤ at_ (round k out l) x.tt ∧ at_ (round k out l) x.tt ≤ at_ out x.fr + x.mins := by
  intro l
  induction l with
  | nil => intro out _ _ h; exact ⟨Le.refl _, h, fun x hx => by simp at hx⟩
  | cons y l ih =>
    intro out hm hl h
    have hy := hm y List.mem_cons_self
    have s1 := step_le (k := k) hf hy hl
    obtain ⟨g1, g2, g3⟩ := ih (step k out y) (fun x hx => hm x (List.mem_cons_of_mem _ hx)) (by rw [← s1.1]; exact hl) (step_walk hf hy hl h)
    refine ⟨s1.trans g1, g2, fun x hx hc h0 => ?_⟩
    have f := hf x (hm x hx)
    rcases List.mem_cons.1 hx with rfl | hx
    · obtain ⟨b1, b2⟩ := step_best hf hy hl hc h0
      obtain ⟨c1, c2⟩ := g1.2 _ f.2.1.1 b1
      exact ⟨c1, by show at_ (round k (step k out x) l) x.tt ≤ _; omega⟩
    · obtain ⟨b1, b2⟩ := s1.2 _ f.1.1 h0
      obtain ⟨c1, c2⟩ := g3 x hx hc b1
      exact ⟨c1, by show at_ (round k (step k out y) l) x.tt ≤ _; omega⟩

theorem Upto.round {n : Nat} {l : List Ro} {k s : Int} {r : Nat} {out : List Int} (hf : Fine n l) (hs : 0 ≤ s ∧ s < n) (h : Upto n l k s r out) : Upto n l k s (r + 1) (round k out l) := by
  obtain ⟨g1, g2, g3⟩ := round_all hf l out (fun _ hx => hx) h.len h.walk
  refine ⟨by rw [← g1.1]; exact h.len, g2, fun v t e hw he => ?_⟩
  cases hw with
  | nil =>
    obtain ⟨b1, b2⟩ := h.best s 0 0 Walk.nil (by omega)
    obtain ⟨c1, c2⟩ := g1.2 s hs.1 b1
    exact ⟨c1, by omega⟩
  | snoc u t e x hu hx hc hxu =>
    subst hxu
    obtain ⟨b1, b2⟩ := h.best _ _ _ hu (by omega)
    obtain ⟨c1, c2⟩ := g3 x hx hc b1
    exact ⟨c1, by omega⟩

theorem Upto.rounds {n : Nat} {l : List Ro} {k s : Int} (hf : Fine n l) (hs : 0 ≤ s ∧ s < n) : ∀ (m r : Nat) (out : List Int), Upto n l k s r out → Upto n l k s (r + m) (rounds k l m out) := by
  intro m
  induction m with
  | zero => intro r out h; exact h
  | succ m ih =>
    intro r out h
    have := ih (r + 1) _ (h.round hf hs)
    rwa [show r + 1 + m = r + (m + 1) by omega] at this

theorem Upto.first {n : Nat} {l : List Ro} {k s : Int} (hs : 0 ≤ s ∧ s < n) : Upto n l k s 0 ((List.replicate n (-1)).set s.toNat 0) := by
  have hl : (List.replicate n (-1 : Int)).length = n := by simp
  have h1 : ∀ v : Int, at_ (List.replicate n (-1)) v = -1 := by
    intro v
    unfold at_
    rw [List.getElem?_replicate]
    split <;> rfl
  refine ⟨by simp, fun v hv => ?_, fun v t e hw he => ?_⟩
  · rw [at_set (by rw [hl]; exact hs) hv]
    by_cases e : v = s
    · subst e; rw [if_pos rfl]; exact .inr ⟨Int.le_refl _, 0, Walk.nil⟩
    · rw [if_neg e]; exact .inl (h1 v)
  · cases hw with
    | nil => rw [at_set (by rw [hl]; exact hs) hs.1, if_pos rfl]; exact ⟨Int.le_refl _, Int.le_refl _⟩
    | snoc _ _ _ _ _ _ _ _ => omega

/-! ### A shortest way passes no node twice -/

/-- The nodes of a way, the last one first, no node twice. -/
inductive Once (l : List Ro) (k s : Int) : List Int → Int → Nat → Prop
  | nil : Once l k s [s] 0 0
  | snoc (u t : Int) (L : List Int) (e : Nat) (x : Ro) : Once l k s (u :: L) t e → x ∈ l → carries x k = true → x.fr = u → x.tt ∉ u :: L → Once l k s (x.tt :: u :: L) (t + x.mins) (e + 1)

theorem Once.walk {l : List Ro} {k s : Int} {L : List Int} {t : Int} {e : Nat} (h : Once l k s L t e) : ∃ v L', L = v :: L' ∧ Walk l k s v t e ∧ L.length = e + 1 ∧ L.Nodup := by
  induction h with
  | nil => exact ⟨s, [], rfl, Walk.nil, rfl, by simp⟩
  | snoc u t L e x _ hx hc hxu hno ih =>
    obtain ⟨v, L', e1, hw, hl, hd⟩ := ih
    injection e1 with e1 e2
    subst e1
    exact ⟨x.tt, u :: L, rfl, Walk.snoc _ _ _ x hw hx hc hxu, by simp at hl ⊢; omega, List.nodup_cons.2 ⟨hno, hd⟩⟩

theorem Once.back {n : Int} {l : List Ro} {k s : Int} {L : List Int} {t : Int} {e : Nat} (hf : Fine n l) (h : Once l k s L t e) : ∀ v ∈ L, ∃ L' t' e', Once l k s (v :: L') t' e' ∧ t' ≤ t := by
  induction h with
  | nil => intro v hv; simp at hv; subst hv; exact ⟨[], 0, 0, Once.nil, Int.le_refl _⟩
  | snoc u t L e x ho hx hc hxu hno ih =>
    intro v hv
    have := (hf x hx).2.2
    rcases List.mem_cons.1 hv with rfl | hv
    · exact ⟨u :: L, t + x.mins, e + 1, Once.snoc u t L e x ho hx hc hxu hno, Int.le_refl _⟩
    · obtain ⟨L', t', e', h1, h2⟩ := ih v hv
      exact ⟨L', t', e', h1, by omega⟩

theorem Walk.once {n : Int} {l : List Ro} {k s v t : Int} {e : Nat} (hf : Fine n l) (h : Walk l k s v t e) : ∃ L t' e', Once l k s (v :: L) t' e' ∧ t' ≤ t := by
  induction h with
  | nil => exact ⟨[], 0, 0, Once.nil, Int.le_refl _⟩
  | snoc u t e x _ hx hc hxu ih =>
    obtain ⟨L, t', e', ho, hle⟩ := ih
    have hm := (hf x hx).2.2
    by_cases hin : x.tt ∈ u :: L
    · obtain ⟨L2, t2, e2, h1, h2⟩ := ho.back hf _ hin
      exact ⟨L2, t2, e2, h1, by omega⟩
    · exact ⟨u :: L, t' + x.mins, e' + 1, Once.snoc u t' L e' x ho hx hc hxu hin, by omega⟩

theorem Once.nodes {n : Int} {l : List Ro} {k s : Int} {L : List Int} {t : Int} {e : Nat} (hf : Fine n l) (hs : 0 ≤ s ∧ s < n) (h : Once l k s L t e) : ∀ v ∈ L, 0 ≤ v ∧ v < n := by
  induction h with
  | nil => intro v hv; simp at hv; subst hv; exact hs
  | snoc u t L e x _ hx _ _ _ ih =>
    intro v hv
    rcases List.mem_cons.1 hv with rfl | hv
    · exact (hf x hx).2.1
    · exact ih v hv

theorem nodup_len : ∀ (n : Nat) (L : List Int), L.Nodup → (∀ v ∈ L, 0 ≤ v ∧ v < n) → L.length ≤ n := by
  intro n
  induction n with
  | zero =>
    intro L _ h
    cases L with
    | nil => exact Nat.le_refl _
    | cons a L => have := h a List.mem_cons_self; omega
  | succ n ih =>
    intro L hd h
    by_cases hin : (n : Int) ∈ L
    · have h1 := ih (L.erase n) (hd.erase _) (fun v hv => by
        have h2 := h v (List.mem_of_mem_erase hv)
        have h3 : v ≠ n := fun e => by subst e; exact (List.Nodup.mem_erase_iff hd).1 hv |>.1 rfl
        omega)
      rw [List.length_erase_of_mem hin] at h1
      omega
    · have := ih L hd (fun v hv => by
        have h2 := h v hv
        have h3 : v ≠ n := fun e => hin (e ▸ hv)
        omega)
      omega

/-- As many rounds as there are nodes. -/
theorem rounds_dist {n : Nat} {l : List Ro} {k s : Int} (hf : Fine n l) (hs : 0 ≤ s ∧ s < n) : Dist n l k s (rounds k l n ((List.replicate n (-1)).set s.toNat 0)) := by
  have h := Upto.rounds hf hs n 0 _ (Upto.first (l := l) (k := k) hs)
  rw [Nat.zero_add] at h
  have best : ∀ v t e, Walk l k s v t e → 0 ≤ at_ (rounds k l n ((List.replicate n (-1)).set s.toNat 0)) v ∧ at_ (rounds k l n ((List.replicate n (-1)).set s.toNat 0)) v ≤ t := by
    intro v t e hw
    obtain ⟨L, t', e', ho, hle⟩ := hw.once hf
    obtain ⟨v', L', e1, hw', hlen, hnd⟩ := ho.walk
    injection e1 with e1 _
    subst e1
    have := nodup_len n _ hnd (ho.nodes hf hs)
    obtain ⟨g1, g2⟩ := h.best _ _ _ hw' (by omega)
    exact ⟨g1, by omega⟩
  refine ⟨h.len, fun v h0 _ => ?_⟩
  rcases h.walk v h0 with h1 | ⟨h1, h2⟩
  · refine .inl ⟨h1, fun t e hw => ?_⟩
    have := (best v t e hw).1
    omega
  · exact .inr ⟨h1, h2, fun t e hw => (best v t e hw).2⟩
end G
end Go.Proofs.YtippdjmpkafifaaGreat
namespace Go.Proofs.YtippdjmpkafifaaGreat
open Go.RowKit

/-- The cells of windows. -/
def winCells : List (Int × Int) → List Value
  | [] => []
  | p :: l => .int .i64 p.1 :: .int .i64 p.2 :: winCells l

theorem winCells_len (l : List (Int × Int)) : (winCells l).length = l.length * 2 := by
  induction l with
  | nil => rfl
  | cons p l ih => simp [winCells, ih]; omega

theorem winCells_get (l : List (Int × Int)) : ∀ (k : Nat) (p : Int × Int), l[k]? = some p → (winCells l)[k * 2]? = some (.int .i64 p.1) ∧ (winCells l)[k * 2 + 1]? = some (.int .i64 p.2) := by
  induction l with
  | nil => intro k p h; simp at h
  | cons q l ih =>
    intro k p h
    cases k with
    | zero => simp at h; subst h; simp [winCells]
    | succ k =>
      have := ih k p (by simpa using h)
      rw [show (k + 1) * 2 = k * 2 + 1 + 1 by omega]
      simpa [winCells] using this

/-- The slice value '.slice A n c' reads as the windows l. -/
def Wins (w : World) (A : Option Addr) (n : Nat) (l : List (Int × Int)) : Prop := n = l.length ∧ Rd w 2 A n (winCells l)

theorem Wins.below {w w' : World} {A : Option Addr} {n : Nat} {l : List (Int × Int)} (h : Wins w A n l) (hb : Below w.heap.size w w') : Wins w' A n l := ⟨h.1, h.2.below hb⟩

theorem Wins.at_ {w : World} {A : Option Addr} {n k : Nat} {l : List (Int × Int)} (h : Wins w A n l) (hk : k < n) :
    ∃ ad o c, A = some ad ∧ l[k]? = some (o, c) ∧ w.cell? (ad.add (k * 2)) = some (.int .i64 o) ∧ w.cell? ⟨(ad.add (k * 2)).block, (ad.add (k * 2)).off + 1, none⟩ = some (.int .i64 c) := by
  obtain ⟨e, hr⟩ := h
  obtain ⟨ad, hA, hc⟩ := hr.at_ hk
  have hl : l[k]? = some (l[k]'(by omega)) := List.getElem?_eq_getElem (by omega)
  obtain ⟨g1, g2⟩ := winCells_get l k _ hl
  obtain ⟨u0, a0, b0⟩ := hc 0 (by omega)
  obtain ⟨u1, a1, b1⟩ := hc 1 (by omega)
  rw [Nat.add_zero] at a0 b0
  rw [add_next _ _ _ (by omega)] at b1
  rw [g1] at a0; rw [g2] at a1
  injection a0 with a0; injection a1 with a1
  subst a0 a1
  exact ⟨ad, _, _, hA, hl, b0, b1⟩
end Go.Proofs.YtippdjmpkafifaaGreat
namespace Go.Proofs.YtippdjmpkafifaaGreat
namespace H

def rightFrom (b : Int) : List (Int × Int) → Bool
  | [] => true
  | p :: l => !(decide (p.1 ≤ b) || decide (p.1 < 0) || decide (p.2 < p.1) || decide (1000000 < p.2)) && rightFrom p.2 l

def right (l : List (Int × Int)) : Bool := rightFrom (-1) l && decide (l.length ≤ 6)

theorem rightFrom_drop {b o c : Int} {l : List (Int × Int)} {k : Nat} (h : l[k]? = some (o, c)) :
    rightFrom b (l.drop k) = (!(decide (o ≤ b) || decide (o < 0) || decide (c < o) || decide (1000000 < c)) && rightFrom c (l.drop (k + 1))) := by
  obtain ⟨hk, e⟩ := List.getElem?_eq_some_iff.1 h
  rw [List.drop_eq_getElem_cons hk, e]
  rfl

def minute (t : Int) : Bool := decide (0 ≤ t) && decide (t ≤ 1000000)

def all (l : List (Int × Int)) : List (Int × Int) := if l.length = 0 then [(0, 1000000)] else l

def fitGo (t s : Int) : List (Int × Int) → Int × Bool
  | [] => (0, false)
  | p :: l => if max t p.1 + s ≤ p.2 then (max t p.1, true) else fitGo t s l

def fit (l : List (Int × Int)) (t s : Int) : Int × Bool := if right l && minute t && minute s then fitGo t s (all l) else (0, false)

def lastGo (y s : Int) : List (Int × Int) → Int × Bool
  | [] => (0, false)
  | p :: l => if p.1 ≤ min y p.2 - s then (min y p.2 - s, true) else lastGo y s l

def last (l : List (Int × Int)) (y s : Int) : Int × Bool := if right l && minute y && minute s then lastGo y s (all l).reverse else (0, false)

def opens (t : Int) (p : Int × Int) : Bool := decide (p.1 ≤ t) && decide (t ≤ p.2)

def isOpen (l : List (Int × Int)) (t : Int) : Bool := minute t && right l && (all l).any (opens t)

theorem rightFrom_bd {b : Int} {l : List (Int × Int)} (h : rightFrom b l = true) : ∀ p ∈ l, 0 ≤ p.1 ∧ p.1 ≤ p.2 ∧ p.2 ≤ 1000000 ∧ b < p.1 := by
  induction l generalizing b with
  | nil => intro p hp; cases hp
  | cons q l ih =>
    simp only [rightFrom, Bool.and_eq_true, Bool.not_eq_true', Bool.or_eq_false_iff, decide_eq_false_iff_not] at h
    obtain ⟨⟨⟨⟨h1, h2⟩, h3⟩, h4⟩, h5⟩ := h
    intro p hp
    rcases List.mem_cons.1 hp with rfl | hp
    · omega
    · have := ih h5 p hp; omega

theorem right_bd {l : List (Int × Int)} (h : right l = true) : l.length ≤ 6 ∧ ∀ p ∈ l, 0 ≤ p.1 ∧ p.1 ≤ p.2 ∧ p.2 ≤ 1000000 := by
  simp only [right, Bool.and_eq_true, decide_eq_true_eq] at h
  exact ⟨h.2, fun p hp => by have := rightFrom_bd h.1 p hp; omega⟩

theorem all_bd {l : List (Int × Int)} (h : right l = true) : (all l).length ≤ 6 ∧ ∀ p ∈ all l, 0 ≤ p.1 ∧ p.1 ≤ p.2 ∧ p.2 ≤ 1000000 := by
  obtain ⟨h1, h2⟩ := right_bd h
  unfold all; split
  · refine ⟨by simp, fun p hp => ?_⟩
    rw [List.mem_singleton] at hp
    subst hp; simp
  · exact ⟨h1, h2⟩

theorem fitGo_drop {t s o c : Int} {l : List (Int × Int)} {k : Nat} (h : l[k]? = some (o, c)) :
    fitGo t s (l.drop k) = if max t o + s ≤ c then (max t o, true) else fitGo t s (l.drop (k + 1)) := by
  obtain ⟨hk, e⟩ := List.getElem?_eq_some_iff.1 h
  rw [List.drop_eq_getElem_cons hk, e]
  rfl

/-- The common part of two windows. -/
def inter (x y : Int × Int) : Option (Int × Int) := if max x.1 y.1 ≤ min x.2 y.2 then some (max x.1 y.1, min x.2 y.2) else none

def raw (a b : List (Int × Int)) : List (Int × Int) := (all a).flatMap fun x => (all b).filterMap (inter x)

def both (a b : List (Int × Int)) : List (Int × Int) × Bool :=
  if right a && right b then
    if a.length = 0 ∧ b.length = 0 then ([], true)
    else if (raw a b).length = 0 ∨ 6 < (raw a b).length then ([], false) else (raw a b, true)
  else ([], false)

end H
end Go.Proofs.YtippdjmpkafifaaGreat
namespace Go.Proofs.YtippdjmpkafifaaGreat
open Go.RowKit

set_option maxHeartbeats 1000000 in
theorem hright_any (A : Option Addr) (n c : Nat) (l : List (Int × Int)) (w : World) (hl : Wins w A n l) (hn : n ≤ 1000000000) :
    Calls Tryz.prog 168 #[.slice A n c] w fun e w' => e = .returned (.bool (H.right l)) ∧ Below w.heap.size w w' := by
  go_enter Tryz.func168, Tryz.ntmps168
  go_wp2
  go_loopw [3, 8] (fun vb vi wr => ∃ (b : Int) (k : Nat), vb = .int .i64 b ∧ vi = .int .i64 k ∧ k ≤ n ∧ Hid (H.rightFrom (-1) l = H.rightFrom b (l.drop k)) ∧ Below w.heap.size w wr) (fun _ vi _ => n - (intOf vi).toNat)
  case atStart => exact ⟨-1, 0, rfl, rfl, by omega, by show _ = _; rw [List.drop_zero], Below.refl _ _⟩
  case round =>
    obtain ⟨b, k, rfl, rfl, hk, hr, hb⟩ := hrel
    by_cases hlt : k < n
    · obtain ⟨ad, o, d, rfl, hg, c0, c1⟩ := (hl.below hb).at_ hlt
      have HS := Lib.hid (H.rightFrom_drop (b := b) hg)
      clear hg
      go_wp2
      all_goals first
        | (go_ret
           refine ⟨ret_b (Eq.symm ?_), hb.alloc hb.size _⟩
           unfold H.right
           rw [hr.out, HS.out]
           simp
           omega)
        | (go_roundw
           case rel => exact ⟨d, k + 1, rfl, by go_num, by omega, by show _ = _; rw [hr.out, HS.out]; simp; omega, hb.alloc hb.size _⟩
           case measure => simp [intOf]; omega)
    · obtain rfl : k = n := by omega
      have hd : l.drop k = [] := List.drop_eq_nil_of_le (by rw [← hl.1]; exact Nat.le_refl _)
      have HD := Lib.hid hd
      clear hd
      go_wp2
      go_ret
      refine ⟨ret_b (Eq.symm ?_), hb⟩
      unfold H.right
      rw [hr.out, HD.out, ← hl.1]
      simp [H.rightFrom]
      omega
end Go.Proofs.YtippdjmpkafifaaGreat
namespace Go.Proofs.YtippdjmpkafifaaGreat
open Go.RowKit

set_option maxHeartbeats 400000 in
theorem minute_any (t : Int) (w : World) : Calls Tryz.prog 170 #[.int .i64 t] w fun e w' => e = .returned (.bool (H.minute t)) ∧ w = w' := by
  go_enter Tryz.func170, Tryz.ntmps170
  go_wp2
  all_goals (go_ret; refine ⟨ret_b (Eq.symm ?_), rfl⟩; unfold H.minute; simp; try omega)

theorem ret_ib {a : Int} {x : Bool} {p : Int × Bool} (h : p = (a, x)) : Ending.returned (.tuple #[.int .i64 a, .bool x]) = .returned (.tuple #[.int .i64 p.1, .bool p.2]) := by rw [h]

theorem all_wins {w w' : World} {A : Option Addr} {n : Nat} {l : List (Int × Int)} (h : Wins w A n l) (hb : Below w.heap.size w w') (h0 : n ≠ 0) : Wins w' A n (H.all l) := by
  have : H.all l = l := by unfold H.all; rw [if_neg (by rw [← h.1]; exact h0)]
  rw [this]; exact h.below hb

set_option maxHeartbeats 400000 in
theorem all_any (A : Option Addr) (n c : Nat) (l : List (Int × Int)) (w : World) (hl : Wins w A n l) (hn : n ≤ 1000000000) :
    Calls Tryz.prog 171 #[.slice A n c] w fun e w' => ∃ A' n' c', e = .returned (.slice A' n' c') ∧ Wins w' A' n' (H.all l) ∧ Below w.heap.size w w' := by
  by_cases h0 : n = 0
  · subst h0
    have e : H.all l = [(0, 1000000)] := by unfold H.all; rw [if_pos hl.1.symm]
    rw [e]
    clear e
    go_enter Tryz.func171, Tryz.ntmps171
    go_wp2
    go_ret
    exact ⟨_, _, _, rfl, ⟨rfl, Rd.new w _ 158 2 1 rfl⟩, (Below.refl _ _).alloc (Nat.le_refl _) _⟩
  · have e0 : ((n : Int) == 0) = false := by simp; omega
    go_enter Tryz.func171, Tryz.ntmps171
    go_wp2
    go_ret
    exact ⟨A, n, c, rfl, all_wins hl (Below.refl _ _) h0, Below.refl _ _⟩

set_option maxHeartbeats 1000000 in
theorem fit_yes (A : Option Addr) (n c : Nat) (l : List (Int × Int)) (t s : Int) (w : World) (hl : Wins w A n l) (hr : H.right l = true) (ht : 0 ≤ t ∧ t ≤ 1000000) (hs : 0 ≤ s ∧ s ≤ 1000000) :
    Calls Tryz.prog 122 #[.slice A n c, .int .i64 t, .int .i64 s] w fun e w' => e = .returned (.tuple #[.int .i64 (H.fitGo t s (H.all l)).1, .bool (H.fitGo t s (H.all l)).2]) ∧ Below w.heap.size w w' := by
  have hn : n ≤ 6 := by have := (H.right_bd hr).1; rw [hl.1]; exact this
  have hm1 : H.minute t = true := by simp [H.minute]; omega
  have hm2 : H.minute s = true := by simp [H.minute]; omega
  have hbd := (H.all_bd hr).2
  have hlen := (H.all_bd hr).1
  obtain ⟨t0, t1⟩ := ht
  obtain ⟨s0, s1⟩ := hs
  have HBD := Lib.hid hbd
  clear hbd
  go_enter Tryz.func122, Tryz.ntmps122
  go_wp2_with (first
    | (go_at_call 168; refine (hright_any _ _ _ l _ hl (by omega)).mono ?_; rintro e w1 ⟨rfl, hb1⟩)
    | (go_at_call 170; refine (minute_any _ _).mono ?_; rintro e w2 ⟨rfl, rfl⟩)
    | (go_at_call 171; refine (all_any _ _ _ l _ (hl.below hb1) (by omega)).mono ?_; rintro e w2 ⟨A1, n1, c1, rfl, h1, hb2⟩))
  have hn1 : n1 ≤ 6 := by rw [h1.1]; exact hlen
  have hb := bel hb1 hb2
  clear hb1 hb2
  go_loopw [27] (fun vi wr => ∃ k : Nat, vi = .int .i64 k ∧ k ≤ n1 ∧ Hid (H.fitGo t s (H.all l) = H.fitGo t s ((H.all l).drop k)) ∧ Below w2.heap.size w2 wr) (fun vi _ => n1 - (intOf vi).toNat)
  case atStart => exact ⟨0, rfl, by omega, by show _ = _; rw [List.drop_zero], Below.refl _ _⟩
  case round =>
    obtain ⟨k, rfl, hk, hr, hbr⟩ := hrel
    by_cases hlt : k < n1
    · obtain ⟨ad, o, d, rfl, hg, c0, c1⟩ := (h1.below hbr).at_ hlt
      have HS := Lib.hid (H.fitGo_drop (t := t) (s := s) hg)
      obtain ⟨o0, od, d1⟩ := HBD.out _ (List.mem_of_getElem? hg)
      have o0' : 0 ≤ o := o0
      have od' : o ≤ d := od
      have d1' : d ≤ 1000000 := d1
      clear hg o0 od d1
      by_cases hto : t < o
      · have em : max t o = o := by omega
        rw [em] at HS
        clear em
        by_cases hfit : o + s ≤ d
        · go_wp2
          go_ret2
          exact ⟨ret_ib (by rw [hr.out, HS.out, if_pos hfit]), (bel hb hbr).alloc (bel hb hbr).size _⟩
        · go_wp2
          go_roundw
          case rel => exact ⟨k + 1, by go_num, by omega, by show _ = _; rw [hr.out, HS.out, if_neg hfit], hbr.alloc hbr.size _⟩
          case measure => simp [intOf]; omega
      · have em : max t o = t := by omega
        rw [em] at HS
        clear em
        by_cases hfit : t + s ≤ d
        · go_wp2
          go_ret2
          exact ⟨ret_ib (by rw [hr.out, HS.out, if_pos hfit]), (bel hb hbr).alloc (bel hb hbr).size _⟩
        · go_wp2
          go_roundw
          case rel => exact ⟨k + 1, by go_num, by omega, by show _ = _; rw [hr.out, HS.out, if_neg hfit], hbr.alloc hbr.size _⟩
          case measure => simp [intOf]; omega
    · have hd : (H.all l).drop k = [] := List.drop_eq_nil_of_le (by rw [← h1.1]; omega)
      have HD := Lib.hid hd
      clear hd
      go_wp2
      go_ret2
      exact ⟨ret_ib (by rw [hr.out, HD.out]; rfl), bel hb hbr⟩

set_option maxHeartbeats 1000000 in
theorem fit_no (A : Option Addr) (n c : Nat) (l : List (Int × Int)) (t s : Int) (w : World) (hl : Wins w A n l) (hn : n ≤ 1000000000) (h : ¬ (H.right l = true ∧ H.minute t = true ∧ H.minute s = true)) :
    Calls Tryz.prog 122 #[.slice A n c, .int .i64 t, .int .i64 s] w fun e w' => e = .returned (.tuple #[.int .i64 0, .bool false]) ∧ Below w.heap.size w w' := by
  cases hr : H.right l
  · go_enter Tryz.func122, Tryz.ntmps122
    go_wp2_with (first
      | (go_at_call 168; refine (hright_any _ _ _ l _ hl (by omega)).mono ?_; rintro e w1 ⟨rfl, hb1⟩)
      | (go_at_call 170; refine (minute_any _ _).mono ?_; rintro e w2 ⟨rfl, rfl⟩))
    go_ret2
    exact ⟨rfl, hb1⟩
  · cases hm1 : H.minute t
    · go_enter Tryz.func122, Tryz.ntmps122
      go_wp2_with (first
        | (go_at_call 168; refine (hright_any _ _ _ l _ hl (by omega)).mono ?_; rintro e w1 ⟨rfl, hb1⟩)
        | (go_at_call 170; refine (minute_any _ _).mono ?_; rintro e w2 ⟨rfl, rfl⟩))
      go_ret2
      exact ⟨rfl, hb1⟩
    · have hm2 : H.minute s = false := by cases hm2 : H.minute s; rfl; exact absurd ⟨hr, hm1, hm2⟩ h
      go_enter Tryz.func122, Tryz.ntmps122
      go_wp2_with (first
        | (go_at_call 168; refine (hright_any _ _ _ l _ hl (by omega)).mono ?_; rintro e w1 ⟨rfl, hb1⟩)
        | (go_at_call 170; refine (minute_any _ _).mono ?_; rintro e w2 ⟨rfl, rfl⟩))
      go_ret2
      exact ⟨rfl, hb1⟩

theorem fit_any (A : Option Addr) (n c : Nat) (l : List (Int × Int)) (t s : Int) (w : World) (hl : Wins w A n l) (hn : n ≤ 1000000000) :
    Calls Tryz.prog 122 #[.slice A n c, .int .i64 t, .int .i64 s] w fun e w' => e = .returned (.tuple #[.int .i64 (H.fit l t s).1, .bool (H.fit l t s).2]) ∧ Below w.heap.size w w' := by
  by_cases h : H.right l = true ∧ H.minute t = true ∧ H.minute s = true
  · have e : H.fit l t s = H.fitGo t s (H.all l) := by unfold H.fit; rw [if_pos (by simp [h])]
    rw [e]
    exact fit_yes A n c l t s w hl h.1 (by have := h.2.1; simp [H.minute] at this; omega) (by have := h.2.2; simp [H.minute] at this; omega)
  · have e : H.fit l t s = (0, false) := by unfold H.fit; rw [if_neg (by simpa [and_assoc] using h)]
    rw [e]
    exact fit_no A n c l t s w hl hn h
end Go.Proofs.YtippdjmpkafifaaGreat
namespace Go.Proofs.YtippdjmpkafifaaGreat
open Go.RowKit

end Go.Proofs.YtippdjmpkafifaaGreat
namespace Go.Proofs.YtippdjmpkafifaaGreat
open Go.RowKit

end Go.Proofs.YtippdjmpkafifaaGreat
namespace Go.Proofs.YtippdjmpkafifaaGreat
open Go.RowKit

theorem Tryz.info158 : (Tryz.prog.info? 158).map (fun i => (i.zero, i.size, i.bytes)) = some (some (.agg #[.int .i64 0, .int .i64 0]), 2, 16) := by kernel_rfl

end Go.Proofs.YtippdjmpkafifaaGreat
namespace Go.Proofs.YtippdjmpkafifaaGreat
open Go.RowKit

/-- A request, as the program holds it. -/
structure Q where
  node : Int
  room : Int
  kilos : Int
  service : Int
  frm : Int
  by_ : Int
  A : Option Addr
  n : Nat
  c : Nat
  l : List (Int × Int)

def Q.cells (q : Q) : List Value := [.int .i64 q.node, .int .i64 q.room, .int .i64 q.kilos, .int .i64 q.service, .int .i64 q.frm, .int .i64 q.by_, .slice q.A q.n q.c]

def reqCells : List Q → List Value
  | [] => []
  | q :: l => .int .i64 q.node :: .int .i64 q.room :: .int .i64 q.kilos :: .int .i64 q.service :: .int .i64 q.frm :: .int .i64 q.by_ :: .slice q.A q.n q.c :: reqCells l

theorem reqCells_len (l : List Q) : (reqCells l).length = l.length * 7 := by
  induction l with
  | nil => rfl
  | cons p l ih => simp [reqCells, ih]; omega

theorem reqCells_get (l : List Q) : ∀ (k : Nat) (q : Q), l[k]? = some q → ∀ j, j < 7 → (reqCells l)[k * 7 + j]? = q.cells[j]? := by
  induction l with
  | nil => intro k p h; simp at h
  | cons q0 l ih =>
    intro k q h j hj
    cases k with
    | zero =>
      simp at h; subst h
      rcases j with _ | _ | _ | _ | _ | _ | _ | j <;> first | rfl | omega
    | succ k =>
      have := ih k q (by simpa using h) j hj
      rw [show (k + 1) * 7 + j = k * 7 + j + 1 + 1 + 1 + 1 + 1 + 1 + 1 by omega]
      simpa [reqCells] using this

/-- The slice value '.slice A n c' reads as the requests l. -/
def Reqs (w : World) (A : Option Addr) (n : Nat) (l : List Q) : Prop := n = l.length ∧ Rd w 7 A n (reqCells l) ∧ ∀ q ∈ l, Wins w q.A q.n q.l

theorem Reqs.below {w w' : World} {A : Option Addr} {n : Nat} {l : List Q} (h : Reqs w A n l) (hb : Below w.heap.size w w') : Reqs w' A n l := ⟨h.1, h.2.1.below hb, fun q hq => (h.2.2 q hq).below hb⟩

theorem Reqs.at_ {w : World} {A : Option Addr} {n k : Nat} {l : List Q} (h : Reqs w A n l) (hk : k < n) :
    ∃ ad q, A = some ad ∧ l[k]? = some q ∧ Wins w q.A q.n q.l ∧ w.cell? (ad.add (k * 7)) = some (.int .i64 q.node) ∧
      w.cell? ⟨(ad.add (k * 7)).block, (ad.add (k * 7)).off + 1, none⟩ = some (.int .i64 q.room) ∧
      w.cell? ⟨(ad.add (k * 7)).block, (ad.add (k * 7)).off + 2, none⟩ = some (.int .i64 q.kilos) ∧
      w.cell? ⟨(ad.add (k * 7)).block, (ad.add (k * 7)).off + 3, none⟩ = some (.int .i64 q.service) ∧
      w.cell? ⟨(ad.add (k * 7)).block, (ad.add (k * 7)).off + 4, none⟩ = some (.int .i64 q.frm) ∧
      w.cell? ⟨(ad.add (k * 7)).block, (ad.add (k * 7)).off + 5, none⟩ = some (.int .i64 q.by_) ∧
      w.cell? ⟨(ad.add (k * 7)).block, (ad.add (k * 7)).off + 6, none⟩ = some (.slice q.A q.n q.c) := by
  obtain ⟨e, hr, hq⟩ := h
  obtain ⟨ad, hA, hc⟩ := hr.at_ hk
  have hl : l[k]? = some (l[k]'(by omega)) := List.getElem?_eq_getElem (by omega)
  have g := reqCells_get l k _ hl
  refine ⟨ad, _, hA, hl, hq _ (List.getElem_mem _), ?_⟩
  have key : ∀ j, j < 7 → ∀ u, (l[k]'(by omega)).cells[j]? = some u → w.cell? (ad.add (k * 7 + j)) = some u := by
    intro j hj u hu
    obtain ⟨v, a, b⟩ := hc j hj
    rw [g j hj, hu] at a
    injection a with a
    subst a; exact b
  refine ⟨by simpa using key 0 (by omega) _ rfl, ?_, ?_, ?_, ?_, ?_, ?_⟩
  · rw [← add_next _ _ _ (by omega)]; exact key 1 (by omega) _ rfl
  · rw [← add_next _ _ _ (by omega)]; exact key 2 (by omega) _ rfl
  · rw [← add_next _ _ _ (by omega)]; exact key 3 (by omega) _ rfl
  · rw [← add_next _ _ _ (by omega)]; exact key 4 (by omega) _ rfl
  · rw [← add_next _ _ _ (by omega)]; exact key 5 (by omega) _ rfl
  · rw [← add_next _ _ _ (by omega)]; exact key 6 (by omega) _ rfl

/-- A request as a value. -/
def Q.val (q : Q) : Value := .agg #[.int .i64 q.node, .int .i64 q.room, .int .i64 q.kilos, .int .i64 q.service, .int .i64 q.frm, .int .i64 q.by_, .slice q.A q.n q.c]

/-- A shift, as the program holds it; l: its rooms. -/
structure S where
  day : Int
  depot : Int
  start : Int
  end_ : Int
  tare : Int
  A : Option Addr
  n : Nat
  c : Nat
  l : List Int
end Go.Proofs.YtippdjmpkafifaaGreat
namespace Go.Proofs.YtippdjmpkafifaaGreat
namespace H

def inWin (t s : Int) (p : Int × Int) : Bool := decide (p.1 ≤ t) && decide (t + s ≤ p.2)
def fits (l : List (Int × Int)) (t s : Int) : Bool := minute t && minute s && decide (t + s ≤ 1000000) && (l.any (inWin t s) || decide (l.length = 0))

def rfitGo (l : List (Int × Int)) (t s : Int) : List (Int × Int) → Int × Bool
  | [] => (0, false)
  | p :: r => if decide (t ≤ p.1) && fits l p.1 s then (p.1, true) else rfitGo l t s r
def rfit (l : List (Int × Int)) (t s : Int) : Int × Bool :=
  if right l && minute t && minute s then (if fits l t s then (t, true) else rfitGo l t s l) else (0, false)

/-- The best minute so far, b; -1 at the start. -/
def rlastGo (l : List (Int × Int)) (y s : Int) (b : Int) : List (Int × Int) → Int
  | [] => b
  | p :: r => rlastGo l y s (if decide (p.2 ≤ y) && fits l (p.2 - s) s then p.2 - s else b) r
def rlast (l : List (Int × Int)) (y s : Int) : Int × Bool :=
  if right l && minute y && minute s then (if fits l (y - s) s then (y - s, true) else (if rlastGo l y s (-1) l < 0 then (0, false) else (rlastGo l y s (-1) l, true))) else (0, false)

theorem minute_iff {t : Int} : minute t = true ↔ 0 ≤ t ∧ t ≤ 1000000 := by simp [minute]

theorem fits_iff {l : List (Int × Int)} {t s : Int} : fits l t s = true ↔ (0 ≤ t ∧ t ≤ 1000000) ∧ (0 ≤ s ∧ s ≤ 1000000) ∧ t + s ≤ 1000000 ∧ ((∃ p ∈ l, p.1 ≤ t ∧ t + s ≤ p.2) ∨ l = []) := by
  simp only [fits, Bool.and_eq_true, Bool.or_eq_true, minute_iff, decide_eq_true_eq, List.any_eq_true, inWin, List.length_eq_zero_iff]
  constructor
  · rintro ⟨⟨⟨h1, h2⟩, h3⟩, h4⟩; exact ⟨h1, h2, h3, h4⟩
  · rintro ⟨h1, h2, h3, h4⟩; exact ⟨⟨⟨h1, h2⟩, h3⟩, h4⟩

theorem right_iff {l : List (Int × Int)} : right l = true ↔ rightFrom (-1) l = true ∧ l.length ≤ 6 := by simp [right]

def ropen (l : List (Int × Int)) (t : Int) : Bool := right l && fits l t 0

/-- What the reference's Both computes. -/
def rboth (a b : List (Int × Int)) : List (Int × Int) × Bool :=
  if right a && right b then
    if a.length = 0 then (b, true) else if b.length = 0 then (a, true)
    else if (a.flatMap fun x => b.filterMap (inter x)).length < 1 ∨ 6 < (a.flatMap fun x => b.filterMap (inter x)).length then ([], false) else (a.flatMap fun x => b.filterMap (inter x), true)
  else ([], false)

end H
end Go.Proofs.YtippdjmpkafifaaGreat
namespace Go.Proofs.YtippdjmpkafifaaGreat
open Go.RowKit

end Go.Proofs.YtippdjmpkafifaaGreat
namespace Go.Proofs.YtippdjmpkafifaaGreat
open Go.RowKit

end Go.Proofs.YtippdjmpkafifaaGreat
namespace Go.Proofs.YtippdjmpkafifaaGreat
open Go.RowKit

end Go.Proofs.YtippdjmpkafifaaGreat
namespace Go.Proofs.YtippdjmpkafifaaGreat
open Go.RowKit

theorem run_append_of_nil {P : Program} (w : World) (base : Nat) (t ty e : TypeId) (i : TypeInfo) (size : Nat) (ht : P.underlying t = some (.slice e)) (hi : P.info? e = some i)
    (v : Value) (n : Nat) (xs : List Value) (hown : w.ownsRow base e size v n xs) (c : Nat) : (Builtin.append_ #[t, t] ty #[v, .slice none 0 c]).run P w = .ok v w := by
  rcases hown.2 with ⟨rfl, rfl⟩ | ⟨g, cap, cur, rfl, _, _, hnc, _⟩
  · simp [Builtin.append_, run_underlying ht, sizeOf, typeInfo, hi, Builtin.lenOf, Builtin.firstCells]
  · simp [Builtin.append_, run_underlying ht, sizeOf, typeInfo, hi, Builtin.lenOf, Builtin.firstCells, hnc, storeCells]

theorem run_append_rd {P : Program} (w : World) (base : Nat) (t ty e : TypeId) (i : TypeInfo) (z : Value) (size bytes : Nat) (ht : P.underlying t = some (.slice e)) (hi : P.info? e = some i) (hz : i.zero = some z)
    (hsize : i.size = size) (hby : i.bytes = bytes) (hzs : z.cells.size = size) (hsz : 0 < size)
    (v : Value) (n : Nat) (xs : List Value) (hown : w.ownsRow base e size v n xs)
    (A : Option Addr) (m c : Nat) (news : List Value) (hr : Rd w size A m news) (h1 : ∀ u ∈ news, u.oneCell' = true)
    (h63 : n + m ≤ maxLen) (hbytes : (n + m) * bytes ≤ 140737488355328) (hbase : base ≤ w.heap.size) :
    ∃ v' w', (Builtin.append_ #[t, t] ty #[v, .slice A m c]).run P w = .ok v' w' ∧ w'.ownsRow base e size v' (n + m) (xs ++ news) ∧ w.grownBy w' v.ownBlock ∧
      (v'.ownBlock = v.ownBlock ∨ v'.ownBlock = some w.heap.size) := by
  rcases A with _ | ad
  · have hm : m = 0 := by
      rcases Nat.eq_zero_or_pos m with h0 | h0
      · exact h0
      · obtain ⟨ad, h, _⟩ := hr.2 h0
        cases h
    subst hm
    have hn : news = [] := List.eq_nil_of_length_eq_zero (by simpa using hr.1)
    subst hn
    exact ⟨v, w, run_append_of_nil w base t ty e i size ht hi v n xs hown c, by simpa using hown, World.grownBy.refl w _, .inl rfl⟩
  · have hcells : ∀ j u, news[j]? = some u → w.cell? (ad.add j) = some u := by
      intro j u hu
      rcases Nat.eq_zero_or_pos m with h0 | h0
      · subst h0
        have hn : news = [] := List.eq_nil_of_length_eq_zero (by simpa using hr.1)
        subst hn
        simp at hu
      · obtain ⟨ad', h, hc⟩ := hr.2 h0
        injection h with h
        subst h
        exact hc j u hu
    obtain ⟨v', w', hrun, h2, h3, _, h5⟩ := run_append_own_at (P := P) w base t ty e i z size bytes ht hi hz hsize hby hzs hsz v n xs hown ad m c news hr.1 hcells h1 h63 hbytes hbase
    exact ⟨v', w', hrun, h2, h3, h5⟩

theorem wp_append_rd {P : Program} {w : World} {ops : Array Oper} {rest : List Oper} {o : Oper} {a : Act} {Q : Exit → Act → World → Prop} (hgd : o.guard = none) (s x : Operand) (t : TypeId)
    (ho : o.op = .call { callee := .builtin .append, args := #[s, x], argTypes := #[t, t] })
    (base : Nat) (e : TypeId) (i : TypeInfo) (z : Value) (size bytes : Nat) (ht : P.underlying t = some (.slice e)) (hi : P.info? e = some i) (hz : i.zero = some z)
    (hsize : i.size = size) (hby : i.bytes = bytes) (hzs : z.cells.size = size) (hsz : 0 < size)
    (v : Value) (n : Nat) (xs : List Value) (hs : a.eval s = v) (hown : w.ownsRow base e size v n xs)
    (A : Option Addr) (m c : Nat) (news : List Value) (hx : a.eval x = .slice A m c) (hr : Rd w size A m news) (h1 : ∀ u ∈ news, u.oneCell' = true)
    (h63 : n + m ≤ maxLen) (hbytes : (n + m) * bytes ≤ 140737488355328) (hbase : base ≤ w.heap.size)
    (h : ∀ v' w', w'.ownsRow base e size v' (n + m) (xs ++ news) → w.grownBy w' v.ownBlock → (v'.ownBlock = v.ownBlock ∨ v'.ownBlock = some w.heap.size) → wpList P ops Q rest (a.put o.dst v') w') : wpList P ops Q (o :: rest) a w := by
  refine wpList_plain hgd fun K hK => ?_
  obtain ⟨v', w', hrun, h2, h3, h4⟩ := run_append_rd (P := P) w base t o.type e i z size bytes ht hi hz hsize hby hzs hsz v n xs hown A m c news hr h1 h63 hbytes hbase
  unfold Oper.wp execOp
  simp only [ho, resolve, invoke, builtin, Sem.run_bind, Sem.run_pure, Result.andThen_ok, List.map_toArray, List.map_cons, List.map_nil, hs, hx, hrun]
  exact hK _ _ (h v' w' h2 h3 h4)

theorem winCells_one (l : List (Int × Int)) : ∀ u ∈ winCells l, u.oneCell' = true := by
  induction l with
  | nil => intro u hu; cases hu
  | cons p l ih =>
    intro u hu
    simp only [winCells, List.mem_cons] at hu
    rcases hu with rfl | rfl | hu
    · rfl
    · rfl
    · exact ih u hu

end Go.Proofs.YtippdjmpkafifaaGreat
namespace Go.Proofs.YtippdjmpkafifaaGreat
namespace H

theorem rightFrom_all {l : List (Int × Int)} (h : right l = true) : rightFrom (-1) (all l) = true := by
  unfold all; split
  · rfl
  · exact (right_iff.1 h).1

/-- What fitGo finds is the first minute that serves. -/
theorem fitGo_least {b t s : Int} {l : List (Int × Int)} (h : rightFrom b l = true) (hs : 0 ≤ s) :
    ((fitGo t s l).2 = true → (∃ q ∈ l, q.1 ≤ (fitGo t s l).1 ∧ (fitGo t s l).1 + s ≤ q.2) ∧ t ≤ (fitGo t s l).1) ∧
    (∀ x, t ≤ x → ∀ q ∈ l, q.1 ≤ x → x + s ≤ q.2 → (fitGo t s l).2 = true ∧ (fitGo t s l).1 ≤ x) := by
  induction l generalizing b with
  | nil => exact ⟨fun h => (by cases h), fun x _ q hq => (by cases hq)⟩
  | cons p l ih =>
    have hx := h
    simp only [rightFrom, Bool.and_eq_true] at hx
    obtain ⟨_, hr⟩ := hx
    have hbd := rightFrom_bd hr
    obtain ⟨i1, i2⟩ := ih hr
    simp only [fitGo]
    by_cases hf : max t p.1 + s ≤ p.2
    · rw [if_pos hf]
      refine ⟨fun _ => ⟨⟨p, List.mem_cons_self .., by simp; omega, hf⟩, by simp; omega⟩, fun x hx q hq h1 h2 => ⟨rfl, ?_⟩⟩
      show max t p.1 ≤ x
      rcases List.mem_cons.1 hq with rfl | hq'
      · omega
      · have := (hbd q hq').2.2.2; omega
    · rw [if_neg hf]
      refine ⟨fun h' => ?_, fun x hx q hq h1 h2 => ?_⟩
      · obtain ⟨⟨q, hq, h1, h2⟩, h3⟩ := i1 h'
        exact ⟨⟨q, List.mem_cons_of_mem _ hq, h1, h2⟩, h3⟩
      · rcases List.mem_cons.1 hq with rfl | hq'
        · omega
        · exact i2 x hx q hq' h1 h2

theorem fit_yes_eq {l : List (Int × Int)} {t s : Int} (hr : right l = true) (ht : 0 ≤ t ∧ t ≤ 1000000) (hs : 0 ≤ s ∧ s ≤ 1000000) : fit l t s = fitGo t s (all l) := by
  unfold fit; rw [if_pos (by simp only [Bool.and_eq_true, minute_iff]; exact ⟨⟨hr, ht⟩, hs⟩)]

/-- A service fits at x: in one window. -/
def At (l : List (Int × Int)) (x s : Int) : Prop := ∃ q ∈ all l, q.1 ≤ x ∧ x + s ≤ q.2

theorem fit_least {l : List (Int × Int)} {t s : Int} (hr : right l = true) (ht : 0 ≤ t ∧ t ≤ 1000000) (hs : 0 ≤ s ∧ s ≤ 1000000) :
    ((fit l t s).2 = true → At l (fit l t s).1 s ∧ t ≤ (fit l t s).1) ∧ (∀ x, t ≤ x → At l x s → (fit l t s).2 = true ∧ (fit l t s).1 ≤ x) := by
  rw [fit_yes_eq hr ht hs]
  obtain ⟨h1, h2⟩ := fitGo_least (t := t) (rightFrom_all hr) hs.1
  exact ⟨h1, fun x hx ⟨q, hq, a, b⟩ => h2 x hx q hq a b⟩

theorem first_two {l : List (Int × Int)} {t s o : Int} (hr : right l = true) (ht : 0 ≤ t ∧ t ≤ 1000000) (hs : 0 ≤ s ∧ s ≤ 1000000) (ho : t ≤ o ∧ o ≤ 1000000) :
    ((fit l o s).2 = true → (fit l t s).2 = true ∧ (fit l t s).1 ≤ (fit l o s).1) ∧ ((fit l t s).2 = true → o ≤ (fit l t s).1 → (fit l o s).2 = true ∧ (fit l o s).1 = (fit l t s).1) := by
  obtain ⟨a1, a2⟩ := fit_least (t := t) hr ht hs
  obtain ⟨b1, b2⟩ := fit_least (t := o) hr (by omega) hs
  refine ⟨fun h => ?_, fun h h' => ?_⟩
  · obtain ⟨c1, c2⟩ := b1 h
    exact a2 _ (by omega) c1
  · obtain ⟨c1, c2⟩ := a1 h
    obtain ⟨d1, d2⟩ := b2 _ h' c1
    obtain ⟨e1, e2⟩ := b1 d1
    have := (a2 _ (by omega) e1).2
    exact ⟨d1, by omega⟩

end H
end Go.Proofs.YtippdjmpkafifaaGreat

/-
The walks of truck.between, truck.Right and of their references.
The walk of truck.Check.
The walk of the reference's Check.
The walks of slices.IndexFunc and slices.ContainsFunc at requests with truck.Loads' predicate.
The walk of the reference's SameInts.
The walk of the reference's IsSet.
The walk of the reference's IsSet.
The walk of the reference's Load.
The walk of the reference's Few.
The walk of the reference's Few.
What the requests of a set load, as a function; its bounds.
The walk of the reference's Loads.
The map of Loads: the numbers that were seen.
The walk of truck.Loads.
What fits, what it weighs: as functions; a shift in a block.
The walk of truck.Fits.
The walk of the reference's Fits.
The walk of truck.Weight.
The walk of the reference's Weight.
Plain laws of loads: sets, parts, orders.
Plain laws of loads: what is cut in two adds up; a request alone.
-/
namespace Go.Proofs.YtippdjmpkafifaaGreat
open Go.RowKit
namespace T
def btw (n lo hi : Int) : Bool := decide (lo ≤ n) && decide (n ≤ hi)
def right (q : Q) : Bool := btw q.node 0 99 && (btw q.room 0 2 && (btw q.kilos 1 1000000 && (btw q.service 0 1000000 && (decide (0 ≤ q.frm) && (btw q.by_ q.frm 100000 && H.right q.l)))))
end T

set_option maxHeartbeats 400000 in
theorem between_any (n lo hi : Int) (w : World) : Calls Tryz.prog 167 #[.int .i64 n, .int .i64 lo, .int .i64 hi] w fun e w' => e = .returned (.bool (T.btw n lo hi)) ∧ w = w' := by
  by_cases h : lo ≤ n
  · go_enter Tryz.func167, Tryz.ntmps167
    go_wp2
    all_goals (go_ret; exact ⟨ret_b (by simp [T.btw, h]), rfl⟩)
  · have h' : decide (lo ≤ n) = false := by simpa using h
    have hh := Lib.hid h
    clear h
    go_enter Tryz.func167, Tryz.ntmps167
    go_wp2
    all_goals (go_ret; exact ⟨ret_b (by have := hh.out; simp [T.btw]; omega), rfl⟩)

theorem T.days_no {q : Q} (h : (decide (0 ≤ q.frm) && T.btw q.by_ q.frm 100000) = false) : T.right q = false := by
  unfold T.right
  cases h1 : decide (0 ≤ q.frm)
  · simp
  · rw [h1, Bool.true_and] at h
    simp [h]

set_option maxRecDepth 100000 in
set_option maxHeartbeats 4000000 in
theorem tright_any (q : Q) (w : World) (hl : Wins w q.A q.n q.l) (hn : q.n ≤ 1000000000) :
    Calls Tryz.prog 119 #[.agg #[.int .i64 q.node, .int .i64 q.room, .int .i64 q.kilos, .int .i64 q.service, .int .i64 q.frm, .int .i64 q.by_, .slice q.A q.n q.c]] w fun e w' => e = .returned (.bool (T.right q)) ∧ Below w.heap.size w w' := by
  obtain ⟨nd, rm, kl, sv, fr, b, A, n, c, l⟩ := q
  simp only at hl hn ⊢
  have b1 : Below w.heap.size w (w.alloc (.cells #[.int .i64 nd, .int .i64 rm, .int .i64 kl, .int .i64 sv, .int .i64 fr, .int .i64 b, .slice A n c] 47)) := (Below.refl _ _).alloc (Nat.le_refl _) _
  have hl1 := hl.below b1
  cases h0 : T.btw nd 0 99
  · have H0 := Lib.hid h0
    clear h0
    go_enter Tryz.func119, Tryz.ntmps119
    go_wp2_with fail
    refine (between_any _ _ _ _).mono ?_; rw [H0.out]; rintro e w1 ⟨rfl, rfl⟩
    go_wp2_with fail
    go_ret
    exact ⟨ret_b (by simp [T.right, H0.out]), b1⟩
  · have H0 := Lib.hid h0
    clear h0
    cases h1 : T.btw rm 0 2
    · have H1 := Lib.hid h1
      clear h1
      go_enter Tryz.func119, Tryz.ntmps119
      go_wp2_with fail
      refine (between_any _ _ _ _).mono ?_; rw [H0.out]; rintro e w1 ⟨rfl, rfl⟩
      go_wp2_with fail
      refine (between_any _ _ _ _).mono ?_; rw [H1.out]; rintro e w1 ⟨rfl, rfl⟩
      go_wp2_with fail
      go_ret
      exact ⟨ret_b (by simp [T.right, H0.out, H1.out]), b1⟩
    · have H1 := Lib.hid h1
      clear h1
      cases h2 : T.btw kl 1 1000000
      · have H2 := Lib.hid h2
        clear h2
        go_enter Tryz.func119, Tryz.ntmps119
        go_wp2_with fail
        refine (between_any _ _ _ _).mono ?_; rw [H0.out]; rintro e w1 ⟨rfl, rfl⟩
        go_wp2_with fail
        refine (between_any _ _ _ _).mono ?_; rw [H1.out]; rintro e w1 ⟨rfl, rfl⟩
        go_wp2_with fail
        refine (between_any _ _ _ _).mono ?_; rw [H2.out]; rintro e w1 ⟨rfl, rfl⟩
        go_wp2_with fail
        go_ret
        exact ⟨ret_b (by simp [T.right, H0.out, H1.out, H2.out]), b1⟩
      · have H2 := Lib.hid h2
        clear h2
        by_cases g0 : 0 ≤ fr ∧ fr ≤ b ∧ b ≤ 100000
        · obtain ⟨g1, g2, g3⟩ := g0
          have e1 : T.btw b fr 100000 = true := by simp [T.btw, g2, g3]
          have G := Lib.hid (And.intro g1 (And.intro g2 g3))
          have E1 := Lib.hid e1
          clear e1
          cases h4 : T.btw sv 0 1000000
          · have H4 := Lib.hid h4
            clear h4
            go_enter Tryz.func119, Tryz.ntmps119
            go_wp2_with fail
            refine (between_any _ _ _ _).mono ?_; rw [H0.out]; rintro e w1 ⟨rfl, rfl⟩
            go_wp2_with fail
            refine (between_any _ _ _ _).mono ?_; rw [H1.out]; rintro e w1 ⟨rfl, rfl⟩
            go_wp2_with fail
            refine (between_any _ _ _ _).mono ?_; rw [H2.out]; rintro e w1 ⟨rfl, rfl⟩
            go_wp2_with fail
            refine (between_any _ _ _ _).mono ?_; rw [H4.out]; rintro e w1 ⟨rfl, rfl⟩
            go_wp2_with fail
            go_ret
            exact ⟨ret_b (by simp [T.right, H0.out, H1.out, H2.out, E1.out, G.out, H4.out]), b1⟩
          · have H4 := Lib.hid h4
            clear h4
            cases h5 : H.right l
            · have H5 := Lib.hid h5
              clear h5
              go_enter Tryz.func119, Tryz.ntmps119
              go_wp2_with fail
              refine (between_any _ _ _ _).mono ?_; rw [H0.out]; rintro e w1 ⟨rfl, rfl⟩
              go_wp2_with fail
              refine (between_any _ _ _ _).mono ?_; rw [H1.out]; rintro e w1 ⟨rfl, rfl⟩
              go_wp2_with fail
              refine (between_any _ _ _ _).mono ?_; rw [H2.out]; rintro e w1 ⟨rfl, rfl⟩
              go_wp2_with fail
              refine (between_any _ _ _ _).mono ?_; rw [H4.out]; rintro e w1 ⟨rfl, rfl⟩
              go_wp2_with fail
              refine (hright_any A n c l _ (hl.below b1) hn).mono ?_; rw [H5.out]; rintro e w1 ⟨rfl, hb1⟩
              go_wp2_with fail
              go_ret
              exact ⟨ret_b (by simp [T.right, H0.out, H1.out, H2.out, E1.out, G.out, H4.out, H5.out]), (bel b1 hb1)⟩
            · have H5 := Lib.hid h5
              clear h5
              go_enter Tryz.func119, Tryz.ntmps119
              go_wp2_with fail
              refine (between_any _ _ _ _).mono ?_; rw [H0.out]; rintro e w1 ⟨rfl, rfl⟩
              go_wp2_with fail
              refine (between_any _ _ _ _).mono ?_; rw [H1.out]; rintro e w1 ⟨rfl, rfl⟩
              go_wp2_with fail
              refine (between_any _ _ _ _).mono ?_; rw [H2.out]; rintro e w1 ⟨rfl, rfl⟩
              go_wp2_with fail
              refine (between_any _ _ _ _).mono ?_; rw [H4.out]; rintro e w1 ⟨rfl, rfl⟩
              go_wp2_with fail
              refine (hright_any A n c l _ (hl.below b1) hn).mono ?_; rw [H5.out]; rintro e w1 ⟨rfl, hb1⟩
              go_wp2_with fail
              go_ret
              exact ⟨ret_b (by simp [T.right, H0.out, H1.out, H2.out, E1.out, G.out, H4.out, H5.out]), (bel b1 hb1)⟩
        · have e1 : (decide (0 ≤ fr) && T.btw b fr 100000) = false := by simp [T.btw]; omega
          have E1 := Lib.hid e1
          clear e1
          by_cases g1 : 0 ≤ fr
          · by_cases g2 : fr ≤ b
            · have g3 : decide (b ≤ 100000) = false := by simp; omega
              clear g0
              go_enter Tryz.func119, Tryz.ntmps119
              go_wp2_with fail
              refine (between_any _ _ _ _).mono ?_; rw [H0.out]; rintro e w1 ⟨rfl, rfl⟩
              go_wp2_with fail
              refine (between_any _ _ _ _).mono ?_; rw [H1.out]; rintro e w1 ⟨rfl, rfl⟩
              go_wp2_with fail
              refine (between_any _ _ _ _).mono ?_; rw [H2.out]; rintro e w1 ⟨rfl, rfl⟩
              go_wp2_with fail
              go_ret
              exact ⟨ret_b (Eq.symm (T.days_no E1.out)), b1⟩
            · have g3 : decide (fr ≤ b) = false := by simp; omega
              clear g0 g2
              go_enter Tryz.func119, Tryz.ntmps119
              go_wp2_with fail
              refine (between_any _ _ _ _).mono ?_; rw [H0.out]; rintro e w1 ⟨rfl, rfl⟩
              go_wp2_with fail
              refine (between_any _ _ _ _).mono ?_; rw [H1.out]; rintro e w1 ⟨rfl, rfl⟩
              go_wp2_with fail
              refine (between_any _ _ _ _).mono ?_; rw [H2.out]; rintro e w1 ⟨rfl, rfl⟩
              go_wp2_with fail
              go_ret
              exact ⟨ret_b (Eq.symm (T.days_no E1.out)), b1⟩
          · have g3 : decide (0 ≤ fr) = false := by simp; omega
            clear g0 g1
            go_enter Tryz.func119, Tryz.ntmps119
            go_wp2_with fail
            refine (between_any _ _ _ _).mono ?_; rw [H0.out]; rintro e w1 ⟨rfl, rfl⟩
            go_wp2_with fail
            refine (between_any _ _ _ _).mono ?_; rw [H1.out]; rintro e w1 ⟨rfl, rfl⟩
            go_wp2_with fail
            refine (between_any _ _ _ _).mono ?_; rw [H2.out]; rintro e w1 ⟨rfl, rfl⟩
            go_wp2_with fail
            go_ret
            exact ⟨ret_b (Eq.symm (T.days_no E1.out)), b1⟩

end Go.Proofs.YtippdjmpkafifaaGreat
namespace Go.Proofs.YtippdjmpkafifaaGreat
open Go.RowKit
namespace T
def dated (s : S) : Bool := btw s.depot 0 99 && (decide (0 ≤ s.start) && (decide (s.start ≤ s.end_) && decide (s.end_ ≤ 1000000)))
def heavy (l : List Int) : Bool := l.any fun x => !btw x 0 1000000
def check (s : S) : Int := if btw s.day 0 100000 = false then 17 else if dated s = false then 1 else if 3 < s.l.length then 6 else if heavy (s.tare :: s.l) then 20 else 0
end T

theorem T.check_day {s : S} (h : btw s.day 0 100000 = false) : T.check s = 17 := by simp [T.check, h]
theorem T.check_arg {s : S} (h : btw s.day 0 100000 = true) (h2 : T.dated s = false) : T.check s = 1 := by simp [T.check, h, h2]
theorem T.check_full {s : S} (h : btw s.day 0 100000 = true) (h2 : T.dated s = true) (h3 : 3 < s.l.length) : T.check s = 6 := by simp [T.check, h, h2, h3]
theorem T.check_heavy {s : S} (h : btw s.day 0 100000 = true) (h2 : T.dated s = true) (h3 : ¬ 3 < s.l.length) : T.check s = if T.heavy (s.tare :: s.l) then 20 else 0 := by simp [T.check, h, h2]; omega

theorem T.heavy_drop {l : List Int} {k : Nat} {x : Int} (h : l[k]? = some x) : T.heavy (l.drop k) = (!T.btw x 0 1000000 || T.heavy (l.drop (k + 1))) := by
  obtain ⟨hk, e⟩ := List.getElem?_eq_some_iff.1 h
  rw [List.drop_eq_getElem_cons hk, e]
  rfl

theorem Tryz.info3 : (Tryz.prog.info? 3).map (fun i => (i.zero, i.size, i.bytes)) = some (some (.int .i64 0), 1, 8) := by kernel_rfl

set_option maxRecDepth 100000 in
set_option maxHeartbeats 4000000 in
theorem check_any (s : S) (w : World) (hl : Ints w s.A s.n s.l) (hn : s.n ≤ 1000000000) :
    Calls Tryz.prog 118 #[.agg #[.int .i64 s.day, .int .i64 s.depot, .int .i64 s.start, .int .i64 s.end_, .int .i64 s.tare, .slice s.A s.n s.c]] w fun e w' => e = .returned (.int .i64 (T.check s)) ∧ Below w.heap.size w w' := by
  obtain ⟨dy, dp, st, en, ta, A, n, c, l⟩ := s
  simp only at hl hn ⊢
  have b1 : Below w.heap.size w (w.alloc (.cells #[.int .i64 dy, .int .i64 dp, .int .i64 st, .int .i64 en, .int .i64 ta, .slice A n c] 63)) := (Below.refl _ _).alloc (Nat.le_refl _) _
  cases h1 : T.btw dy 0 100000
  · go_enter Tryz.func118, Tryz.ntmps118
    go_wp2_with fail
    refine (between_any _ _ _ _).mono ?_; rw [h1]; rintro e w1 ⟨rfl, rfl⟩
    go_wp2_with fail
    go_ret
    exact ⟨ret_i (T.check_day h1).symm, b1⟩
  · have H1 := Lib.hid h1
    clear h1
    cases h2 : T.btw dp 0 99
    · have HD := Lib.hid (show T.dated ⟨dy, dp, st, en, ta, A, n, c, l⟩ = false by simp [T.dated, h2])
      have H2 := Lib.hid h2
      clear h2
      go_enter Tryz.func118, Tryz.ntmps118
      go_wp2_with fail
      refine (between_any _ _ _ _).mono ?_; rw [H1.out]; rintro e w1 ⟨rfl, rfl⟩
      go_wp2_with fail
      refine (between_any _ _ _ _).mono ?_; rw [H2.out]; rintro e w1 ⟨rfl, rfl⟩
      go_wp2_with fail
      go_ret
      exact ⟨ret_i (T.check_arg H1.out HD.out).symm, b1⟩
    · have H2 := Lib.hid h2
      by_cases h0 : 0 ≤ st ∧ st ≤ en ∧ en ≤ 1000000
      · have HD := Lib.hid (show T.dated ⟨dy, dp, st, en, ta, A, n, c, l⟩ = true by simp [T.dated, h2, h0])
        obtain ⟨h3, h4, h5⟩ := h0
        have q3 : decide (st < 0) = false := by simpa using h3
        have q4 : decide (en < st) = false := by simpa using h4
        have q5 : decide (1000000 < en) = false := by simpa using h5
        clear h2 h3 h4 h5
        by_cases h6 : 3 < n
        · have q6 : decide ((3 : Int) < (n : Int)) = true := by simp; omega
          have HF := Lib.hid (T.check_full (s := ⟨dy, dp, st, en, ta, A, n, c, l⟩) H1.out HD.out (by rw [← hl.1]; exact h6))
          go_enter Tryz.func118, Tryz.ntmps118
          go_wp2_with fail
          refine (between_any _ _ _ _).mono ?_; rw [H1.out]; rintro e w1 ⟨rfl, rfl⟩
          go_wp2_with fail
          refine (between_any _ _ _ _).mono ?_; rw [H2.out]; rintro e w1 ⟨rfl, rfl⟩
          go_wp2_with fail
          go_ret
          exact ⟨ret_i HF.out.symm, b1⟩
        · have q6 : decide ((3 : Int) < (n : Int)) = false := by simp; omega
          have HF := Lib.hid (T.check_heavy (s := ⟨dy, dp, st, en, ta, A, n, c, l⟩) H1.out HD.out (by rw [← hl.1]; exact h6))
          obtain ⟨i0, hi, hz0, hz1, hz2⟩ := info_parts Tryz.info3
          have hl1 := (hl.below b1).2.below (((Below.refl _ _).alloc (Nat.le_refl _) (.cells #[.int .i64 ta] 3)))
          have hlit := World.ownsRow_lit (base := w.heap.size) (e := 3) (size := 1) (w.alloc (.cells #[.int .i64 dy, .int .i64 dp, .int .i64 st, .int .i64 en, .int .i64 ta, .slice A n c] 63)) #[.int .i64 ta] 1 b1.size (by simp [maxLen]) rfl
          have hsz : (w.alloc (.cells #[.int .i64 dy, .int .i64 dp, .int .i64 st, .int .i64 en, .int .i64 ta, .slice A n c] 63)).heap.size = w.heap.size + 1 := World.size_alloc ..
          rw [hsz] at hlit
          clear hsz
          go_enter Tryz.func118, Tryz.ntmps118
          go_wp2_with fail
          refine (between_any _ _ _ _).mono ?_; rw [H1.out]; rintro e w1 ⟨rfl, rfl⟩
          go_wp2_with fail
          refine (between_any _ _ _ _).mono ?_; rw [H2.out]; rintro e w1 ⟨rfl, rfl⟩
          go_wp2_with (at_builtin; refine wp_append_rd rfl (.tmp 39) (.tmp 41) 48 rfl w.heap.size 3 i0 (.int .i64 0) 1 8 Tryz.underlying48 hi hz0 hz1 hz2 rfl (by decide) _ 1 _ rfl hlit A n c (intCells l) rfl hl1 (intCells_one l) (by simp only [maxLen]; omega) (by omega) (by first | (simp; done) | (simp; omega)) ?_; intro v' w4 hown4 hgrow4 hat4; obtain ⟨A', c', rfl, hI⟩ := own_ints (l := ta :: l) hown4 (by rw [List.length_cons, ← hl.1]; omega))
          have b4 : Below w.heap.size w w4 := below_own (b1.alloc b1.size _) (Nat.le_refl _) hgrow4 (fun g h => (hlit.lt g h).1)
          clear hown4 hgrow4 hat4 hlit hl1 hi hz0 hz1 hz2
          go_loopw [44] (fun vi wr => ∃ k : Nat, vi = .int .i64 k ∧ k ≤ 1 + n ∧ Hid (T.heavy (ta :: l) = T.heavy ((ta :: l).drop k)) ∧ w4 = wr) (fun vi _ => 1 + n - (intOf vi).toNat)
          case atStart => exact ⟨0, rfl, by omega, rfl, rfl⟩
          case round =>
            obtain ⟨k, rfl, hk, hr, rfl⟩ := hrel
            by_cases hlt : k < 1 + n
            · obtain ⟨ad, x, rfl, hg, c0⟩ := hI.at_ hlt
              have HS := Lib.hid (T.heavy_drop hg)
              clear hg
              go_wp2_with fail
              refine (between_any _ _ _ _).mono ?_; rintro e w1 ⟨rfl, rfl⟩
              cases hx : T.btw x 0 1000000
              · go_wp2_with fail
                go_ret
                exact ⟨ret_i (Eq.symm (by rw [HF.out, hr.out, HS.out, hx]; rfl)), b4⟩
              · go_wp2_with fail
                go_roundw
                case rel => exact ⟨k + 1, by go_num, by omega, by show _ = _; rw [hr.out, HS.out, hx]; rfl, trivial⟩
                case measure => simp [intOf]; omega
            · have hd : (ta :: l).drop k = [] := List.drop_eq_nil_of_le (by rw [List.length_cons, ← hl.1]; omega)
              have HN := Lib.hid hd
              clear hd
              go_wp2_with fail
              go_ret
              exact ⟨ret_i (Eq.symm (by rw [HF.out, hr.out, HN.out]; rfl)), b4⟩
      · have HD := Lib.hid (show T.dated ⟨dy, dp, st, en, ta, A, n, c, l⟩ = false by simp [T.dated, h2]; omega)
        clear h2
        have hc : (decide (st < 0) = true) ∨ (decide (st < 0) = false ∧ decide (en < st) = true) ∨ (decide (st < 0) = false ∧ decide (en < st) = false ∧ decide (1000000 < en) = true) := by simp; omega
        clear h0
        rcases hc with q3 | ⟨q3, q4⟩ | ⟨q3, q4, q5⟩
        all_goals
          go_enter Tryz.func118, Tryz.ntmps118
          go_wp2_with fail
          refine (between_any _ _ _ _).mono ?_; rw [H1.out]; rintro e w1 ⟨rfl, rfl⟩
          go_wp2_with fail
          refine (between_any _ _ _ _).mono ?_; rw [H2.out]; rintro e w1 ⟨rfl, rfl⟩
          go_wp2_with fail
          go_ret
          exact ⟨ret_i (T.check_arg H1.out HD.out).symm, b1⟩
end Go.Proofs.YtippdjmpkafifaaGreat
namespace Go.Proofs.YtippdjmpkafifaaGreat
open Go.RowKit

end Go.Proofs.YtippdjmpkafifaaGreat
namespace Go.Proofs.YtippdjmpkafifaaGreat
open Go.RowKit

set_option maxHeartbeats 400000 in
theorem loads1_any (q : Q) (w : World) (hl : Wins w q.A q.n q.l) (hn : q.n ≤ 1000000000) :
    Calls Tryz.prog 200 #[.agg #[.int .i64 q.node, .int .i64 q.room, .int .i64 q.kilos, .int .i64 q.service, .int .i64 q.frm, .int .i64 q.by_, .slice q.A q.n q.c]] w fun e w' => e = .returned (.bool (!T.right q)) ∧ Below w.heap.size w w' := by
  go_enter Tryz.func200, Tryz.ntmps200
  go_wp2_with fail
  refine (tright_any q _ (hl.below ?_) hn).mono ?_
  · exact (Below.refl _ _).alloc (Nat.le_refl _) _
  rintro e w1 ⟨rfl, hb1⟩
  go_wp2_with fail
  go_ret
  exact ⟨rfl, bel ((Below.refl _ _).alloc (Nat.le_refl _) _) hb1⟩

set_option maxHeartbeats 1000000 in
theorem indexQ (A : Option Addr) (n c : Nat) (l : List Q) (w : World) (hl : Reqs w A n l) (hn : n ≤ 1000000000) (hq : ∀ q ∈ l, q.n ≤ 1000000000) :
    Calls Tryz.prog 202 #[.slice A n c, .func (.func 200) #[] #[]] w fun e w' => (∃ i : Int, e = .returned (.int .i64 i) ∧ (decide (0 ≤ i)) = l.any fun q => !T.right q) ∧ Below w.heap.size w w' := by
  go_enter Tryz.func202, Tryz.ntmps202
  go_wp2_with fail
  go_loopw [8] (fun vi wr => ∃ k : Nat, vi = .int .i64 k ∧ k ≤ n ∧ Hid ((l.any fun q => !T.right q) = (l.drop k).any fun q => !T.right q) ∧ Below w.heap.size w wr) (fun vi _ => n - (intOf vi).toNat)
  case atStart => exact ⟨0, rfl, by omega, by show _ = _; rw [List.drop_zero], Below.refl _ _⟩
  case round =>
    obtain ⟨k, rfl, hk, hr, hbr⟩ := hrel
    by_cases hlt : k < n
    · obtain ⟨ad, q, rfl, hg, hwq, c0, c1, c2, c3, c4, c5, c6⟩ := (hl.below hbr).at_ hlt
      have hqn := hq q (List.mem_of_getElem? hg)
      have HS := Lib.hid (drop_any (p := fun q => !T.right q) hg)
      clear hg
      go_wp2_with fail
      refine (loads1_any q _ hwq hqn).mono ?_
      rintro e w1 ⟨rfl, hb1⟩
      cases hpx : T.right q
      · go_wp2_with fail
        go_ret
        exact ⟨⟨k, rfl, by rw [hr.out, HS.out, hpx]; simp⟩, bel hbr hb1⟩
      · go_wp2_with fail
        go_roundw
        case rel => exact ⟨k + 1, by go_num, by omega, by show _ = _; rw [hr.out, HS.out, hpx]; rfl, bel hbr hb1⟩
        case measure => simp [intOf]; omega
    · have hd : l.drop k = [] := List.drop_eq_nil_of_le (by rw [← hl.1]; omega)
      have HD := Lib.hid hd
      clear hd
      go_wp2_with fail
      go_ret
      exact ⟨⟨-1, rfl, by rw [hr.out, HD.out]; rfl⟩, hbr⟩

set_option maxHeartbeats 400000 in
theorem containsQ (A : Option Addr) (n c : Nat) (l : List Q) (w : World) (hl : Reqs w A n l) (hn : n ≤ 1000000000) (hq : ∀ q ∈ l, q.n ≤ 1000000000) :
    Calls Tryz.prog 175 #[.slice A n c, .func (.func 200) #[] #[]] w fun e w' => e = .returned (.bool (l.any fun q => !T.right q)) ∧ Below w.heap.size w w' := by
  go_enter Tryz.func175, Tryz.ntmps175
  go_wp2_with fail
  refine (indexQ A n c l _ hl hn hq).mono ?_
  rintro e w1 ⟨⟨i, rfl, hi⟩, hb1⟩
  go_wp2_with fail
  go_ret
  exact ⟨rfl, hb1⟩
end Go.Proofs.YtippdjmpkafifaaGreat
namespace Go.Proofs.YtippdjmpkafifaaGreat
open Go.RowKit

theorem take_eq_nexti {la lb : List Int} {k : Nat} {x y : Int} (hx : la[k]? = some x) (hy : lb[k]? = some y) (h : la.take k = lb.take k) : la.take (k + 1) = lb.take (k + 1) ↔ x = y := by
  obtain ⟨h1, e1⟩ := List.getElem?_eq_some_iff.1 hx
  obtain ⟨h2, e2⟩ := List.getElem?_eq_some_iff.1 hy
  rw [List.take_succ_eq_append_getElem h1, List.take_succ_eq_append_getElem h2, e1, e2, h]
  simp

set_option maxHeartbeats 2000000 in
theorem sameInts_any (A B : Option Addr) (n m c d : Nat) (la lb : List Int) (w : World) (hla : Ints w A n la) (hlb : Ints w B m lb) (hn : n ≤ 1000000000) (hm : m ≤ 1000000000) :
    Calls Tryz.prog 93 #[.slice A n c, .slice B m d] w fun e w' => e = .returned (.bool (decide (la = lb))) ∧ Below w.heap.size w w' := by
  by_cases hnm : n = m
  · obtain rfl := hnm
    go_enter Tryz.func93, Tryz.ntmps93
    go_wp2_with fail
    go_loopw [5] (fun vi wr => ∃ k : Nat, vi = .int .i64 k ∧ k ≤ n ∧ Hid (la.take k = lb.take k) ∧ Below w.heap.size w wr) (fun vi _ => n - (intOf vi).toNat)
    case atStart => exact ⟨0, rfl, by omega, rfl, Below.refl _ _⟩
    case round =>
      obtain ⟨k, rfl, hk, hr, hb⟩ := hrel
      by_cases hlt : k < n
      · obtain ⟨ad, o, rfl, hg, c0⟩ := (hla.below hb).at_ hlt
        obtain ⟨ad2, o2, rfl, hg2, c02⟩ := (hlb.below hb).at_ hlt
        have HN := Lib.hid (take_eq_nexti hg hg2 hr.out)
        clear hg hg2
        by_cases ho : o = o2
        · have HX := Lib.hid (HN.out.2 ho)
          subst ho
          go_wp2_with fail
          go_quiet (fail)
          go_wp2_with fail
          go_roundw
          case rel => exact ⟨k + 1, by go_num, by omega, HX.out, below_drewN hb _⟩
          case measure => simp [intOf]; omega
        · have HX := Lib.hid (fun h => ho (HN.out.1 h))
          have q2 : (o == o2) = false := by simpa using ho
          go_wp2_with fail
          go_quiet (fail)
          go_wp2_with fail
          go_ret
          exact ⟨ret_b (Eq.symm (decide_eq_false (fun h => HX.out (by rw [h])))), below_drewN hb _⟩
      · have HX := Lib.hid (show la = lb by
          have h := hr.out
          rw [List.take_of_length_le (by rw [← hla.1]; omega), List.take_of_length_le (by rw [← hlb.1]; omega)] at h
          exact h)
        go_wp2_with fail
        go_ret
        exact ⟨ret_b (Eq.symm (decide_eq_true HX.out)), hb⟩
  · have HX := Lib.hid (show ¬ la = lb from fun h => hnm (by rw [hla.1, hlb.1, h]))
    have q1 : (((n : Nat) : Int) != ((m : Nat) : Int)) = true := by simp; omega
    go_enter Tryz.func93, Tryz.ntmps93
    go_wp2_with fail
    go_ret
    exact ⟨ret_b (Eq.symm (decide_eq_false HX.out)), Below.refl _ _⟩
end Go.Proofs.YtippdjmpkafifaaGreat
namespace Go.Proofs.YtippdjmpkafifaaGreat
open Go.RowKit
namespace T
/-- A list of numbers from 0 to n - 1, of which none of 'before' comes again. -/
def isSetFrom (n : Int) : List Int → List Int → Bool
  | _, [] => true
  | before, x :: l => decide (0 ≤ x) && (decide (x < n) && (!(before.any (· == x)) && isSetFrom n (before ++ [x]) l))
def isSet (n : Int) (l : List Int) : Bool := isSetFrom n [] l
end T

theorem T.isSet_drop {n : Int} {l : List Int} {k : Nat} {x : Int} (h : l[k]? = some x) :
    T.isSetFrom n (l.take k) (l.drop k) = (decide (0 ≤ x) && (decide (x < n) && (!((l.take k).any (· == x)) && T.isSetFrom n (l.take (k + 1)) (l.drop (k + 1))))) := by
  obtain ⟨hk, e⟩ := List.getElem?_eq_some_iff.1 h
  rw [List.drop_eq_getElem_cons hk, e, List.take_succ_eq_append_getElem hk, e]
  rfl

end Go.Proofs.YtippdjmpkafifaaGreat
namespace Go.Proofs.YtippdjmpkafifaaGreat
open Go.RowKit

end Go.Proofs.YtippdjmpkafifaaGreat
namespace Go.Proofs.YtippdjmpkafifaaGreat
open Go.RowKit
namespace T
def load (s : S) (r : List Q) (l : List Int) : Bool := (check s == 0) && (isSet r.length l && !(r.any fun q => !right q))
end T

end Go.Proofs.YtippdjmpkafifaaGreat
namespace Go.Proofs.YtippdjmpkafifaaGreat
open Go.RowKit
namespace T
def few (s : S) (r : List Q) (most : Nat) : Bool := !((r.take (most + 1)).any fun q => decide (10 < q.n)) && (decide (s.n ≤ 6) && decide (r.length ≤ most))
end T

theorem T.few_take {r : List Q} {m k : Nat} {q : Q} (hk : k < m) (h : r[k]? = some q) (p : Q → Bool) : ((r.take m).drop k).any p = (p q || ((r.take m).drop (k + 1)).any p) := by
  have h' : (r.take m)[k]? = some q := by rw [List.getElem?_take, if_pos hk]; exact h
  obtain ⟨hk, e⟩ := List.getElem?_eq_some_iff.1 h'
  rw [List.drop_eq_getElem_cons hk, e]
  rfl
end Go.Proofs.YtippdjmpkafifaaGreat
namespace Go.Proofs.YtippdjmpkafifaaGreat
open Go.RowKit

set_option maxHeartbeats 2000000 in
theorem few_any (s : S) (B : Option Addr) (m d : Nat) (r : List Q) (most : Nat) (w : World) (hq : Reqs w B m r) (hmo : most ≤ 1000) :
    Calls Tryz.prog 64 #[.agg #[.int .i64 s.day, .int .i64 s.depot, .int .i64 s.start, .int .i64 s.end_, .int .i64 s.tare, .slice s.A s.n s.c], .slice B m d, .int .i64 most] w fun e w' => e = .returned (.bool (T.few s r most)) ∧ Below w.heap.size w w' := by
  go_enter Tryz.func64, Tryz.ntmps64
  go_wp2_with fail
  go_loopw [7] (fun vi wr => ∃ k : Nat, vi = .int .i64 k ∧ k ≤ m ∧ k ≤ most + 1 ∧ Hid (T.few s r most = (!(((r.take (most + 1)).drop k).any fun q => decide (10 < q.n)) && (decide (s.n ≤ 6) && decide (r.length ≤ most)))) ∧ (w.alloc (.cells #[.int .i64 s.day, .int .i64 s.depot, .int .i64 s.start, .int .i64 s.end_, .int .i64 s.tare, .slice s.A s.n s.c] 63)) = wr) (fun vi _ => m - (intOf vi).toNat)
  case atStart => exact ⟨0, rfl, by omega, by omega, by show _ = _; rfl, rfl⟩
  case round =>
    obtain ⟨k, rfl, hk, hk2, hr, rfl⟩ := hrel
    have hbr : Below w.heap.size w (w.alloc (.cells #[.int .i64 s.day, .int .i64 s.depot, .int .i64 s.start, .int .i64 s.end_, .int .i64 s.tare, .slice s.A s.n s.c] 63)) := (Below.refl _ _).alloc (Nat.le_refl _) _
    by_cases hlt : k < m
    · by_cases hlm : k ≤ most
      · obtain ⟨ad, q, rfl, hg, hwq, c0, c1, c2, c3, c4, c5, c6⟩ := (hq.below hbr).at_ hlt
        have HS := Lib.hid (T.few_take (show k < most + 1 by omega) hg fun q => decide (10 < q.n))
        clear hg
        cases h10 : decide ((10 : Int) < q.n)
        · have HN := Lib.hid (show decide (10 < q.n) = false by simp at h10 ⊢; omega)
          go_wp2_with fail
          go_roundw
          case rel => exact ⟨k + 1, by go_num, by omega, by omega, by show _ = _; rw [hr.out, HS.out, HN.out]; rfl, trivial⟩
          case measure => simp [intOf]; omega
        · have HN := Lib.hid (show decide (10 < q.n) = true by simp at h10 ⊢; omega)
          go_wp2_with fail
          go_ret
          exact ⟨ret_b (Eq.symm (by rw [hr.out, HS.out, HN.out]; rfl)), hbr⟩
      · have hd : (r.take (most + 1)).drop k = [] := List.drop_eq_nil_of_le (by rw [List.length_take]; omega)
        have HD := Lib.hid (show T.few s r most = false by rw [hr.out, hd, ← hq.1]; simp; omega)
        clear hd
        have q1 : decide ((k : Int) ≤ most) = false := by simpa using hlm
        have q2 : decide ((m : Int) ≤ most) = false := by simp; omega
        cases h6 : decide ((s.n : Int) ≤ 6)
        · go_wp2_with fail
          go_ret
          exact ⟨ret_b HD.out.symm, hbr⟩
        · have HF := Lib.hid (show T.few s r most = decide (m ≤ most) by rw [HD.out]; simp; omega)
          go_wp2_with fail
          go_ret
          exact ⟨ret_b HF.out.symm, hbr⟩
    · have hd : (r.take (most + 1)).drop k = [] := List.drop_eq_nil_of_le (by rw [List.length_take, ← hq.1]; omega)
      have HD := Lib.hid (show T.few s r most = (decide (s.n ≤ 6) && decide (r.length ≤ most)) by rw [hr.out, hd]; rfl)
      clear hd
      cases h6 : decide ((s.n : Int) ≤ 6)
      · have HF := Lib.hid (show T.few s r most = false by rw [HD.out]; simp at h6 ⊢; omega)
        go_wp2_with fail
        go_ret
        exact ⟨ret_b HF.out.symm, hbr⟩
      · have HF := Lib.hid (show T.few s r most = decide (m ≤ most) by rw [HD.out, ← hq.1]; simp at h6 ⊢; omega)
        go_wp2_with fail
        go_ret
        exact ⟨ret_b HF.out.symm, hbr⟩
end Go.Proofs.YtippdjmpkafifaaGreat
namespace Go.Proofs.YtippdjmpkafifaaGreat
open Go.RowKit
namespace T
/-- What request i loads into room j. -/
def kilo (r : List Q) (j i : Int) : Int := match r[i.toNat]? with
  | some q => if q.room = j then q.kilos else 0
  | none => 0
def room (r : List Q) (j : Int) : List Int → Int
  | [] => 0
  | i :: l => kilo r j i + room r j l
def loads (r : List Q) (l : List Int) : List Int := [room r 0 l, room r 1 l, room r 2 l]
end T

theorem T.room_app (r : List Q) (j : Int) (a b : List Int) : T.room r j (a ++ b) = T.room r j a + T.room r j b := by
  induction a with
  | nil => simp [T.room]
  | cons x a ih => simp [T.room, ih]; omega

theorem T.room_next {r : List Q} {j : Int} {l : List Int} {k : Nat} {x : Int} (h : l[k]? = some x) : T.room r j (l.take (k + 1)) = T.room r j (l.take k) + T.kilo r j x := by
  obtain ⟨hk, e⟩ := List.getElem?_eq_some_iff.1 h
  rw [List.take_succ_eq_append_getElem hk, e, T.room_app]
  simp [T.room]

theorem T.btw_iff {n lo hi : Int} : T.btw n lo hi = true ↔ lo ≤ n ∧ n ≤ hi := by simp [T.btw]

theorem T.right_room {q : Q} (h : T.right q = true) : (q.room = 0 ∨ q.room = 1 ∨ q.room = 2) ∧ 1 ≤ q.kilos ∧ q.kilos ≤ 1000000 := by
  simp [T.right, T.btw] at h
  omega

def T.allRight (r : List Q) : Prop := ∀ q ∈ r, T.right q = true

theorem T.kilo_bound {r : List Q} (h : T.allRight r) (j i : Int) : 0 ≤ T.kilo r j i ∧ T.kilo r j i ≤ 1000000 := by
  unfold T.kilo
  cases hq : r[i.toNat]? with
  | none => simp
  | some q =>
    have := (T.right_room (h q (List.mem_of_getElem? hq))).2
    simp only
    split <;> omega

theorem T.room_bound {r : List Q} (h : T.allRight r) (j : Int) (l : List Int) : 0 ≤ T.room r j l ∧ T.room r j l ≤ 1000000 * l.length := by
  induction l with
  | nil => simp [T.room]
  | cons x l ih =>
    have := T.kilo_bound h j x
    simp only [T.room, List.length_cons]
    omega

theorem T.kilo_self {r : List Q} {i : Int} {q : Q} (h : r[i.toNat]? = some q) (j : Int) : T.kilo r j i = if q.room = j then q.kilos else 0 := by
  unfold T.kilo; rw [h]

theorem T.isSetFrom_mem {n : Int} {b l : List Int} (h : T.isSetFrom n b l = true) : ∀ x ∈ l, 0 ≤ x ∧ x < n := by
  induction l generalizing b with
  | nil => intro x hx; simp at hx
  | cons y l ih =>
    simp [T.isSetFrom] at h
    intro x hx
    rcases List.mem_cons.1 hx with rfl | hx
    · exact ⟨h.1, h.2.1⟩
    · exact ih h.2.2.2 x hx

theorem T.load_parts {s : S} {r : List Q} {l : List Int} (h : T.load s r l = true) : T.check s = 0 ∧ T.isSet r.length l = true ∧ T.allRight r := by
  simp [T.load] at h
  exact ⟨h.1, h.2.1, h.2.2⟩

theorem T.load_mk {s : S} {r : List Q} {l : List Int} (h1 : T.check s = 0) (h2 : T.isSet r.length l = true) (h3 : T.allRight r) : T.load s r l = true := by
  simp [T.load, h1, h2]
  exact h3

/-- A block of three numbers. -/
def Three (w : World) (B : Nat) (x y z : Int) : Prop := w.heap[B]? = some (.cells #[.int .i64 x, .int .i64 y, .int .i64 z] 3 (0, 0))

theorem Three.below {w w' : World} {B : Nat} {x y z : Int} (h : Three w B x y z) (hb : Below w.heap.size w w') : Three w' B x y z := blk_below hb h
theorem Three.lt {w : World} {B : Nat} {x y z : Int} (h : Three w B x y z) : B < w.heap.size := lt_of_block h
theorem Three.c0 {w : World} {B : Nat} {x y z : Int} (h : Three w B x y z) : w.cell? ⟨B, 0, none⟩ = some (.int .i64 x) := blk_cell h 0 _ rfl
theorem Three.c1 {w : World} {B : Nat} {x y z : Int} (h : Three w B x y z) : w.cell? ⟨B, 1, none⟩ = some (.int .i64 y) := blk_cell h 1 _ rfl
theorem Three.c2 {w : World} {B : Nat} {x y z : Int} (h : Three w B x y z) : w.cell? ⟨B, 2, none⟩ = some (.int .i64 z) := blk_cell h 2 _ rfl
theorem Three.free {w : World} {B : Nat} {x y z : Int} (h : Three w B x y z) (i : Nat) : w.frozen? ⟨B, i, none⟩ = false := by
  unfold Three at h
  simp [World.frozen?, h]

theorem Three.set {w : World} {B : Nat} {x y z : Int} (h : Three w B x y z) (i : Nat) (v : Value) : (w.setCell ⟨B, i, none⟩ v).heap[B]? = some (.cells (#[Value.int .i64 x, .int .i64 y, .int .i64 z].setIfInBounds i v) 3 (0, 0)) := by
  have hlt := h.lt
  have h' : w.heap[B] = .cells #[.int .i64 x, .int .i64 y, .int .i64 z] 3 (0, 0) := by simpa [Three, Array.getElem?_eq_getElem hlt] using h
  show (w.heap.modify B _)[B]? = _
  rw [Array.getElem?_eq_getElem (by simpa using hlt), Array.getElem_modify_self, h']
  rfl
theorem Three.set0 {w : World} {B : Nat} {x y z : Int} (h : Three w B x y z) (u : Int) : Three (w.setCell ⟨B, 0, none⟩ (.int .i64 u)) B u y z := h.set 0 _
theorem Three.set1 {w : World} {B : Nat} {x y z : Int} (h : Three w B x y z) (u : Int) : Three (w.setCell ⟨B, 1, none⟩ (.int .i64 u)) B x u z := h.set 1 _
theorem Three.set2 {w : World} {B : Nat} {x y z : Int} (h : Three w B x y z) (u : Int) : Three (w.setCell ⟨B, 2, none⟩ (.int .i64 u)) B x y u := h.set 2 _
theorem Three.ints {w : World} {B : Nat} {x y z : Int} (h : Three w B x y z) : Ints w (some ⟨B, 0, none⟩) 3 [x, y, z] := ⟨rfl, Rd.of_block h 1 3 rfl⟩
end Go.Proofs.YtippdjmpkafifaaGreat
namespace Go.Proofs.YtippdjmpkafifaaGreat
open Go.RowKit

theorem make_three (w : World) : (Instr.makeSlice 48 (.int .i64 3) (.int .i64 3)).run Tryz.prog w = .ok (.slice (some ⟨w.heap.size, 0, none⟩) 3 3) (w.alloc (.cells #[.int .i64 0, .int .i64 0, .int .i64 0] 3)) :=
  by
  have h := run_make_row' (P := Tryz.prog) 48 3 (.int .i64 0) 8 Tryz.underlying48 Tryz.info3 rfl .i64 .i64 3 (by omega) (by omega) w
  rw [show madeCells #[Value.int .i64 0] 3 = #[.int .i64 0, .int .i64 0, .int .i64 0] from Array.ext (by simp [madeCells]) (fun i h1 h2 => by simp [madeCells] at h1 ⊢; rcases i with _ | _ | _ | i <;> first | rfl | omega)] at h
  exact h

end Go.Proofs.YtippdjmpkafifaaGreat
namespace Go
open Go.Maps (Keyed)
theorem plainElem_bool_inv {H : Type} {P : Program} {e : TypeId} (he : P.underlying e = some .bool) {v : Value} {z : DataW H × List MemPlace} (h : plainElem P e v = some z) : ∃ x, v = .bool x ∧ z = (.lit (.bool x), []) := by
  unfold plainElem at h
  rw [he] at h
  cases v <;> simp at h
  subst h
  exact ⟨_, rfl, rfl⟩

/-- .. as an equation. -/
theorem World.ownsMap.lookup_bool {H : Type} {P : Program} {w : World} {k t e : TypeId} {b n : Nat} {D : DataW H} (h : w.ownsMap P k (plainElem P e) b n D) (K : Keyed P k) (ht : P.underlying t = some (.map k e)) (he : P.underlying e = some .bool) (hz : (zeroValue e).run P w = .ok (.bool false) w)
    {key : Value} {kl : Lit} (hkey : keyOf P k key = some kl) : ∃ c, (Instr.lookup t (.map (some b)) key false).run P w = .ok (.bool c) w ∧ D.atKey kl (.lit (.bool false)) = .lit (.bool c) := by
  obtain ⟨v, ps, hrun, hv⟩ := h.lookup K ht hz (plainElem_bool he false) hkey
  obtain ⟨c, rfl, hc⟩ := plainElem_bool_inv he hv
  simp only [Prod.mk.injEq] at hc
  exact ⟨c, hrun, hc.1⟩
end Go
namespace Go.Proofs.YtippdjmpkafifaaGreat
open Go.RowKit Go.Maps

/-- The map that holds 'true' at the numbers of a list. -/
def seen (l : List Int) : DataW Unit := setOf (.lit (.bool true)) (l.map (Lit.int .i64))

theorem seen_nil : seen [] = .map [] := rfl
theorem seen_snoc (l : List Int) (x : Int) : seen (l ++ [x]) = (seen l).put (.int .i64 x) (.lit (.bool true)) := by
  unfold seen; rw [List.map_append, List.map_singleton, setOf_snoc]

theorem atKey_fold (x : Int) : ∀ (l : List Int) (m : DataW Unit), IsMap m → ((l.map (Lit.int .i64)).foldl (fun m x => m.put x (.lit (.bool true))) m).atKey (.int .i64 x) (.lit (.bool false)) = if l.any (· == x) then .lit (.bool true) else m.atKey (.int .i64 x) (.lit (.bool false)) := by
  intro l
  induction l with
  | nil => intro m _; rfl
  | cons y l ih =>
    intro m hm
    rw [List.map_cons, List.foldl_cons, ih _ (hm.put _ _), List.any_cons]
    by_cases hy : y = x
    · subst hy
      rw [atKey_put_same hm (by trivial)]
      simp
    · rw [atKey_put_other (by intro e; injection e with _ e; exact hy e.symm), show (y == x) = false by simpa using hy, Bool.false_or]

theorem seen_at (l : List Int) (x : Int) : (seen l).atKey (.int .i64 x) (.lit (.bool false)) = .lit (.bool (l.any (· == x))) := by
  unfold seen setOf
  rw [atKey_fold x l _ isMap_empty]
  cases l.any (· == x) <;> rfl

theorem law3 : Keyed Tryz.prog 3 := int_keyed Tryz.underlying3
set_option maxRecDepth 100000 in
theorem zero4 (w : World) : (zeroValue 4).run Tryz.prog w = .ok (.bool false) w := by kernel_rfl

/-- The block b is a map that says of each number whether it is on the list. -/
def Seen (w : World) (b n : Nat) (l : List Int) : Prop := w.ownsMap Tryz.prog 3 (plainElem Tryz.prog 4) b n (seen l)

set_option maxRecDepth 100000 in
theorem Seen.look {w : World} {b n : Nat} {l : List Int} (h : Seen w b n l) (x : Int) (hx : (Lit.int .i64 x).wf = true) : (Instr.lookup 120 (.map (some b)) (.int .i64 x) false).run Tryz.prog w = .ok (.bool (l.any (· == x))) w := by
  obtain ⟨c, hr, hat⟩ := World.ownsMap.lookup_bool (t := 120) h law3 Tryz.underlying120 Tryz.underlying4 (zero4 w) (keyOf_int_mk Tryz.underlying3 hx)
  rw [seen_at] at hat
  injection hat with hat; injection hat with hat; rw [hr, hat]
theorem Seen.below {w w' : World} {b n : Nat} {l : List Int} (h : Seen w b n l) (hb : Below w.heap.size w w') : Seen w' b n l := h.kept (row := none) ⟨hb.os, hb.tape, hb.output, hb.size, fun i hi _ => hb.block i hi⟩ (by simp)
theorem Seen.set {w : World} {b n : Nat} {l : List Int} (h : Seen w b n l) {a : Addr} (ha : b ≠ a.block) (u : Value) : Seen (w.setCell a u) b n l := h.setCell ha u
end Go.Proofs.YtippdjmpkafifaaGreat
namespace Go.Proofs.YtippdjmpkafifaaGreat
open Go.RowKit Go.Maps

set_option maxHeartbeats 4000000 in
theorem loads_any (s : S) (B : Option Addr) (m d : Nat) (r : List Q) (A : Option Addr) (n c : Nat) (l : List Int) (w : World) (hs : Ints w s.A s.n s.l) (hsn : s.n ≤ 1000000000) (hq : Reqs w B m r) (hm : m ≤ 1000000000) (hqn : ∀ q ∈ r, q.n ≤ 1000000000) (hl : Ints w A n l) (hn : n ≤ 1000000000) :
    Calls Tryz.prog 169 #[.agg #[.int .i64 s.day, .int .i64 s.depot, .int .i64 s.start, .int .i64 s.end_, .int .i64 s.tare, .slice s.A s.n s.c], .slice B m d, .slice A n c] w fun e w' => Below w.heap.size w w' ∧ ((T.load s r l = true ∧ ∃ g, e = .returned (.slice (some ⟨g, 0, none⟩) 3 3) ∧ w.heap.size ≤ g ∧ Three w' g (T.room r 0 l) (T.room r 1 l) (T.room r 2 l)) ∨ (T.load s r l = false ∧ e = .returned (.slice none 0 0))) := by
  have hmk := make_three
  have hmm := @run_makeMap Tryz.prog
  have b0 := (Below.refl w.heap.size w).alloc (Nat.le_refl _) (.cells #[.int .i64 s.day, .int .i64 s.depot, .int .i64 s.start, .int .i64 s.end_, .int .i64 s.tare, .slice s.A s.n s.c] 63)
  cases h1 : (T.check s == 0)
  · have HF := Lib.hid (show T.load s r l = false by simp [T.load, h1])
    have q1 : (T.check s != 0) = true := by simp [bne, h1]
    clear h1
    go_enter Tryz.func169, Tryz.ntmps169
    go_wp2_with fail
    refine (check_any s _ (hs.below b0) hsn).mono ?_; rintro e w1 ⟨rfl, hb1'⟩; have hb1 := bel b0 hb1'; clear hb1'
    go_wp2_with fail
    go_ret
    exact ⟨hb1, .inr ⟨HF.out, rfl⟩⟩
  · have q1 : (T.check s != 0) = false := by simp [bne, h1]
    cases h2 : (r.any fun q => !T.right q)
    · have HF := Lib.hid (show T.load s r l = T.isSet r.length l by simp only [T.load]; rw [h1, h2]; simp)
      have HR := Lib.hid (show T.allRight r from fun q hq => by
        have := List.any_eq_false.1 h2 q hq
        simpa using this)
      have H2 := Lib.hid h2
      clear h2
      go_enter Tryz.func169, Tryz.ntmps169
      go_wp2_with fail
      refine (check_any s _ (hs.below b0) hsn).mono ?_; rintro e w1 ⟨rfl, hb1'⟩; have hb1 := bel b0 hb1'; clear hb1' b0
      go_wp2_with fail
      refine (containsQ B m d r _ (hq.below hb1) hm hqn).mono ?_; rw [H2.out]; rintro e w2 ⟨rfl, hb2'⟩; have hb2 := bel hb1 hb2'; clear hb2' hb1
      go_wp2_with fail
      have SL := World.size_alloc w2 (.cells #[.int .i64 0, .int .i64 0, .int .i64 0] 3)
      go_loopw [22] (fun vi wr => ∃ k : Nat, vi = .int .i64 k ∧ k ≤ n ∧ Hid (T.isSet r.length l = T.isSetFrom r.length (l.take k) (l.drop k)) ∧ Three wr w2.heap.size (T.room r 0 (l.take k)) (T.room r 1 (l.take k)) (T.room r 2 (l.take k)) ∧ Seen wr (w2.heap.size + 1) k (l.take k) ∧ Below w.heap.size w wr) (fun vi _ => n - (intOf vi).toNat)
      case atStart =>
        refine ⟨0, rfl, by omega, by show _ = _; rfl, ?_, ?_, ?_⟩
        · exact Three.below (w := w2.alloc _) (MapKept.heap_alloc w2 _).1 ((Below.refl _ _).alloc (Nat.le_refl _) _)
        · have hm0 := World.ownsMap_made (w2.alloc (.cells #[.int .i64 0, .int .i64 0, .int .i64 0] 3)) Tryz.prog 3 (plainElem (H := Unit) Tryz.prog 4)
          rw [SL] at hm0
          exact hm0
        · exact (hb2.alloc hb2.size _).alloc (by rw [SL]; have := hb2.size; omega) _
      case round =>
        obtain ⟨k, rfl, hk, hr, hT, hS, hbr⟩ := hrel
        by_cases hlt : k < n
        · obtain ⟨adl, x, rfl, hg, c0⟩ := (hl.below hbr).at_ hlt
          have HS := Lib.hid (T.isSet_drop (n := r.length) hg)
          cases hbt : T.btw x 0 (m - 1)
          · have HX := Lib.hid (show T.load s r l = false by
              have e1 : (m : Int) - 1 < r.length := by rw [hq.1]; omega
              rw [HF.out, hr.out, HS.out]
              simp [T.btw] at hbt
              by_cases h0 : 0 ≤ x
              · have := hbt h0
                have h9 : ¬ x < (r.length : Int) := by rw [← hq.1]; omega
                simp [h9]
              · simp [h0])
            go_wp2_with fail
            refine (between_any _ _ _ _).mono ?_; rw [hbt]; rintro e w3 ⟨rfl, rfl⟩
            go_wp2_with fail
            go_ret
            exact ⟨hbr, .inr ⟨HX.out, rfl⟩⟩
          · obtain ⟨hx0, hxm⟩ := T.btw_iff.1 hbt
            obtain ⟨i, rfl⟩ : ∃ i : Nat, x = i := ⟨x.toNat, by omega⟩
            have him : i < m := by omega
            have hwf : (Lit.int .i64 (i : Int)).wf = true := WalkArith.wf_i64 (by omega)
            have LK := hS.look i hwf
            cases hany : (l.take k).any (· == (i : Int))
            · rw [hany] at LK
              have HX := Lib.hid (show T.isSet r.length l = T.isSetFrom r.length (l.take (k + 1)) (l.drop (k + 1)) by
                have h9 : (i : Int) < r.length := by rw [← hq.1]; omega
                rw [hr.out, HS.out, hany]; simp [h9])
              have HG := Lib.hid hg
              clear hg hany hr HS
              go_wp2_with fail
              refine (between_any _ _ _ _).mono ?_; rw [hbt]; rintro e w3 ⟨rfl, rfl⟩
              go_wp2_with (first
                | (at_mapUpdate; refine wpList_mapUpdate_own _ rfl _ _ _ 120 rfl 3 4 law3 Tryz.underlying120 _ (w2.heap.size + 1) k _ rfl hS (by unfold maxLen; omega) _ _ _ rfl rfl (keyOf_int_mk Tryz.underlying3 hwf) _ [] (plainElem_bool Tryz.underlying4 true) ?_; intro w5 hown5 hgrow5)
                | fail)
              have hb5 : Below w.heap.size w w5 := hbr.grown hgrow5 hbr.size (fun j e => by injection e with e; have := hb2.size; omega)
              have hT5 : Three w5 w2.heap.size (T.room r 0 (l.take k)) (T.room r 1 (l.take k)) (T.room r 2 (l.take k)) := grow_blk hgrow5 hT (by simp)
              have hS5 : Seen w5 (w2.heap.size + 1) (k + 1) (l.take (k + 1)) := by
                obtain ⟨hk', e⟩ := List.getElem?_eq_some_iff.1 HG.out
                rw [Seen, List.take_succ_eq_append_getElem hk', e, seen_snoc]
                exact hown5
              obtain ⟨ad, q, rfl, hgq, hwq, e0, e1, e2, e3, e4, e5, e6⟩ := (hq.below hb5).at_ him
              have R0 := Lib.hid (T.room_next (r := r) (j := 0) HG.out)
              have R1 := Lib.hid (T.room_next (r := r) (j := 1) HG.out)
              have R2 := Lib.hid (T.room_next (r := r) (j := 2) HG.out)
              obtain ⟨hroom, hk1, hk2⟩ := T.right_room (HR.out q (List.mem_of_getElem? hgq))
              have K0 := Lib.hid (T.kilo_self (r := r) (i := i) (q := q) (by simpa using hgq))
              have bd := fun j => T.room_bound HR.out j (l.take k)
              obtain ⟨bx, bX⟩ := bd 0
              obtain ⟨by_, bY⟩ := bd 1
              obtain ⟨bz, bZ⟩ := bd 2
              clear bd hgrow5 hown5 LK hT hS hbt hx0 hxm c0
              rw [List.length_take, ← hl.1, Nat.min_eq_left hk] at bX bY bZ
              obtain ⟨x, hX⟩ : ∃ x, x = T.room r 0 (l.take k) := ⟨_, rfl⟩
              obtain ⟨y, hY⟩ : ∃ x, x = T.room r 1 (l.take k) := ⟨_, rfl⟩
              obtain ⟨z, hZ⟩ : ∃ x, x = T.room r 2 (l.take k) := ⟨_, rfl⟩
              rw [← hX, ← hY, ← hZ] at hT5
              rw [← hX] at R0 bx bX
              rw [← hY] at R1 by_ bY
              rw [← hZ] at R2 bz bZ
              clear hX hY hZ hgq
              obtain ⟨no, ro, ki, se, fr, by2, QA, qn, qc, ql⟩ := q
              simp only at hroom hk1 hk2 e0 e1 e2 e3 e4 e5 e6 K0
              have d0 := hT5.c0
              have d1 := hT5.c1
              have d2 := hT5.c2
              have f0 := hT5.free
              rcases hroom with rfl | rfl | rfl
              · go_region
                all_goals
                  go_wp2_with fail
                  go_roundw
                  case rel =>
                    refine ⟨k + 1, by go_num, by omega, HX.out, ?_, ?_, ?_⟩
                    · rw [R0.out, R1.out, R2.out, K0.out, K0.out, K0.out]
                      have hn := hT5.set0 (x + ki)
                      simp only [reduceIte, Int.add_zero, Int.reduceEq]
                      exact hn
                    · exact hS5.set (by simp) _
                    · exact ((hb5.setCell (by exact hb2.size) _).drew)
                  case measure => simp [intOf]; omega
              · go_region
                all_goals
                  go_wp2_with fail
                  go_roundw
                  case rel =>
                    refine ⟨k + 1, by go_num, by omega, HX.out, ?_, ?_, ?_⟩
                    · rw [R0.out, R1.out, R2.out, K0.out, K0.out, K0.out]
                      have hn := hT5.set1 (y + ki)
                      simp only [reduceIte, Int.add_zero, Int.reduceEq]
                      exact hn
                    · exact hS5.set (by simp) _
                    · exact ((hb5.setCell (by exact hb2.size) _).drew)
                  case measure => simp [intOf]; omega
              · go_region
                all_goals
                  go_wp2_with fail
                  go_roundw
                  case rel =>
                    refine ⟨k + 1, by go_num, by omega, HX.out, ?_, ?_, ?_⟩
                    · rw [R0.out, R1.out, R2.out, K0.out, K0.out, K0.out]
                      have hn := hT5.set2 (z + ki)
                      simp only [reduceIte, Int.add_zero, Int.reduceEq]
                      exact hn
                    · exact hS5.set (by simp) _
                    · exact ((hb5.setCell (by exact hb2.size) _).drew)
                  case measure => simp [intOf]; omega
            · rw [hany] at LK
              have HX := Lib.hid (show T.load s r l = false by
                rw [HF.out, hr.out, HS.out, hany]; simp)
              clear hg hany hr HS
              go_wp2_with fail
              refine (between_any _ _ _ _).mono ?_; rw [hbt]; rintro e w3 ⟨rfl, rfl⟩
              go_wp2_with fail
              go_ret
              exact ⟨hbr, .inr ⟨HX.out, rfl⟩⟩
        · have e : l.take k = l := List.take_of_length_le (by rw [← hl.1]; omega)
          have hd : l.drop k = [] := List.drop_eq_nil_of_le (by rw [← hl.1]; omega)
          have HX := Lib.hid (show T.load s r l = true by rw [HF.out, hr.out, hd]; rfl)
          rw [e] at hT
          clear e hd
          go_wp2_with fail
          go_ret
          exact ⟨hbr, .inl ⟨HX.out, _, rfl, hb2.size, hT⟩⟩
    · have HF := Lib.hid (show T.load s r l = false by simp only [T.load]; rw [h2]; simp)
      have H2 := Lib.hid h2
      clear h2
      go_enter Tryz.func169, Tryz.ntmps169
      go_wp2_with fail
      refine (check_any s _ (hs.below b0) hsn).mono ?_; rintro e w1 ⟨rfl, hb1'⟩; have hb1 := bel b0 hb1'; clear hb1'
      go_wp2_with fail
      refine (containsQ B m d r _ (hq.below hb1) hm hqn).mono ?_; rw [H2.out]; rintro e w2 ⟨rfl, hb2⟩
      go_wp2_with fail
      go_ret
      exact ⟨bel hb1 hb2, .inr ⟨HF.out, rfl⟩⟩
end Go.Proofs.YtippdjmpkafifaaGreat
namespace Go.Proofs.YtippdjmpkafifaaGreat
open Go.RowKit
namespace T
def fitFrom (rooms : List Int) : Nat → List Int → Bool
  | _, [] => true
  | i, x :: l => decide (x ≤ (rooms[i]?).getD 0) && fitFrom rooms (i + 1) l
def fits (s : S) (r : List Q) (l : List Int) : Bool := load s r l && fitFrom s.l 0 (loads r l)
def sum : List Int → Int
  | [] => 0
  | x :: l => x + sum l
def weight (s : S) (r : List Q) (l : List Int) : Int := if load s r l then s.tare + sum (loads r l) else -1
end T

theorem T.fit_drop {rooms l : List Int} {k : Nat} {x : Int} (h : l[k]? = some x) : T.fitFrom rooms k (l.drop k) = (decide (x ≤ (rooms[k]?).getD 0) && T.fitFrom rooms (k + 1) (l.drop (k + 1))) := by
  obtain ⟨hk, e⟩ := List.getElem?_eq_some_iff.1 h
  rw [List.drop_eq_getElem_cons hk, e]
  rfl

theorem T.sum_next {l : List Int} {k : Nat} {x : Int} (h : l[k]? = some x) : T.sum (l.take (k + 1)) = T.sum (l.take k) + x := by
  obtain ⟨hk, e⟩ := List.getElem?_eq_some_iff.1 h
  rw [List.take_succ_eq_append_getElem hk, e]
  have : ∀ (a : List Int) (y : Int), T.sum (a ++ [y]) = T.sum a + y := by
    intro a y
    induction a with
    | nil => simp [T.sum]
    | cons z a ih => simp [T.sum, ih]; omega
  exact this _ _

/-- The block b holds this shift. -/
def Shf (w : World) (b : Nat) (s : S) : Prop := w.heap[b]? = some (.cells #[.int .i64 s.day, .int .i64 s.depot, .int .i64 s.start, .int .i64 s.end_, .int .i64 s.tare, .slice s.A s.n s.c] 63 (0, 0))
theorem Shf.new (w : World) (s : S) : Shf (w.alloc (.cells #[.int .i64 s.day, .int .i64 s.depot, .int .i64 s.start, .int .i64 s.end_, .int .i64 s.tare, .slice s.A s.n s.c] 63)) w.heap.size s := (MapKept.heap_alloc w _).1
theorem Shf.below {w w' : World} {b : Nat} {s : S} (h : Shf w b s) (hb : Below w.heap.size w w') : Shf w' b s := blk_below hb h
theorem Shf.c4 {w : World} {b : Nat} {s : S} (h : Shf w b s) : w.cell? ⟨b, 4, none⟩ = some (.int .i64 s.tare) := blk_cell h 4 _ rfl
theorem Shf.c5 {w : World} {b : Nat} {s : S} (h : Shf w b s) : w.cell? ⟨b, 5, none⟩ = some (.slice s.A s.n s.c) := blk_cell h 5 _ rfl
theorem Shf.free {w : World} {b : Nat} {s : S} (h : Shf w b s) (i : Nat) : w.frozen? ⟨b, i, none⟩ = false := by
  unfold Shf at h
  simp [World.frozen?, h]
theorem Shf.set4 {w : World} {b : Nat} {s : S} (h : Shf w b s) (u : Int) : Shf (w.setCell ⟨b, 4, none⟩ (.int .i64 u)) b { s with tare := u } := by
  have hlt := lt_of_block h
  have h' : w.heap[b] = .cells #[.int .i64 s.day, .int .i64 s.depot, .int .i64 s.start, .int .i64 s.end_, .int .i64 s.tare, .slice s.A s.n s.c] 63 (0, 0) := by simpa [Shf, Array.getElem?_eq_getElem hlt] using h
  show (w.heap.modify b _)[b]? = _
  rw [Array.getElem?_eq_getElem (by simpa using hlt), Array.getElem_modify_self, h']
  rfl

theorem T.loads_bound {r : List Q} (h : T.allRight r) {l : List Int} {k : Nat} {x : Int} (hx : (T.loads r l)[k]? = some x) : 0 ≤ x ∧ x ≤ 1000000 * l.length := by
  have b := fun j => T.room_bound h j l
  have b0 := b 0
  have b1 := b 1
  have b2 := b 2
  unfold T.loads at hx
  rcases k with _ | _ | _ | k <;> simp at hx <;> subst hx <;> assumption

theorem T.check_rooms {s : S} (h : T.check s = 0) : s.l.length ≤ 3 ∧ (0 ≤ s.tare ∧ s.tare ≤ 1000000) ∧ ∀ x ∈ s.l, 0 ≤ x ∧ x ≤ 1000000 := by
  unfold T.check at h
  split at h
  · simp at h
  split at h
  · simp at h
  split at h
  · simp at h
  split at h
  · simp at h
  · rename_i h1 h2 h3 h4
    have h5 : ∀ x ∈ s.tare :: s.l, T.btw x 0 1000000 = true := fun x hx => by
      have := List.any_eq_false.1 (by simpa [T.heavy] using h4 : (s.tare :: s.l).any (fun x => !T.btw x 0 1000000) = false) x hx
      simpa using this
    refine ⟨by omega, T.btw_iff.1 (h5 _ List.mem_cons_self), fun x hx => T.btw_iff.1 (h5 _ (List.mem_cons_of_mem _ hx))⟩
end Go.Proofs.YtippdjmpkafifaaGreat
namespace Go.Proofs.YtippdjmpkafifaaGreat
open Go.RowKit Go.Maps

set_option maxHeartbeats 4000000 in
theorem fits_any (s : S) (B : Option Addr) (m d : Nat) (r : List Q) (A : Option Addr) (n c : Nat) (l : List Int) (w : World) (hs : Ints w s.A s.n s.l) (hsn : s.n ≤ 1000000000) (hq : Reqs w B m r) (hm : m ≤ 1000000000) (hqn : ∀ q ∈ r, q.n ≤ 1000000000) (hl : Ints w A n l) (hn : n ≤ 1000000000) :
    Calls Tryz.prog 121 #[.agg #[.int .i64 s.day, .int .i64 s.depot, .int .i64 s.start, .int .i64 s.end_, .int .i64 s.tare, .slice s.A s.n s.c], .slice B m d, .slice A n c] w fun e w' => e = .returned (.bool (T.fits s r l)) ∧ Below w.heap.size w w' := by
  obtain ⟨dy, dp, st, en, ta, SA, sn, sc, sl⟩ := s
  simp only at hs hsn ⊢
  have b0 := (Below.refl w.heap.size w).alloc (Nat.le_refl _) (.cells #[.int .i64 dy, .int .i64 dp, .int .i64 st, .int .i64 en, .int .i64 ta, .slice SA sn sc] 63)
  go_enter Tryz.func121, Tryz.ntmps121
  go_wp2_with fail
  refine (loads_any ⟨dy, dp, st, en, ta, SA, sn, sc, sl⟩ B m d r A n c l _ (hs.below b0) hsn (hq.below b0) hm hqn (hl.below b0) hn).mono ?_
  rintro e w1 ⟨hb1, hok⟩
  have hP := (Shf.new w ⟨dy, dp, st, en, ta, SA, sn, sc, sl⟩).below hb1
  have hb := bel b0 hb1
  clear hb1
  rcases hok with ⟨hok, g, rfl, hg, hT⟩ | ⟨hno, rfl⟩
  · have HF := Lib.hid (show T.fits ⟨dy, dp, st, en, ta, SA, sn, sc, sl⟩ r l = T.fitFrom sl 0 (T.loads r l) by simp [T.fits, hok])
    obtain ⟨hch, _, hri⟩ := T.load_parts hok
    have HB := Lib.hid (fun k x => T.loads_bound (k := k) (x := x) hri (l := l))
    have HC := Lib.hid (T.check_rooms hch)
    have hI : Ints w1 (some ⟨g, 0, none⟩) 3 (T.loads r l) := hT.ints
    have hs1 := hs.below hb
    obtain ⟨G, hG⟩ : ∃ G : Addr, G = ⟨g, 0, none⟩ := ⟨_, rfl⟩
    rw [← hG] at hI ⊢
    clear hG
    clear hok hch hri hT b0
    have p5 := hP.c5
    go_wp2_with fail
    go_loopw [16] (fun vi wr => ∃ k : Nat, vi = .int .i64 k ∧ k ≤ 3 ∧ Hid (T.fits ⟨dy, dp, st, en, ta, SA, sn, sc, sl⟩ r l = T.fitFrom sl k ((T.loads r l).drop k)) ∧ w1 = wr) (fun vi _ => 3 - (intOf vi).toNat)
    case atStart => exact ⟨0, rfl, by omega, HF.out, rfl⟩
    case round =>
      obtain ⟨k, rfl, hk, hr, rfl⟩ := hrel
      by_cases hlt : k < 3
      · obtain ⟨ad, x, he, hx, c0⟩ := hI.at_ hlt
        injection he with he; subst he
        have HS := Lib.hid (T.fit_drop (rooms := sl) hx)
        obtain ⟨hx0, hx1⟩ := HB.out k x hx
        have hx2 : x ≤ 1000000 * 1000000000 := by rw [← hl.1] at hx1; omega
        clear hx hx1
        by_cases hx : 0 < x
        · by_cases hks : k < sn
          · obtain ⟨ad2, y, rfl, hy, c1⟩ := hs1.at_ hks
            have hyb := HC.out.2.2 y (List.mem_of_getElem? hy)
            have HY := Lib.hid (show (sl[k]?).getD 0 = y by rw [hy]; rfl)
            clear hy
            by_cases hxy : y < x
            · have HX := Lib.hid (show T.fits ⟨dy, dp, st, en, ta, some ad2, sn, sc, sl⟩ r l = false by
                rw [hr.out, HS.out, HY.out]; simp; omega)
              clear HS hr HF
              go_wp2_with fail
              go_ret
              exact ⟨ret_b HX.out.symm, hb⟩
            · have HX := Lib.hid (show T.fits ⟨dy, dp, st, en, ta, some ad2, sn, sc, sl⟩ r l = T.fitFrom sl (k + 1) ((T.loads r l).drop (k + 1)) by
                rw [hr.out, HS.out, HY.out]; simp; omega)
              clear HS hr HF
              go_wp2_with fail
              go_roundw
              case rel => exact ⟨k + 1, by go_num, by omega, HX.out, trivial⟩
              case measure => simp [intOf]; omega
          · have HX := Lib.hid (show T.fits ⟨dy, dp, st, en, ta, SA, sn, sc, sl⟩ r l = false by
              rw [hr.out, HS.out, List.getElem?_eq_none (by rw [← hs.1]; omega)]; simp; omega)
            clear HS hr HF
            go_wp2_with fail
            go_ret
            exact ⟨ret_b HX.out.symm, hb⟩
        · have HX := Lib.hid (show T.fits ⟨dy, dp, st, en, ta, SA, sn, sc, sl⟩ r l = T.fitFrom sl (k + 1) ((T.loads r l).drop (k + 1)) by
            rw [hr.out, HS.out]
            have h9 : x ≤ (sl[k]?).getD 0 := by
              cases hy : sl[k]? with
              | none => simp; omega
              | some y => have := (HC.out.2.2 y (List.mem_of_getElem? hy)).1; simp; omega
            simp [h9])
          clear HS hr HF
          go_wp2_with fail
          go_roundw
          case rel => exact ⟨k + 1, by go_num, by omega, HX.out, trivial⟩
          case measure => simp [intOf]; omega
      · have hd : (T.loads r l).drop k = [] := List.drop_eq_nil_of_le (by simp [T.loads]; omega)
        have HX := Lib.hid (show T.fits ⟨dy, dp, st, en, ta, SA, sn, sc, sl⟩ r l = true by rw [hr.out, hd]; rfl)
        clear hd hr HF
        go_wp2_with fail
        go_ret
        exact ⟨ret_b HX.out.symm, hb⟩
  · have HF := Lib.hid (show T.fits ⟨dy, dp, st, en, ta, SA, sn, sc, sl⟩ r l = false by simp [T.fits, hno])
    clear hno
    go_wp2_with fail
    refine wp_loop_rounds 1 ?_
    rw [rounds_succ]
    go_wp2_with fail
    go_ret
    exact ⟨ret_b HF.out.symm, hb⟩
end Go.Proofs.YtippdjmpkafifaaGreat
namespace Go.Proofs.YtippdjmpkafifaaGreat
open Go.RowKit Go.Maps

end Go.Proofs.YtippdjmpkafifaaGreat
namespace Go.Proofs.YtippdjmpkafifaaGreat
open Go.RowKit Go.Maps

theorem Three.other {w : World} {B : Nat} {x y z : Int} (h : Three w B x y z) {a : Addr} (ha : B ≠ a.block) (u : Value) : Three (w.setCell a u) B x y z := (Below.heap_setCell w a u B ha).trans h

theorem T.weight_take {s : S} {r : List Q} {l : List Int} (h : T.load s r l = true) : T.weight s r l = s.tare + T.sum ((T.loads r l).take 3) := by simp [T.weight, h, T.loads]

theorem T.sum_bound {l : List Int} {b : Int} (h : ∀ x ∈ l, 0 ≤ x ∧ x ≤ b) : 0 ≤ T.sum l ∧ T.sum l ≤ b * l.length := by
  induction l with
  | nil => simp [T.sum]
  | cons x l ih =>
    have h1 := h x List.mem_cons_self
    have h2 := ih fun y hy => h y (List.mem_cons_of_mem _ hy)
    have e : b * ((l.length : Int) + 1) = b * l.length + b := by rw [Int.mul_add, Int.mul_one]
    simp only [T.sum, List.length_cons]
    rw [Int.natCast_add, Int.natCast_one, e]
    omega

theorem T.take_bound {r : List Q} (h : T.allRight r) {l : List Int} {n k : Nat} (hn : n = l.length) (h9 : n ≤ 1000000000) (hk : k ≤ 3) : 0 ≤ T.sum ((T.loads r l).take k) ∧ T.sum ((T.loads r l).take k) ≤ 3000000000000000 := by
  have b := T.sum_bound (l := (T.loads r l).take k) (b := 1000000000000000) fun x hx => by
    obtain ⟨j, hj⟩ := List.mem_iff_getElem?.1 (List.mem_of_mem_take hx)
    have := T.loads_bound h hj
    omega
  have hl : ((T.loads r l).take k).length ≤ 3 := by rw [List.length_take]; simp [T.loads]; omega
  omega

theorem eql48 (a : Option Addr) (l c : Nat) (w : World) : (binOp .eql 48 (.slice a l c) (.slice none 0 0)).run Tryz.prog w = .ok (.bool a.isNone) w := by
  exact Go.run_eql_slice_nil w 48 3 a l c Tryz.underlying48

set_option maxHeartbeats 4000000 in
theorem weight_any (s : S) (B : Option Addr) (m d : Nat) (r : List Q) (A : Option Addr) (n c : Nat) (l : List Int) (w : World) (hs : Ints w s.A s.n s.l) (hsn : s.n ≤ 1000000000) (hq : Reqs w B m r) (hm : m ≤ 1000000000) (hqn : ∀ q ∈ r, q.n ≤ 1000000000) (hl : Ints w A n l) (hn : n ≤ 1000000000) :
    Calls Tryz.prog 190 #[.agg #[.int .i64 s.day, .int .i64 s.depot, .int .i64 s.start, .int .i64 s.end_, .int .i64 s.tare, .slice s.A s.n s.c], .slice B m d, .slice A n c] w fun e w' => e = .returned (.int .i64 (T.weight s r l)) ∧ Below w.heap.size w w' := by
  obtain ⟨dy, dp, st, en, ta, SA, sn, sc, sl⟩ := s
  simp only at hs hsn ⊢
  have b0 := (Below.refl w.heap.size w).alloc (Nat.le_refl _) (.cells #[.int .i64 dy, .int .i64 dp, .int .i64 st, .int .i64 en, .int .i64 ta, .slice SA sn sc] 63)
  have SZ := World.size_alloc w (.cells #[.int .i64 dy, .int .i64 dp, .int .i64 st, .int .i64 en, .int .i64 ta, .slice SA sn sc] 63)
  have heq := eql48
  go_enter Tryz.func190, Tryz.ntmps190
  go_wp2_with fail
  refine (loads_any ⟨dy, dp, st, en, ta, SA, sn, sc, sl⟩ B m d r A n c l _ (hs.below b0) hsn (hq.below b0) hm hqn (hl.below b0) hn).mono ?_
  rintro e w1 ⟨hb1, hok⟩
  have hP := (Shf.new w ⟨dy, dp, st, en, ta, SA, sn, sc, sl⟩).below hb1
  have hb := bel b0 hb1
  clear hb1
  rcases hok with ⟨hok, g, rfl, hg, hT⟩ | ⟨hno, rfl⟩
  · have HF := Lib.hid (T.weight_take hok)
    obtain ⟨hch, _, hri⟩ := T.load_parts hok
    have HB := Lib.hid (fun k (hk : k ≤ 3) => T.take_bound (k := k) hri hl.1 hn hk)
    have HC := (T.check_rooms hch).2.1
    simp only at HC
    have HG := Lib.hid hg
    clear hok hch hri b0 hg
    go_wp2_with fail
    go_loopw [18] (fun vi wr => ∃ k : Nat, vi = .int .i64 k ∧ k ≤ 3 ∧ Shf wr w.heap.size ⟨dy, dp, st, en, ta + T.sum ((T.loads r l).take k), SA, sn, sc, sl⟩ ∧ Three wr g (T.room r 0 l) (T.room r 1 l) (T.room r 2 l) ∧ Below w.heap.size w wr) (fun vi _ => 3 - (intOf vi).toNat)
    case atStart => exact ⟨0, rfl, by omega, by simpa [T.sum] using hP, hT, hb⟩
    case round =>
      obtain ⟨k, rfl, hk, hP, hT, hb⟩ := hrel
      have hI : Ints wr (some ⟨g, 0, none⟩) 3 (T.loads r l) := hT.ints
      obtain ⟨tk, htk⟩ : ∃ x, x = T.sum ((T.loads r l).take k) := ⟨_, rfl⟩
      have B0 := HB.out k hk
      rw [← htk] at B0 hP
      have p4 := hP.c4
      simp only at p4
      have pf := hP.free
      by_cases hlt : k < 3
      · obtain ⟨ad, x, he, hx, c0⟩ := hI.at_ hlt
        injection he with he; subst he
        have HS := Lib.hid (T.sum_next hx)
        have B1 := HB.out (k + 1) hlt
        rw [HS.out, ← htk] at B1
        rw [← htk] at HS
        rw [add_zero_block] at c0
        clear hx htk hI
        go_wp2_with fail
        go_roundw
        case rel =>
          refine ⟨k + 1, by go_num, by omega, ?_, hT.other (by have := HG.out; show g ≠ w.heap.size; omega) _, hb.setCell (Nat.le_refl _) _⟩
          have hn := hP.set4 (ta + tk + x)
          simp only at hn
          rw [HS.out, ← Int.add_assoc]
          exact hn
        case measure => simp [intOf]; omega
      · have hk3 : k = 3 := by omega
        have HX := Lib.hid (show T.weight ⟨dy, dp, st, en, ta, SA, sn, sc, sl⟩ r l = ta + tk by rw [HF.out, htk, hk3])
        clear htk HF hI
        go_wp2_with fail
        go_ret
        exact ⟨ret_i HX.out.symm, hb⟩
  · have HF := Lib.hid (show T.weight ⟨dy, dp, st, en, ta, SA, sn, sc, sl⟩ r l = -1 by simp [T.weight, hno])
    clear hno
    go_wp2_with fail
    go_ret
    exact ⟨ret_i HF.out.symm, hb⟩
end Go.Proofs.YtippdjmpkafifaaGreat
namespace Go.Proofs.YtippdjmpkafifaaGreat
open Go.RowKit Go.Maps

end Go.Proofs.YtippdjmpkafifaaGreat
namespace Go.Proofs.YtippdjmpkafifaaGreat
open Go.RowKit

theorem T.isSetFrom_iff {n : Int} : ∀ (l b : List Int), T.isSetFrom n b l = true ↔ (∀ x ∈ l, 0 ≤ x ∧ x < n) ∧ l.Nodup ∧ ∀ x ∈ l, x ∉ b := by
  intro l
  induction l with
  | nil => intro b; simp [T.isSetFrom]
  | cons y l ih =>
    intro b
    simp only [T.isSetFrom, Bool.and_eq_true, decide_eq_true_eq, Bool.not_eq_true', List.any_eq_false, beq_iff_eq, ih, List.mem_cons, List.nodup_cons, List.mem_append, forall_eq_or_imp]
    constructor
    · rintro ⟨h1, h2, h3, h4, h5, h6⟩
      refine ⟨⟨⟨h1, h2⟩, h4⟩, ⟨fun hy => h6 y hy (Or.inr (Or.inl rfl)), h5⟩, fun hb => h3 y hb rfl, fun x hx hb => h6 x hx (Or.inl hb)⟩
    · rintro ⟨⟨⟨h1, h2⟩, h4⟩, ⟨h7, h5⟩, h3, h6⟩
      refine ⟨h1, h2, fun x hx e => h3 (e ▸ hx), h4, h5, fun x hx hb => ?_⟩
      rcases hb with hb | hb | hb
      · exact h6 x hx hb
      · subst hb; exact h7 hx
      · simp at hb

theorem T.isSet_iff {n : Int} {l : List Int} : T.isSet n l = true ↔ (∀ x ∈ l, 0 ≤ x ∧ x < n) ∧ l.Nodup := by
  unfold T.isSet
  rw [T.isSetFrom_iff]
  simp

theorem T.load_iff {s : S} {r : List Q} {l : List Int} : T.load s r l = true ↔ T.check s = 0 ∧ ((∀ x ∈ l, 0 ≤ x ∧ x < (r.length : Int)) ∧ l.Nodup) ∧ T.allRight r := by
  constructor
  · intro h
    obtain ⟨h1, h2, h3⟩ := T.load_parts h
    exact ⟨h1, T.isSet_iff.1 h2, h3⟩
  · rintro ⟨h1, h2, h3⟩
    exact T.load_mk h1 (T.isSet_iff.2 h2) h3

theorem T.load_sub {s : S} {r : List Q} {l m : List Int} (h : T.load s r l = true) (hs : m.Sublist l) : T.load s r m = true := by
  obtain ⟨h1, ⟨h2, h3⟩, h4⟩ := T.load_iff.1 h
  exact T.load_iff.2 ⟨h1, ⟨fun x hx => h2 x (hs.subset hx), h3.sublist hs⟩, h4⟩

theorem T.room_sub {r : List Q} (h : T.allRight r) (j : Int) {l m : List Int} (hs : m.Sublist l) : T.room r j m ≤ T.room r j l := by
  induction hs with
  | slnil => exact Int.le_refl _
  | cons x _ ih => have := (T.kilo_bound h j x).1; simp only [T.room]; omega
  | cons_cons x _ ih => simp only [T.room]; omega

theorem T.fits_iff {s : S} {r : List Q} {l : List Int} : T.fits s r l = true ↔ T.load s r l = true ∧ T.room r 0 l ≤ (s.l[0]?).getD 0 ∧ T.room r 1 l ≤ (s.l[1]?).getD 0 ∧ T.room r 2 l ≤ (s.l[2]?).getD 0 := by
  simp [T.fits, T.loads, T.fitFrom]

theorem T.fits_sub {s : S} {r : List Q} {l m : List Int} (h : T.fits s r l = true) (hs : m.Sublist l) : T.fits s r m = true := by
  obtain ⟨h0, h1, h2, h3⟩ := T.fits_iff.1 h
  obtain ⟨_, _, hr⟩ := T.load_parts h0
  have k := fun j => T.room_sub hr j hs
  have k0 := k 0
  have k1 := k 1
  have k2 := k 2
  exact T.fits_iff.2 ⟨T.load_sub h0 hs, by omega, by omega, by omega⟩

theorem T.weight_eq {s : S} {r : List Q} {l : List Int} (h : T.load s r l = true) : T.weight s r l = s.tare + T.room r 0 l + T.room r 1 l + T.room r 2 l := by
  simp [T.weight, h, T.loads, T.sum]; omega

theorem T.weight_sub {s : S} {r : List Q} {l m : List Int} (h : T.load s r l = true) (hs : m.Sublist l) : T.weight s r m ≤ T.weight s r l := by
  obtain ⟨_, _, hr⟩ := T.load_parts h
  have k := fun j => T.room_sub hr j hs
  have k0 := k 0
  have k1 := k 1
  have k2 := k 2
  rw [T.weight_eq h, T.weight_eq (T.load_sub h hs)]
  omega

end Go.Proofs.YtippdjmpkafifaaGreat
namespace Go.Proofs.YtippdjmpkafifaaGreat
open Go.RowKit

theorem T.weight_bound {s : S} {r : List Q} {l : List Int} (h : T.load s r l = true) (hl : l.length ≤ 1000) : 0 ≤ T.weight s r l ∧ T.weight s r l ≤ 4000000000 := by
  obtain ⟨hc, _, hr⟩ := T.load_parts h
  have ht := (T.check_rooms hc).2.1
  have k := fun j => T.room_bound hr j l
  have k0 := k 0
  have k1 := k 1
  have k2 := k 2
  rw [T.weight_eq h]
  omega

end Go.Proofs.YtippdjmpkafifaaGreat
