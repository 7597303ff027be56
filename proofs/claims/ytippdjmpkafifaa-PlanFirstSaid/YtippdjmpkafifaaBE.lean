/-
The walk of the example of Tour.
The walks of says and small: the examples of Tour.
The walk of small: the examples of Tour.
-/
import Derived.Test.YtippdjmpkafifaaBD
import Derived.BigRegion
namespace Go.Proofs.Ytippdjmpkafifaa
open Go.RowKit

def K.exL : List Ro := [⟨0, 1, 10, -1⟩, ⟨1, 2, 10, -1⟩, ⟨2, 0, 10, -1⟩, ⟨1, 0, 5, 9000⟩]
def K.exS (tare : Int) (A : Option Addr) (c : Nat) : S := ⟨3, 0, 60, 120, tare, A, 1, c, [2000]⟩
def K.exR (kilos : Int) (A : Option Addr) (c : Nat) : List Q := [⟨1, 0, 900, 5, 0, 9, none, 0, 0, []⟩, ⟨2, 0, kilos, 5, 0, 9, A, 1, c, [(90, 100)]⟩]
/-- The example. -/
def K.exC (tare kilos : Int) (A : Option Addr) (c : Nat) (A2 : Option Addr) (c2 : Nat) (A3 : Option Addr) (c3 : Nat) (B : Option Addr) (d : Nat) : C := ⟨3, A, 4, c, K.exL, K.exS tare A2 c2, B, 2, d, K.exR kilos A3 c3⟩
def IsEx (tare kilos : Int) (x : C) : Prop := ∃ A c A2 c2 A3 c3 B d, x = K.exC tare kilos A c A2 c2 A3 c3 B d

/-- One block after the other is made. -/
def Als (w : World) : List Obj → World
  | [] => w
  | o :: l => Als (w.alloc o) l
theorem Als.size : ∀ (l : List Obj) (w : World), (Als w l).heap.size = w.heap.size + l.length := by
  intro l
  induction l with
  | nil => intro w; rfl
  | cons o l ih => intro w; show (Als (w.alloc o) l).heap.size = _; rw [ih, World.size_alloc, List.length_cons]; omega
theorem Als.below : ∀ (l : List Obj) (w : World), Below w.heap.size w (Als w l) := by
  intro l
  induction l with
  | nil => intro w; exact Below.refl _ _
  | cons o l ih => intro w; exact bel ((Below.refl _ _).alloc (Nat.le_refl _) o) (ih _)
theorem Als.get : ∀ (l : List Obj) (w : World) (i : Nat) (o : Obj), l[i]? = some o → (Als w l).heap[w.heap.size + i]? = some o := by
  intro l
  induction l with
  | nil => intro w i o h; simp at h
  | cons o' l ih =>
    intro w i o h
    show (Als (w.alloc o') l).heap[_]? = _
    cases i with
    | zero =>
      simp at h; subst h
      exact blk_below (Als.below l _) (heap_alloc_new w o')
    | succ i =>
      have := ih (w.alloc o') i o (by simpa using h)
      rw [World.size_alloc] at this
      rw [← this]; congr 1; omega

/-- One cell after the other is written. -/
def Sets (w : World) : List (Addr × Value) → World
  | [] => w
  | p :: l => Sets (w.setCell p.1 p.2) l
theorem Sets.other : ∀ (l : List (Addr × Value)) (w : World) (g : Nat), (∀ p ∈ l, p.1.block ≠ g) → (Sets w l).heap[g]? = w.heap[g]? := by
  intro l
  induction l with
  | nil => intro w g _; rfl
  | cons p l ih =>
    intro w g h
    show (Sets (w.setCell p.1 p.2) l).heap[g]? = _
    rw [ih _ g (fun q hq => h q (List.mem_cons_of_mem _ hq))]
    exact Below.heap_setCell w p.1 p.2 g (Ne.symm (h p List.mem_cons_self))
theorem Sets.below {B : Nat} : ∀ (l : List (Addr × Value)) (w w' : World), Below B w w' → (∀ p ∈ l, B ≤ p.1.block) → Below B w (Sets w' l) := by
  intro l
  induction l with
  | nil => intro w w' hb _; exact hb
  | cons p l ih => intro w w' hb h; exact ih w _ (hb.setCell (h p List.mem_cons_self) _) (fun q hq => h q (List.mem_cons_of_mem _ hq))

def exSets (b : Nat) (tare : Int) : List (Addr × Value) := [(⟨b, 0, none⟩, .int .i64 3), (⟨b, 1, none⟩, .slice (some ⟨b + 1 + 1, 0, none⟩) 4 4), (⟨b + 1, 0, none⟩, .int .i64 3), (⟨b + 1, 1, none⟩, .int .i64 0), (⟨b + 1, 2, none⟩, .int .i64 60), (⟨b + 1, 3, none⟩, .int .i64 120), (⟨b + 1, 4, none⟩, .int .i64 tare), (⟨b + 1, 5, none⟩, .slice (some ⟨b + 1 + 1 + 1 + 1, 0, none⟩) 1 1)]
theorem ex_block {b : Nat} {tare : Int} {p : Addr × Value} (h : p ∈ exSets b tare) : b ≤ p.1.block ∧ p.1.block ≤ b + 1 := by
  simp only [exSets, List.mem_cons, List.not_mem_nil, or_false] at h
  rcases h with rfl | rfl | rfl | rfl | rfl | rfl | rfl | rfl <;> simp
theorem ex_sets {w8 : World} {tare : Int} {b : Nat} (h0 : w8.heap[b]? = some (.cells #[.int .i64 0, .slice none 0 0] 24 (0, 0))) (h1 : w8.heap[b + 1]? = some (.cells #[.int .i64 0, .int .i64 0, .int .i64 0, .int .i64 0, .int .i64 0, .slice none 0 0] 43 (0, 0))) :
    (Sets w8 (exSets b tare)).heap[b]? = some (.cells #[.int .i64 3, .slice (some ⟨b + 1 + 1, 0, none⟩) 4 4] 24 (0, 0)) ∧ (Sets w8 (exSets b tare)).heap[b + 1]? = some (.cells #[.int .i64 3, .int .i64 0, .int .i64 60, .int .i64 120, .int .i64 tare, .slice (some ⟨b + 1 + 1 + 1 + 1, 0, none⟩) 1 1] 43 (0, 0)) := by
  obtain ⟨A1, hA1⟩ : ∃ A : Addr, A = ⟨b + 1 + 1, 0, none⟩ := ⟨_, rfl⟩
  obtain ⟨A2, hA2⟩ : ∃ A : Addr, A = ⟨b + 1 + 1 + 1 + 1, 0, none⟩ := ⟨_, rfl⟩
  have a1 := blk_set (blk_set h0 0 (.int .i64 3)) 1 (.slice (some A1) 4 4)
  obtain ⟨wa, hwa⟩ : ∃ wa : World, wa = (w8.setCell ⟨b, 0, none⟩ (.int .i64 3)).setCell ⟨b, 1, none⟩ (.slice (some A1) 4 4) := ⟨_, rfl⟩
  have b1 : wa.heap[b + 1]? = some (.cells #[.int .i64 0, .int .i64 0, .int .i64 0, .int .i64 0, .int .i64 0, .slice none 0 0] 43 (0, 0)) := by
    rw [hwa]
    exact ((Below.heap_setCell _ ⟨b, 1, none⟩ _ _ (show b + 1 ≠ b by omega)).trans (Below.heap_setCell _ ⟨b, 0, none⟩ _ _ (show b + 1 ≠ b by omega))).trans h1
  have e : Sets w8 (exSets b tare) = Sets wa [(⟨b + 1, 0, none⟩, .int .i64 3), (⟨b + 1, 1, none⟩, .int .i64 0), (⟨b + 1, 2, none⟩, .int .i64 60), (⟨b + 1, 3, none⟩, .int .i64 120), (⟨b + 1, 4, none⟩, .int .i64 tare), (⟨b + 1, 5, none⟩, .slice (some A2) 1 1)] := by
    rw [hwa, hA1, hA2]
    simp only [Sets, exSets]
  rw [e, ← hA1, ← hA2]
  rw [← hwa] at a1
  clear e hwa hA1 hA2
  refine ⟨?_, ?_⟩
  · refine (Sets.other _ wa b (fun p hp => ?_)).trans a1
    simp only [List.mem_cons, List.not_mem_nil, or_false] at hp
    rcases hp with rfl | rfl | rfl | rfl | rfl | rfl <;> simp
  · have c0 := blk_set b1 0 (.int .i64 3)
    have c1 := blk_set c0 1 (.int .i64 0)
    have c2 := blk_set c1 2 (.int .i64 60)
    have c3 := blk_set c2 3 (.int .i64 120)
    have c4 := blk_set c3 4 (.int .i64 tare)
    have c5 := blk_set c4 5 (.slice (some A2) 1 1)
    simp only [Sets]
    exact c5

theorem results_cells2_tmp {fn : Func} {p q u : Tmp} {ty ty2 : TypeId} (h : fn.results = #[.cell p ty, .cell q ty2, .tmp u]) (tmps : Array Value) (P : Program) (w : World) :
    (results fn tmps).run P w =
      ((asAddr (tmps.getD p undef)).run P w).andThen fun a w₁ => ((loadVar ty a).run P w₁).andThen fun x w₂ => ((asAddr (tmps.getD q undef)).run P w₂).andThen fun b w₃ => ((loadVar ty2 b).run P w₃).andThen fun y w₄ => .ok (.tuple #[x, y, tmps.getD u undef]) w₄ := by
  simp only [results, h]
  simp [Sem.run_bind, Result.andThen]

end Go.Proofs.Ytippdjmpkafifaa
namespace Go.Proofs.Ytippdjmpkafifaa
open Go.RowKit

end Go.Proofs.Ytippdjmpkafifaa
namespace Go.Proofs.Ytippdjmpkafifaa
open Go.RowKit

theorem two_lits (w : World) (la lb : List Int) : Ints ((w.alloc (.cells (intCells la).toArray 3)).alloc (.cells (intCells lb).toArray 3)) (some ⟨w.heap.size, 0, none⟩) la.length la ∧
    Ints ((w.alloc (.cells (intCells la).toArray 3)).alloc (.cells (intCells lb).toArray 3)) (some ⟨w.heap.size + 1, 0, none⟩) lb.length lb ∧ Below w.heap.size w ((w.alloc (.cells (intCells la).toArray 3)).alloc (.cells (intCells lb).toArray 3)) := by
  have b1 : Below w.heap.size w (w.alloc (.cells (intCells la).toArray 3)) := (Below.refl _ _).alloc (Nat.le_refl _) _
  have b2 : Below (w.alloc (.cells (intCells la).toArray 3)).heap.size (w.alloc (.cells (intCells la).toArray 3)) ((w.alloc (.cells (intCells la).toArray 3)).alloc (.cells (intCells lb).toArray 3)) := (Below.refl _ _).alloc (Nat.le_refl _) _
  have h2 := ints_lit (w.alloc (.cells (intCells la).toArray 3)) lb
  rw [World.size_alloc] at h2
  exact ⟨(ints_lit w la).below b2, h2, bel b1 b2⟩

theorem K.ex_r1 (x : C) (h : IsEx 8000 1200 x) : K.run x.nd x.l x.s x.r [0, 1] = ⟨K.Tr.zero, 20, 1⟩ := by
  obtain ⟨A, c, A2, c2, A3, c3, B, d, rfl⟩ := h
  kernel_rfl
theorem K.ex_r2 (x : C) (h : IsEx 8000 1200 x) : K.run x.nd x.l x.s x.r [1, 1] = ⟨K.Tr.zero, 1, 0⟩ := by
  obtain ⟨A, c, A2, c2, A3, c3, B, d, rfl⟩ := h
  kernel_rfl
theorem K.ex_y1 (x : C) (h : IsEx 8000 1200 x) : K.run x.nd x.l x.s x.r [] = ⟨⟨[], [], 60⟩, 0, 0⟩ := by
  obtain ⟨A, c, A2, c2, A3, c3, B, d, rfl⟩ := h
  kernel_rfl
theorem K.ex_y2 (x : C) (h : IsEx 8000 1200 x) : K.run x.nd x.l x.s x.r [0] = ⟨⟨[0], [70], 80⟩, 0, 1⟩ := by
  obtain ⟨A, c, A2, c2, A3, c3, B, d, rfl⟩ := h
  kernel_rfl
theorem K.ex_y3 (x : C) (h : IsEx 8000 1200 x) : K.run x.nd x.l x.s x.r [1] = ⟨⟨[1], [90], 105⟩, 0, 1⟩ := by
  obtain ⟨A, c, A2, c2, A3, c3, B, d, rfl⟩ := h
  kernel_rfl
theorem K.ex_y4 (x : C) (h : IsEx 8000 1000 x) : K.run x.nd x.l x.s x.r [0, 1] = ⟨⟨[0, 1], [70, 90], 105⟩, 0, 2⟩ := by
  obtain ⟨A, c, A2, c2, A3, c3, B, d, rfl⟩ := h
  kernel_rfl
theorem K.ex_y5 (x : C) (h : IsEx 8200 1200 x) : K.run x.nd x.l x.s x.r [0] = ⟨⟨[0], [70], 95⟩, 0, 1⟩ := by
  obtain ⟨A, c, A2, c2, A3, c3, B, d, rfl⟩ := h
  kernel_rfl
theorem K.ex_no (x : C) (h : IsEx 8000 1200 x) : K.check x.nd x.l x.s x.r ⟨[0], [71], 80⟩ = false := by
  obtain ⟨A, c, A2, c2, A3, c3, B, d, rfl⟩ := h
  kernel_rfl

end Go.Proofs.Ytippdjmpkafifaa
