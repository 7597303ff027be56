/-
The walk of the example of Tour.
The walks of says and small: the examples of Tour.
The walk of small: the examples of Tour.
-/
import Derived.Test.YtjcdpfpdjcannaaBD
import Derived.BigRegion
namespace Go.Proofs.Ytjcdpfpdjcannaa
open Go.RowKit

def K.exL : List Ro := [⟨0, 1, 10, -1⟩, ⟨1, 2, 10, -1⟩, ⟨2, 0, 10, -1⟩, ⟨1, 0, 5, 9000⟩]
def K.exS (tare : Int) (A : Option Addr) (c : Nat) : S := ⟨3, 0, 60, 120, tare, A, 1, c, [2000]⟩
def K.exR (kilos : Int) (A : Option Addr) (c : Nat) : List Q := [⟨1, 0, 900, 5, 0, 9, none, 0, 0, []⟩, ⟨2, 0, kilos, 5, 0, 9, A, 1, c, [(90, 100)]⟩]
/-- The example. -/
def K.exC (tare kilos : Int) (A : Option Addr) (c : Nat) (A2 : Option Addr) (c2 : Nat) (A3 : Option Addr) (c3 : Nat) (B : Option Addr) (d : Nat) : C := ⟨3, A, 4, c, K.exL, K.exS tare A2 c2, B, 2, d, K.exR kilos A3 c3⟩
def IsEx (tare kilos : Int) (x : C) : Prop := ∃ A c A2 c2 A3 c3 B d, x = K.exC tare kilos A c A2 c2 A3 c3 B d

/-- One block after the other is made. -/
def Als (w : World) : List Obj → World
  | [] => w
  | o :: l => Als (w.alloc o) l
theorem Als.size : ∀ (l : List Obj) (w : World), (Als w l).heap.size = w.heap.size + l.length := by
  intro l
  induction l with
  | nil => intro w; rfl
  | cons o l ih => intro w; show (Als (w.alloc o) l).heap.size = _; rw [ih, World.size_alloc, List.length_cons]; omega
theorem Als.below : ∀ (l : List Obj) (w : World), Below w.heap.size w (Als w l) := by
  intro l
  induction l with
  | nil => intro w; exact Below.refl _ _
  | cons o l ih => intro w; exact bel ((Below.refl _ _).alloc (Nat.le_refl _) o) (ih _)
theorem Als.get : ∀ (l : List Obj) (w : World) (i : Nat) (o : Obj), l[i]? = some o → (Als w l).heap[w.heap.size + i]? = some o := by
  intro l
  induction l with
  | nil => intro w i o h; simp at h
  | cons o' l ih =>
    intro w i o h
    show (Als (w.alloc o') l).heap[_]? = _
    cases i with
    | zero =>
      simp at h; subst h
      exact blk_below (Als.below l _) (heap_alloc_new w o')
    | succ i =>
      have := ih (w.alloc o') i o (by simpa using h)
      rw [World.size_alloc] at this
      rw [← this]; congr 1; omega

/-- One cell after the other is written. -/
def Sets (w : World) : List (Addr × Value) → World
  | [] => w
  | p :: l => Sets (w.setCell p.1 p.2) l
theorem Sets.other : ∀ (l : List (Addr × Value)) (w : World) (g : Nat), (∀ p ∈ l, p.1.block ≠ g) → (Sets w l).heap[g]? = w.heap[g]? := by
  intro l
  induction l with
  | nil => intro w g _; rfl
  | cons p l ih =>
    intro w g h
    show (Sets (w.setCell p.1 p.2) l).heap[g]? = _
    rw [ih _ g (fun q hq => h q (List.mem_cons_of_mem _ hq))]
    exact Below.heap_setCell w p.1 p.2 g (Ne.symm (h p List.mem_cons_self))
theorem Sets.below {B : Nat} : ∀ (l : List (Addr × Value)) (w w' : World), Below B w w' → (∀ p ∈ l, B ≤ p.1.block) → Below B w (Sets w' l) := by
  intro l
  induction l with
  | nil => intro w w' hb _; exact hb
  | cons p l ih => intro w w' hb h; exact ih w _ (hb.setCell (h p List.mem_cons_self) _) (fun q hq => h q (List.mem_cons_of_mem _ hq))

def exSets (b : Nat) (tare : Int) : List (Addr × Value) := [(⟨b, 0, none⟩, .int .i64 3), (⟨b, 1, none⟩, .slice (some ⟨b + 1 + 1, 0, none⟩) 4 4), (⟨b + 1, 0, none⟩, .int .i64 3), (⟨b + 1, 1, none⟩, .int .i64 0), (⟨b + 1, 2, none⟩, .int .i64 60), (⟨b + 1, 3, none⟩, .int .i64 120), (⟨b + 1, 4, none⟩, .int .i64 tare), (⟨b + 1, 5, none⟩, .slice (some ⟨b + 1 + 1 + 1 + 1, 0, none⟩) 1 1)]
theorem ex_block {b : Nat} {tare : Int} {p : Addr × Value} (h : p ∈ exSets b tare) : b ≤ p.1.block ∧ p.1.block ≤ b + 1 := by
  simp only [exSets, List.mem_cons, List.not_mem_nil, or_false] at h
  rcases h with rfl | rfl | rfl | rfl | rfl | rfl | rfl | rfl <;> simp
theorem ex_sets {w8 : World} {tare : Int} {b : Nat} (h0 : w8.heap[b]? = some (.cells #[.int .i64 0, .slice none 0 0] 24 (0, 0))) (h1 : w8.heap[b + 1]? = some (.cells #[.int .i64 0, .int .i64 0, .int .i64 0, .int .i64 0, .int .i64 0, .slice none 0 0] 27 (0, 0))) :
    (Sets w8 (exSets b tare)).heap[b]? = some (.cells #[.int .i64 3, .slice (some ⟨b + 1 + 1, 0, none⟩) 4 4] 24 (0, 0)) ∧ (Sets w8 (exSets b tare)).heap[b + 1]? = some (.cells #[.int .i64 3, .int .i64 0, .int .i64 60, .int .i64 120, .int .i64 tare, .slice (some ⟨b + 1 + 1 + 1 + 1, 0, none⟩) 1 1] 27 (0, 0)) := by
  obtain ⟨A1, hA1⟩ : ∃ A : Addr, A = ⟨b + 1 + 1, 0, none⟩ := ⟨_, rfl⟩
  obtain ⟨A2, hA2⟩ : ∃ A : Addr, A = ⟨b + 1 + 1 + 1 + 1, 0, none⟩ := ⟨_, rfl⟩
  have a1 := blk_set (blk_set h0 0 (.int .i64 3)) 1 (.slice (some A1) 4 4)
  obtain ⟨wa, hwa⟩ : ∃ wa : World, wa = (w8.setCell ⟨b, 0, none⟩ (.int .i64 3)).setCell ⟨b, 1, none⟩ (.slice (some A1) 4 4) := ⟨_, rfl⟩
  have b1 : wa.heap[b + 1]? = some (.cells #[.int .i64 0, .int .i64 0, .int .i64 0, .int .i64 0, .int .i64 0, .slice none 0 0] 27 (0, 0)) := by
    rw [hwa]
    exact ((Below.heap_setCell _ ⟨b, 1, none⟩ _ _ (show b + 1 ≠ b by omega)).trans (Below.heap_setCell _ ⟨b, 0, none⟩ _ _ (show b + 1 ≠ b by omega))).trans h1
  have e : Sets w8 (exSets b tare) = Sets wa [(⟨b + 1, 0, none⟩, .int .i64 3), (⟨b + 1, 1, none⟩, .int .i64 0), (⟨b + 1, 2, none⟩, .int .i64 60), (⟨b + 1, 3, none⟩, .int .i64 120), (⟨b + 1, 4, none⟩, .int .i64 tare), (⟨b + 1, 5, none⟩, .slice (some A2) 1 1)] := by
    rw [hwa, hA1, hA2]
    simp only [Sets, exSets]
  rw [e, ← hA1, ← hA2]
  rw [← hwa] at a1
  clear e hwa hA1 hA2
  refine ⟨?_, ?_⟩
  · refine (Sets.other _ wa b (fun p hp => ?_)).trans a1
    simp only [List.mem_cons, List.not_mem_nil, or_false] at hp
    rcases hp with rfl | rfl | rfl | rfl | rfl | rfl <;> simp
  · have c0 := blk_set b1 0 (.int .i64 3)
    have c1 := blk_set c0 1 (.int .i64 0)
    have c2 := blk_set c1 2 (.int .i64 60)
    have c3 := blk_set c2 3 (.int .i64 120)
    have c4 := blk_set c3 4 (.int .i64 tare)
    have c5 := blk_set c4 5 (.slice (some A2) 1 1)
    simp only [Sets]
    exact c5

theorem results_cells2_tmp {fn : Func} {p q u : Tmp} {ty ty2 : TypeId} (h : fn.results = #[.cell p ty, .cell q ty2, .tmp u]) (tmps : Array Value) (P : Program) (w : World) :
    (results fn tmps).run P w =
      ((asAddr (tmps.getD p undef)).run P w).andThen fun a w₁ => ((loadVar ty a).run P w₁).andThen fun x w₂ => ((asAddr (tmps.getD q undef)).run P w₂).andThen fun b w₃ => ((loadVar ty2 b).run P w₃).andThen fun y w₄ => .ok (.tuple #[x, y, tmps.getD u undef]) w₄ := by
  simp only [results, h]
  simp [Sem.run_bind, Result.andThen]

set_option maxRecDepth 100000 in
set_option maxHeartbeats 4000000 in
theorem example_any (tare kilos : Int) (w : World) :
    Calls Try.prog 41 #[.int .i64 tare, .int .i64 kilos] w fun e w' => ∃ x, IsEx tare kilos x ∧ At w' x ∧ e = .returned (.tuple #[.agg #[.int .i64 x.nd, .slice x.A x.n x.c], .agg #[.int .i64 x.s.day, .int .i64 x.s.depot, .int .i64 x.s.start, .int .i64 x.s.end_, .int .i64 x.s.tare, .slice x.s.A x.s.n x.s.c], .slice x.B x.m x.d]) ∧ Below w.heap.size w w' := by
  go_enter Try.func41, Try.ntmps41
  go_wp2_with fail
  obtain ⟨l8, hl8⟩ : ∃ l8 : List Obj, l8 = [.cells #[.int .i64 0, .slice none 0 0] 24, .cells #[.int .i64 0, .int .i64 0, .int .i64 0, .int .i64 0, .int .i64 0, .slice none 0 0] 27,
    .cells #[.int .i64 0, .int .i64 1, .int .i64 10, .int .i64 (-1), .int .i64 1, .int .i64 2, .int .i64 10, .int .i64 (-1), .int .i64 2, .int .i64 0, .int .i64 10, .int .i64 (-1), .int .i64 1, .int .i64 0, .int .i64 5, .int .i64 9000] 108,
    .cells #[.int .i64 3, .slice (some ⟨w.heap.size + 1 + 1, 0, none⟩) 4 4] 24, .cells #[.int .i64 2000] 3,
    .cells #[.int .i64 3, .int .i64 0, .int .i64 60, .int .i64 120, .int .i64 tare, .slice (some ⟨w.heap.size + 1 + 1 + 1 + 1, 0, none⟩) 1 1] 27, .cells #[.int .i64 90, .int .i64 100] 85,
    .cells #[.int .i64 1, .int .i64 0, .int .i64 900, .int .i64 5, .int .i64 0, .int .i64 9, .slice none 0 0, .int .i64 2, .int .i64 0, .int .i64 kilos, .int .i64 5, .int .i64 0, .int .i64 9, .slice (some ⟨w.heap.size + 1 + 1 + 1 + 1 + 1 + 1, 0, none⟩) 1 1] 41] := ⟨_, rfl⟩
  obtain ⟨w8, hw8⟩ : ∃ w8 : World, w8 = Als w l8 := ⟨_, rfl⟩
  have hb := Als.below l8 w
  have g := Als.get l8 w
  have hsz := Als.size l8 w
  rw [← hw8] at hb g hsz
  have e0 := g 0 _ (by rw [hl8]; rfl)
  have e1 := g 1 _ (by rw [hl8]; rfl)
  have e2 := g 2 _ (by rw [hl8]; rfl)
  have e3 := g 3 _ (by rw [hl8]; rfl)
  have e4 := g 4 _ (by rw [hl8]; rfl)
  have e5 := g 5 _ (by rw [hl8]; rfl)
  have e6 := g 6 _ (by rw [hl8]; rfl)
  have e7 := g 7 _ (by rw [hl8]; rfl)
  have hL : l8.length = 8 := by rw [hl8]; rfl
  rw [hL] at hsz
  rw [hl8] at hw8
  simp only [Als] at hw8
  rw [← hw8]
  clear hw8 g hL hl8
  have HSZ := Lib.hid hsz
  have a0 : w8.cell? ⟨w.heap.size + 1 + 1 + 1, 0, none⟩ = some (.int .i64 3) := blk_cell e3 0 _ rfl
  have a1 : w8.cell? ⟨w.heap.size + 1 + 1 + 1, 1, none⟩ = some (.slice (some ⟨w.heap.size + 1 + 1, 0, none⟩) 4 4) := blk_cell e3 1 _ rfl
  have s0 : w8.cell? ⟨w.heap.size + 1 + 1 + 1 + 1 + 1, 0, none⟩ = some (.int .i64 3) := blk_cell e5 0 _ rfl
  have s1 : w8.cell? ⟨w.heap.size + 1 + 1 + 1 + 1 + 1, 1, none⟩ = some (.int .i64 0) := blk_cell e5 1 _ rfl
  have s2 : w8.cell? ⟨w.heap.size + 1 + 1 + 1 + 1 + 1, 2, none⟩ = some (.int .i64 60) := blk_cell e5 2 _ rfl
  have s3 : w8.cell? ⟨w.heap.size + 1 + 1 + 1 + 1 + 1, 3, none⟩ = some (.int .i64 120) := blk_cell e5 3 _ rfl
  have s4 : w8.cell? ⟨w.heap.size + 1 + 1 + 1 + 1 + 1, 4, none⟩ = some (.int .i64 tare) := blk_cell e5 4 _ rfl
  have s5 : w8.cell? ⟨w.heap.size + 1 + 1 + 1 + 1 + 1, 5, none⟩ = some (.slice (some ⟨w.heap.size + 1 + 1 + 1 + 1, 0, none⟩) 1 1) := blk_cell e5 5 _ rfl
  have r0 : w8.cell? ⟨w.heap.size, 0, none⟩ = some (.int .i64 0) := blk_cell e0 0 _ rfl
  have r1 : w8.cell? ⟨w.heap.size, 1, none⟩ = some (.slice none 0 0) := blk_cell e0 1 _ rfl
  have t0 : w8.cell? ⟨w.heap.size + 1, 0, none⟩ = some (.int .i64 0) := blk_cell e1 0 _ rfl
  have t1 : w8.cell? ⟨w.heap.size + 1, 1, none⟩ = some (.int .i64 0) := blk_cell e1 1 _ rfl
  have t2 : w8.cell? ⟨w.heap.size + 1, 2, none⟩ = some (.int .i64 0) := blk_cell e1 2 _ rfl
  have t3 : w8.cell? ⟨w.heap.size + 1, 3, none⟩ = some (.int .i64 0) := blk_cell e1 3 _ rfl
  have t4 : w8.cell? ⟨w.heap.size + 1, 4, none⟩ = some (.int .i64 0) := blk_cell e1 4 _ rfl
  have t5 : w8.cell? ⟨w.heap.size + 1, 5, none⟩ = some (.slice none 0 0) := blk_cell e1 5 _ rfl
  have f0 : ∀ k, w8.frozen? ⟨w.heap.size, k, none⟩ = false := fun k => by simp [World.frozen?, show w8.heap[w.heap.size]? = _ from e0]
  have f1 : ∀ k, w8.frozen? ⟨w.heap.size + 1, k, none⟩ = false := fun k => by simp [World.frozen?, e1]
  have E := Lib.hid (And.intro e0 (And.intro e1 (And.intro e2 (And.intro e4 (And.intro e6 e7)))))
  clear e0 e1 e2 e3 e4 e5 e6 e7
  go_region
  obtain ⟨q0, q1, q2, q4, q6, q7⟩ := E.out
  have hB := ex_sets (w8 := w8) (tare := tare) (b := w.heap.size) q0 q1
  obtain ⟨WF, hWF⟩ : ∃ WF : World, WF = Sets w8 (exSets w.heap.size tare) := ⟨_, rfl⟩
  rw [← hWF] at hB
  have hk : ∀ g, w.heap.size + 2 ≤ g → WF.heap[g]? = w8.heap[g]? := fun g hg => by
    rw [hWF]
    exact Sets.other _ _ g (fun p hp => by have := ex_block hp; omega)
  have hbF : Below w.heap.size w WF := by rw [hWF]; exact Sets.below _ _ _ hb (fun p hp => by have := ex_block hp; omega)
  simp only [Sets, exSets] at hWF
  rw [← hWF]
  clear hWF a0 a1 s0 s1 s2 s3 s4 s5 r0 r1 t0 t1 t2 t3 t4 t5 f0 f1
  have k2 := (hk (w.heap.size + 2) (by omega)).trans q2
  have k4 := (hk (w.heap.size + 4) (by omega)).trans q4
  have k6 := (hk (w.heap.size + 6) (by omega)).trans q6
  have k7 := (hk (w.heap.size + 7) (by omega)).trans q7
  obtain ⟨h1, h2⟩ := hB
  have E2 := Lib.hid (And.intro k2 (And.intro k4 (And.intro k6 k7)))
  clear k2 k4 k6 k7 q0 q1 q2 q4 q6 q7 hk
  go_wp2_with fail
  refine bodyPost_ret_by (v := .tuple #[.agg #[.int .i64 3, .slice (some ⟨w.heap.size + 1 + 1, 0, none⟩) 4 4], .agg #[.int .i64 3, .int .i64 0, .int .i64 60, .int .i64 120, .int .i64 tare, .slice (some ⟨w.heap.size + 1 + 1 + 1 + 1, 0, none⟩) 1 1], .slice (some ⟨w.heap.size + 1 + 1 + 1 + 1 + 1 + 1 + 1, 0, none⟩) 2 2]) ?_ rfl ?_
  · have z0 : WF.drew.cell? ⟨w.heap.size, 0, none⟩ = some (.int .i64 3) := blk_cell h1 0 _ rfl
    have z1 : WF.drew.cell? ⟨w.heap.size, 1, none⟩ = some (.slice (some ⟨w.heap.size + 1 + 1, 0, none⟩) 4 4) := blk_cell h1 1 _ rfl
    have y0 : WF.drew.cell? ⟨w.heap.size + 1, 0, none⟩ = some (.int .i64 3) := blk_cell h2 0 _ rfl
    have y1 : WF.drew.cell? ⟨w.heap.size + 1, 1, none⟩ = some (.int .i64 0) := blk_cell h2 1 _ rfl
    have y2 : WF.drew.cell? ⟨w.heap.size + 1, 2, none⟩ = some (.int .i64 60) := blk_cell h2 2 _ rfl
    have y3 : WF.drew.cell? ⟨w.heap.size + 1, 3, none⟩ = some (.int .i64 120) := blk_cell h2 3 _ rfl
    have y4 : WF.drew.cell? ⟨w.heap.size + 1, 4, none⟩ = some (.int .i64 tare) := blk_cell h2 4 _ rfl
    have y5 : WF.drew.cell? ⟨w.heap.size + 1, 5, none⟩ = some (.slice (some ⟨w.heap.size + 1 + 1 + 1 + 1, 0, none⟩) 1 1) := blk_cell h2 5 _ rfl
    rw [results_cells2_tmp rfl]
    simp [go_sem, z0, z1, y0, y1, y2, y3, y4, y5]
  · obtain ⟨k2, k4, k6, k7⟩ := E2.out
    refine ⟨K.exC tare kilos (some ⟨w.heap.size + 2, 0, none⟩) 4 (some ⟨w.heap.size + 4, 0, none⟩) 1 (some ⟨w.heap.size + 6, 0, none⟩) 1 (some ⟨w.heap.size + 7, 0, none⟩) 2, ⟨_, _, _, _, _, _, _, _, rfl⟩, ?_, rfl, hbF.drew⟩
    refine At.below ⟨⟨rfl, Rd.of_block k2 4 4 rfl⟩, ⟨rfl, Rd.of_block k4 1 1 rfl⟩, ⟨rfl, Rd.of_block (cs := (reqCells (K.exR kilos (some ⟨w.heap.size + 6, 0, none⟩) 1)).toArray) k7 7 2 rfl, fun q hq => ?_⟩, show 4 ≤ 1000000000 by decide, show 1 ≤ 1000000000 by decide, show 2 ≤ 1000000000 by decide, fun q hq => ?_⟩ (Below.refl _ _).drew
    · simp only [K.exC, K.exR, List.mem_cons, List.not_mem_nil, or_false] at hq
      rcases hq with rfl | rfl
      · exact ⟨rfl, rfl, fun h => absurd h (by show ¬ 0 < 0; omega)⟩
      · exact ⟨rfl, Rd.of_block k6 2 1 rfl⟩
    · simp only [K.exC, K.exR, List.mem_cons, List.not_mem_nil, or_false] at hq
      rcases hq with rfl | rfl <;> simp
end Go.Proofs.Ytjcdpfpdjcannaa
namespace Go.Proofs.Ytjcdpfpdjcannaa
open Go.RowKit

set_option maxRecDepth 100000 in
set_option maxHeartbeats 8000000 in
theorem says_yes (tare kilos : Int) (V : Option Addr) (vn vc : Nat) (o : List Int) (U : Option Addr) (un uc : Nat) (ts : List Int) (en : Int) (w : World) (hV : Ints w V vn o) (hU : Ints w U un ts) (hvn : vn ≤ 100000) (hun : un ≤ 100000)
    (hrun : ∀ x, IsEx tare kilos x → K.run x.nd x.l x.s x.r o = ⟨⟨o, ts, en⟩, 0, o.length⟩) :
    Calls Try.prog 42 #[.int .i64 tare, .int .i64 kilos, .slice V vn vc, .slice U un uc, .int .i64 en] w fun e w' => e = .returned (.bool true) ∧ Below w.heap.size w w' := by
  have HRUN := Lib.hid hrun
  clear hrun
  go_enter Try.func42, Try.ntmps42
  go_wp2_with fail
  refine (example_any tare kilos _).mono ?_
  rintro e w1 ⟨x, hx, hA, rfl, b1⟩
  have hR := HRUN.out x hx
  have HR := Lib.hid hR
  clear hR
  obtain ⟨w2, hw2⟩ : ∃ w2 : World, w2 = w1.alloc (.cells #[.int .i64 x.nd, .slice x.A x.n x.c] 24) := ⟨_, rfl⟩
  obtain ⟨w3, hw3⟩ : ∃ w3 : World, w3 = w2.alloc (.cells #[.int .i64 x.s.day, .int .i64 x.s.depot, .int .i64 x.s.start, .int .i64 x.s.end_, .int .i64 x.s.tare, .slice x.s.A x.s.n x.s.c] 27) := ⟨_, rfl⟩
  have z2 : w2.heap.size = w1.heap.size + 1 := by rw [hw2]; exact World.size_alloc _ _
  have b12 : Below w1.heap.size w1 w2 := by rw [hw2]; exact (Below.refl _ _).alloc (Nat.le_refl _) _
  have b23 : Below w2.heap.size w2 w3 := by rw [hw3]; exact (Below.refl _ _).alloc (Nat.le_refl _) _
  have hP : Net w3 w1.heap.size x.nd x.A x.n x.c := by
    have h1 : Net w2 w1.heap.size x.nd x.A x.n x.c := by rw [hw2]; exact Net.new _ _ _ _ _
    exact h1.below b23
  have hS : Shf w3 (w1.heap.size + 1) x.s := by rw [← z2, hw3]; exact Shf.new _ _
  have hb := bel (bel b1 b12) b23
  have hA := hA.below (bel b12 b23)
  have p0 := hP.c0
  have p1 := hP.c1
  obtain ⟨s0, s1, s2, s3, s4, s5⟩ := hS.cells
  rw [hw3, hw2] at p0 p1 s0 s1 s2 s3 s4 s5
  go_wp2_with fail
  rw [← hw2, ← hw3]
  clear hw2 hw3 z2 b1 b12 b23 p0 p1 s0 s1 s2 s3 s4 s5
  refine (run_any x V vn vc o _ hA (hV.below hb) hvn).mono ?_
  rintro e w4 ⟨⟨A1, n1, c1, A2, n2, c2, rfl, hI1, hI2, -⟩, b34⟩
  rw [HR.out] at hI1 hI2 ⊢
  simp only at hI1 hI2 ⊢
  have ba : Below w4.heap.size w4 (w4.alloc (.cells #[.int .i64 0, .slice A1 n1 c1, .slice A2 n2 c2, .int .i64 en] 30)) := (Below.refl _ _).alloc (Nat.le_refl _) _
  have hT : TBlk (w4.alloc (.cells #[.int .i64 0, .slice A1 n1 c1, .slice A2 n2 c2, .int .i64 en] 30)) w4.heap.size 0 (.slice A1 n1 c1) (.slice A2 n2 c2) en := heap_alloc_new _ _
  obtain ⟨w5, hw5⟩ : ∃ w5 : World, w5 = w4.alloc (.cells #[.int .i64 0, .slice A1 n1 c1, .slice A2 n2 c2, .int .i64 en] 30) := ⟨_, rfl⟩
  obtain ⟨t0, t1, t2, t3⟩ := hT.cells
  rw [← hw5] at ba hT
  have b35 := bel b34 ba
  have hb5 := bel hb b35
  have hA5 := hA.below b35
  have hP5 := hP.below b35
  have hS5 := hS.below b35
  have ho : vn = o.length := hV.1
  have hu : un = ts.length := hU.1
  have hY : TVAt w5 ⟨0, A1, n1, c1, A2, n2, c2, ⟨o, ts, en⟩⟩ := ⟨hI1.below ba, hI2.below ba, by show n1 ≤ _; rw [hI1.1]; omega, by show n2 ≤ _; rw [hI2.1]; omega⟩
  have hZ : TVAt w5 ⟨0, V, vn, vc, U, un, uc, ⟨o, ts, en⟩⟩ := ⟨hV.below hb5, hU.below hb5, by show vn ≤ _; omega, by show un ≤ _; omega⟩
  have q1 : ((o.length : Int) == (vn : Int)) = true := by simp; omega
  have HN1 := Lib.hid (show n1 ≤ 100000 by rw [hI1.1]; omega)
  clear hI1 hI2 hP hS hA b34 ho hu
  go_wp2_with fail
  rw [← hw5]
  clear hw5 t0 t1 t2 t3 q1
  refine (sameTour_any ⟨0, A1, n1, c1, A2, n2, c2, ⟨o, ts, en⟩⟩ ⟨0, V, vn, vc, U, un, uc, ⟨o, ts, en⟩⟩ _ hY hZ).mono ?_
  rw [show K.same ⟨o, ts, en⟩ ⟨o, ts, en⟩ = true by simp [K.same]]
  rintro e w6 ⟨rfl, b6⟩
  have hP6 := hP5.below b6
  have hS6 := hS5.below b6
  have hT6 := hT.below b6
  obtain ⟨t0, t1, t2, t3⟩ := hT6.cells
  have p0 := hP6.c0
  have p1 := hP6.c1
  obtain ⟨s0, s1, s2, s3, s4, s5⟩ := hS6.cells
  go_wp2_with fail
  refine (tcheck_any x ⟨0, A1, n1, c1, A2, n2, c2, ⟨o, ts, en⟩⟩ _ (hA5.below b6) (hY.below b6) HN1.out).mono ?_
  rw [show K.check x.nd x.l x.s x.r ⟨o, ts, en⟩ = true by unfold K.check; simp only; rw [HR.out]; simp]
  rintro e w7 ⟨rfl, b7⟩
  go_wp2_with fail
  go_ret
  exact ⟨rfl, bel (bel hb5 b6) b7⟩
end Go.Proofs.Ytjcdpfpdjcannaa
namespace Go.Proofs.Ytjcdpfpdjcannaa
open Go.RowKit

theorem two_lits (w : World) (la lb : List Int) : Ints ((w.alloc (.cells (intCells la).toArray 3)).alloc (.cells (intCells lb).toArray 3)) (some ⟨w.heap.size, 0, none⟩) la.length la ∧
    Ints ((w.alloc (.cells (intCells la).toArray 3)).alloc (.cells (intCells lb).toArray 3)) (some ⟨w.heap.size + 1, 0, none⟩) lb.length lb ∧ Below w.heap.size w ((w.alloc (.cells (intCells la).toArray 3)).alloc (.cells (intCells lb).toArray 3)) := by
  have b1 : Below w.heap.size w (w.alloc (.cells (intCells la).toArray 3)) := (Below.refl _ _).alloc (Nat.le_refl _) _
  have b2 : Below (w.alloc (.cells (intCells la).toArray 3)).heap.size (w.alloc (.cells (intCells la).toArray 3)) ((w.alloc (.cells (intCells la).toArray 3)).alloc (.cells (intCells lb).toArray 3)) := (Below.refl _ _).alloc (Nat.le_refl _) _
  have h2 := ints_lit (w.alloc (.cells (intCells la).toArray 3)) lb
  rw [World.size_alloc] at h2
  exact ⟨(ints_lit w la).below b2, h2, bel b1 b2⟩

theorem K.ex_r1 (x : C) (h : IsEx 8000 1200 x) : K.run x.nd x.l x.s x.r [0, 1] = ⟨K.Tr.zero, 20, 1⟩ := by
  obtain ⟨A, c, A2, c2, A3, c3, B, d, rfl⟩ := h
  kernel_rfl
theorem K.ex_r2 (x : C) (h : IsEx 8000 1200 x) : K.run x.nd x.l x.s x.r [1, 1] = ⟨K.Tr.zero, 1, 0⟩ := by
  obtain ⟨A, c, A2, c2, A3, c3, B, d, rfl⟩ := h
  kernel_rfl
theorem K.ex_y1 (x : C) (h : IsEx 8000 1200 x) : K.run x.nd x.l x.s x.r [] = ⟨⟨[], [], 60⟩, 0, 0⟩ := by
  obtain ⟨A, c, A2, c2, A3, c3, B, d, rfl⟩ := h
  kernel_rfl
theorem K.ex_y2 (x : C) (h : IsEx 8000 1200 x) : K.run x.nd x.l x.s x.r [0] = ⟨⟨[0], [70], 80⟩, 0, 1⟩ := by
  obtain ⟨A, c, A2, c2, A3, c3, B, d, rfl⟩ := h
  kernel_rfl
theorem K.ex_y3 (x : C) (h : IsEx 8000 1200 x) : K.run x.nd x.l x.s x.r [1] = ⟨⟨[1], [90], 105⟩, 0, 1⟩ := by
  obtain ⟨A, c, A2, c2, A3, c3, B, d, rfl⟩ := h
  kernel_rfl
theorem K.ex_y4 (x : C) (h : IsEx 8000 1000 x) : K.run x.nd x.l x.s x.r [0, 1] = ⟨⟨[0, 1], [70, 90], 105⟩, 0, 2⟩ := by
  obtain ⟨A, c, A2, c2, A3, c3, B, d, rfl⟩ := h
  kernel_rfl
theorem K.ex_y5 (x : C) (h : IsEx 8200 1200 x) : K.run x.nd x.l x.s x.r [0] = ⟨⟨[0], [70], 95⟩, 0, 1⟩ := by
  obtain ⟨A, c, A2, c2, A3, c3, B, d, rfl⟩ := h
  kernel_rfl
theorem K.ex_no (x : C) (h : IsEx 8000 1200 x) : K.check x.nd x.l x.s x.r ⟨[0], [71], 80⟩ = false := by
  obtain ⟨A, c, A2, c2, A3, c3, B, d, rfl⟩ := h
  kernel_rfl

set_option maxRecDepth 100000 in
set_option maxHeartbeats 16000000 in
theorem small_any (w : World) : Calls Try.prog 14 #[] w fun e w' => e = .returned (.bool true) ∧ Below w.heap.size w w' := by
  go_enter Try.func14, Try.ntmps14
  go_wp2_with fail
  refine (example_any 8000 1200 _).mono ?_
  rintro e w1 ⟨x, hx, hA, rfl, b1⟩
  have HX := Lib.hid hx
  clear hx
  obtain ⟨w2, hw2⟩ : ∃ w2 : World, w2 = w1.alloc (.cells #[.int .i64 x.nd, .slice x.A x.n x.c] 24) := ⟨_, rfl⟩
  obtain ⟨w3, hw3⟩ : ∃ w3 : World, w3 = w2.alloc (.cells #[.int .i64 x.s.day, .int .i64 x.s.depot, .int .i64 x.s.start, .int .i64 x.s.end_, .int .i64 x.s.tare, .slice x.s.A x.s.n x.s.c] 27) := ⟨_, rfl⟩
  have z2 : w2.heap.size = w1.heap.size + 1 := by rw [hw2]; exact World.size_alloc _ _
  have b12 : Below w1.heap.size w1 w2 := by rw [hw2]; exact (Below.refl _ _).alloc (Nat.le_refl _) _
  have b23 : Below w2.heap.size w2 w3 := by rw [hw3]; exact (Below.refl _ _).alloc (Nat.le_refl _) _
  have hP : Net w3 w1.heap.size x.nd x.A x.n x.c := by
    have h1 : Net w2 w1.heap.size x.nd x.A x.n x.c := by rw [hw2]; exact Net.new _ _ _ _ _
    exact h1.below b23
  have hS : Shf w3 (w1.heap.size + 1) x.s := by rw [← z2, hw3]; exact Shf.new _ _
  have z3 : w3.heap.size = w1.heap.size + 1 + 1 := by rw [hw3, World.size_alloc, z2]
  have hb := bel (bel b1 b12) b23
  have hA := hA.below (bel b12 b23)
  have p0 := hP.c0
  have p1 := hP.c1
  obtain ⟨s0, s1, s2, s3, s4, s5⟩ := hS.cells
  have L0 := ints_lit w3 [0, 1]
  have bl : Below w3.heap.size w3 (w3.alloc (.cells (intCells [0, 1]).toArray 3)) := (Below.refl _ _).alloc (Nat.le_refl _) _
  rw [z3] at L0
  rw [hw3, hw2] at p0 p1 s0 s1 s2 s3 s4 s5 L0 bl
  have HP := Lib.hid hP
  have HS := Lib.hid hS
  have HA := Lib.hid hA
  have HB := Lib.hid hb
  rw [hw3, hw2] at HP HS HA HB
  clear hP hS hA hb z3 z2 b12 b23 hw2 hw3 b1
  go_wp2_with fail
  refine (run_any x _ 2 2 [0, 1] _ (HA.out.below bl) L0 (by decide)).mono ?_
  rw [K.ex_r1 x HX.out]
  rintro e w4 ⟨⟨A1, n1, c1, A2, n2, c2, rfl, -, -⟩, b4⟩
  simp only [K.Tr.zero]
  have b5 : Below w4.heap.size w4 (w4.alloc (.cells #[.int .i64 0, .slice A1 n1 c1, .slice A2 n2 c2, .int .i64 0] 30)) := (Below.refl _ _).alloc (Nat.le_refl _) _
  obtain ⟨w5, hw5⟩ : ∃ w5 : World, w5 = w4.alloc (.cells #[.int .i64 0, .slice A1 n1 c1, .slice A2 n2 c2, .int .i64 0] 30) := ⟨_, rfl⟩
  have z5 : w5.heap.size = w4.heap.size + 1 := by rw [hw5]; exact World.size_alloc _ _
  rw [← hw5] at b5
  have b35 := bel (bel bl b4) b5
  have hP := HP.out.below b35
  have hS := HS.out.below b35
  have hA := HA.out.below b35
  have hb := bel HB.out b35
  clear HP HS HA HB bl L0 b4 p0 p1 s0 s1 s2 s3 s4 s5 b35 b5
  have p0 := hP.c0
  have p1 := hP.c1
  obtain ⟨s0, s1, s2, s3, s4, s5⟩ := hS.cells
  have L0 := ints_lit w5 [1, 1]
  have bl : Below w5.heap.size w5 (w5.alloc (.cells (intCells [1, 1]).toArray 3)) := (Below.refl _ _).alloc (Nat.le_refl _) _
  rw [z5] at L0
  have HP := Lib.hid hP
  have HS := Lib.hid hS
  have HA := Lib.hid hA
  have HB := Lib.hid hb
  rw [hw5] at p0 p1 s0 s1 s2 s3 s4 s5 L0 bl HP HS HA HB
  clear hP hS hA hb z5 hw5
  go_wp2_with fail
  refine (run_any x _ 2 2 [1, 1] _ (HA.out.below bl) L0 (by decide)).mono ?_
  rw [K.ex_r2 x HX.out]
  rintro e w6 ⟨⟨A3, n3, c3, A4, n4, c4, rfl, -, -⟩, b6⟩
  simp only [K.Tr.zero]
  have b7 : Below w6.heap.size w6 (w6.alloc (.cells #[.int .i64 0, .slice A3 n3 c3, .slice A4 n4 c4, .int .i64 0] 30)) := (Below.refl _ _).alloc (Nat.le_refl _) _
  obtain ⟨w7, hw7⟩ : ∃ w7 : World, w7 = w6.alloc (.cells #[.int .i64 0, .slice A3 n3 c3, .slice A4 n4 c4, .int .i64 0] 30) := ⟨_, rfl⟩
  rw [← hw7] at b7
  have b57 := bel (bel bl b6) b7
  have hP := HP.out.below b57
  have hS := HS.out.below b57
  have hA := HA.out.below b57
  have hb := bel HB.out b57
  clear HP HS HA HB bl L0 b6 p0 p1 s0 s1 s2 s3 s4 s5 b57 b7
  go_wp2_with fail
  rw [← hw7]
  clear hw7
  refine (says_yes 8000 1200 none 0 0 [] none 0 0 [] 60 _ (ints_nil _) (ints_nil _) (by decide) (by decide) (fun x h => K.ex_y1 x h)).mono ?_
  rintro e wa ⟨rfl, bn⟩
  have hP := hP.below bn
  have hS := hS.below bn
  have hA := hA.below bn
  have hb := bel hb bn
  clear bn
  obtain ⟨La, Lb, bl⟩ := two_lits wa [0] [70]
  go_wp2_with fail
  refine (says_yes 8000 1200 _ 1 1 [0] _ 1 1 [70] 80 _ La Lb (by decide) (by decide) (fun x h => K.ex_y2 x h)).mono ?_
  rintro e wb ⟨rfl, bn⟩
  have hP := hP.below (bel bl bn)
  have hS := hS.below (bel bl bn)
  have hA := hA.below (bel bl bn)
  have hb := bel hb (bel bl bn)
  clear bn bl La Lb
  obtain ⟨La, Lb, bl⟩ := two_lits wb [1] [90]
  go_wp2_with fail
  refine (says_yes 8000 1200 _ 1 1 [1] _ 1 1 [90] 105 _ La Lb (by decide) (by decide) (fun x h => K.ex_y3 x h)).mono ?_
  rintro e wc ⟨rfl, bn⟩
  have hP := hP.below (bel bl bn)
  have hS := hS.below (bel bl bn)
  have hA := hA.below (bel bl bn)
  have hb := bel hb (bel bl bn)
  clear bn bl La Lb
  obtain ⟨La, Lb, bl⟩ := two_lits wc [0, 1] [70, 90]
  go_wp2_with fail
  refine (says_yes 8000 1000 _ 2 2 [0, 1] _ 2 2 [70, 90] 105 _ La Lb (by decide) (by decide) (fun x h => K.ex_y4 x h)).mono ?_
  rintro e wd ⟨rfl, bn⟩
  have hP := hP.below (bel bl bn)
  have hS := hS.below (bel bl bn)
  have hA := hA.below (bel bl bn)
  have hb := bel hb (bel bl bn)
  clear bn bl La Lb
  obtain ⟨La, Lb, bl⟩ := two_lits wd [0] [70]
  go_wp2_with fail
  refine (says_yes 8200 1200 _ 1 1 [0] _ 1 1 [70] 95 _ La Lb (by decide) (by decide) (fun x h => K.ex_y5 x h)).mono ?_
  rintro e we ⟨rfl, bn⟩
  have hP := hP.below (bel bl bn)
  have hS := hS.below (bel bl bn)
  have hA := hA.below (bel bl bn)
  have hb := bel hb (bel bl bn)
  clear bn bl La Lb
  have p0 := hP.c0
  have p1 := hP.c1
  obtain ⟨s0, s1, s2, s3, s4, s5⟩ := hS.cells
  obtain ⟨La, Lb, bl⟩ := two_lits we [0] [71]
  go_wp2_with fail
  refine (tcheck_any x ⟨0, _, 1, 1, _, 1, 1, ⟨[0], [71], 80⟩⟩ _ (hA.below bl) ⟨La, Lb, show 1 ≤ 1000000000 by decide, show 1 ≤ 1000000000 by decide⟩ (show 1 ≤ 100000 by decide)).mono ?_
  rw [K.ex_no x HX.out]
  rintro e wz ⟨rfl, bz⟩
  go_wp2_with fail
  go_ret
  exact ⟨rfl, bel (bel hb bl) bz⟩
end Go.Proofs.Ytjcdpfpdjcannaa
