/-
Routes: what stays, and what a planner remembers.
-/
import Derived.Test.YtippdjmpkafifaaBE
import Derived.DeepKeys5
import Derived.Maps.OwnSet
namespace Go.Proofs.Ytippdjmpkafifaa
open Go.RowKit

namespace K
/-- A set in order, behind p. -/
def setGo (nd : Int) (r : List Q) : Int → List Int → Bool
  | _, [] => true
  | p, k :: rest => decide (0 ≤ k) && (decide (k < (r.length : Int)) && (decide (p < k) && (decide ((req r k).node < nd) && setGo nd r k rest)))
/-- A right case. -/
def ok31 (nd : Int) (l : List Ro) (s : S) (r : List Q) (v : List Int) : Bool :=
  (netErr nd l == 0) && ((T.check s == 0) && (decide (s.depot < nd) && (!(r.any fun q => !T.right q) && (decide (v.length ≤ 6) && setGo nd r (-1) v))))
/-- The number ahead of place k. -/
def prev (v : List Int) : Nat → Int
  | 0 => -1
  | k + 1 => (v[k]?).getD (-1)
/-- Step: the number at place k. -/
theorem setGo_at {nd : Int} {r : List Q} {v : List Int} {k : Nat} {i : Int} (h : v[k]? = some i) (p : Int) : setGo nd r p (v.drop k) = (decide (0 ≤ i) && (decide (i < (r.length : Int)) && (decide (p < i) && (decide ((req r i).node < nd) && setGo nd r i (v.drop (k + 1)))))) := by
  obtain ⟨hk, e⟩ := List.getElem?_eq_some_iff.1 h
  rw [List.drop_eq_getElem_cons hk, e]
  rfl
end K

/-- All blocks of cells stay. -/
structure Ext (w w' : World) : Prop where
  size : w.heap.size ≤ w'.heap.size
  cells : ∀ (g : Nat) (cs : Array Value) (t : TypeId) (z : Nat × Nat), w.heap[g]? = some (Obj.cells cs t z) → w'.heap[g]? = some (Obj.cells cs t z)
theorem Ext.refl (w : World) : Ext w w := ⟨Nat.le_refl _, fun _ _ _ _ h => h⟩
theorem Ext.trans {a b c : World} (h : Ext a b) (h2 : Ext b c) : Ext a c := ⟨Nat.le_trans h.size h2.size, fun g cs t z e => h2.cells g cs t z (h.cells g cs t z e)⟩
theorem Ext.below {w w' : World} (h : Below w.heap.size w w') : Ext w w' := ⟨h.size, fun _ _ _ _ e => blk_below h e⟩
theorem Ext.cell {w w' : World} (h : Ext w w') {p : Addr} {v : Value} (e : w.cell? p = some v) : w'.cell? p = some v := by
  have hlt := cell_lt e
  cases ho : w.heap[p.block]? with
  | none => rw [Array.getElem?_eq_none_iff] at ho; omega
  | some o =>
    cases o with
    | cells cs t z => exact (World.cell?_of_block (by rw [h.cells _ _ _ _ ho, ho])).trans e
    | _ => simp [World.cell?, ho] at e
theorem Rd.ext {w w' : World} {size n : Nat} {A : Option Addr} {xs : List Value} (h : Rd w size A n xs) (hb : Ext w w') : Rd w' size A n xs :=
  ⟨h.1, fun hn => by
    obtain ⟨ad, e, hc⟩ := h.2 hn
    exact ⟨ad, e, fun j u hu => hb.cell (hc j u hu)⟩⟩
theorem Ints.ext {w w' : World} {A : Option Addr} {n : Nat} {l : List Int} (h : Ints w A n l) (hb : Ext w w') : Ints w' A n l := ⟨h.1, h.2.ext hb⟩

open Go.WideMaps Go.Maps Go.WideShapes
theorem laidOut : laidOutB Try.prog = true := by kernel_rfl
theorem row122 : (183 : TypeId) < Try.prog.types.size := of_decide_eq_true (by kernel_rfl)
theorem wide122 : (match Try.prog.underlying 183 with | some (.array _ _) | some (.struct _) => true | _ => false) = true := by rw [Try.underlying183]
set_option maxRecDepth 100000 in
theorem tripLaw : Keyed Try.prog 183 := Keyed.of_law (deep_law_laid laidOut (m := 2) (by omega) row122 (by kernel_rfl) wide122)
theorem cells122 : Try.prog.cellsOf 183 = 2 := by kernel_rfl
set_option maxRecDepth 100000 in
theorem tripType : Try.prog.keyType 183 = true := by kernel_rfl
theorem cells3 : Try.prog.cellsOf 3 = 1 := by kernel_rfl
theorem typesPos : 0 < Try.prog.types.size := of_decide_eq_true (by kernel_rfl)
set_option maxRecDepth 4000 in
theorem tripKey {f k : Int} (hf : (Lit.int .i64 f).wf = true) (hk : (Lit.int .i64 k).wf = true) : ∃ l, keyOf Try.prog 183 (.agg #[.int .i64 f, .int .i64 k]) = some l := by
  unfold keyOf
  rw [Try.underlying183]
  simp only [tripType, Bool.true_and, Value.formed, Try.underlying183, cells122]
  have hp := typesPos
  generalize Try.prog.types.size = N at *
  obtain ⟨M, rfl⟩ : ∃ M, N = M + 1 := ⟨N - 1, by omega⟩
  have h1 : Try.prog.keyLits (M + 1 + 1) 183 [.int .i64 f, .int .i64 k] = some ([Lit.int .i64 f] ++ [Lit.int .i64 k]) := by
    simp [Program.keyLits, Try.underlying183, Try.underlying3, cells122, cells3, hf, hk]
  have h2 : (Value.agg #[Value.int IntKind.i64 f, Value.int IntKind.i64 k]).cells.toList = [.int .i64 f, .int .i64 k] := rfl
  rw [h2, h1]
  exact ⟨_, rfl⟩

open Go.MapKept Go.ChangeMaps in
theorem Ext.of_grown {w w' : World} {mb : Nat} {es : Array MapEntry} {clock : Nat} (hm : w.heap[mb]? = some (.map es clock)) (hg : w.grownBy w' (some mb)) : Ext w w' :=
  ⟨hg.size, fun g cs t z e => grow_blk hg e (fun e2 => by injection e2 with e2; subst e2; rw [hm] at e; cases e)⟩

/-- The block mb remembers ways. -/
def Memo (w : World) (mb : Nat) (nd : Int) (l : List Ro) (X : Nat → Prop) : Prop :=
  ∃ es clock, w.heap[mb]? = some (.map es clock) ∧ ∀ e ∈ es.toList, ∃ f k A n c, e.key = .agg #[.int .i64 f, .int .i64 k] ∧ (Lit.int .i64 f).wf = true ∧ (Lit.int .i64 k).wf = true ∧ e.val = .slice A n c ∧ Ints w A n (K.times nd l f k) ∧ ∀ ad, A = some ad → ad.block < w.heap.size ∧ ¬ X ad.block
theorem Memo.ext {w w' : World} {mb : Nat} {nd : Int} {l : List Ro} {X : Nat → Prop} (h : Memo w mb nd l X) (hg : w.grownBy w' (some mb)) : Ext w w' := by
  obtain ⟨es, clock, hm, -⟩ := h
  exact Ext.of_grown hm hg
theorem Memo.keep {w w' : World} {mb : Nat} {nd : Int} {l : List Ro} {X : Nat → Prop} (h : Memo w mb nd l X) (he : Ext w w') (hm : w'.heap[mb]? = w.heap[mb]?) : Memo w' mb nd l X := by
  obtain ⟨es, clock, hb, hes⟩ := h
  refine ⟨es, clock, hm.trans hb, fun e he' => ?_⟩
  obtain ⟨f, k, A, n, c, h1, h2, h3, h4, h5, h6⟩ := hes e he'
  exact ⟨f, k, A, n, c, h1, h2, h3, h4, h5.ext he, fun ad ha => ⟨Nat.lt_of_lt_of_le (h6 ad ha).1 he.size, (h6 ad ha).2⟩⟩
theorem Memo.below {w w' : World} {mb : Nat} {nd : Int} {l : List Ro} {X : Nat → Prop} (h : Memo w mb nd l X) (hb : Below w.heap.size w w') : Memo w' mb nd l X := by
  have h1 := h
  obtain ⟨es, clock, hm, -⟩ := h1
  exact h.keep (Ext.below hb) (hb.block mb (Array.getElem?_eq_some_iff.1 hm).1)
theorem Memo.lt {w : World} {mb : Nat} {nd : Int} {l : List Ro} {X : Nat → Prop} (h : Memo w mb nd l X) : mb < w.heap.size := by
  obtain ⟨es, clock, hm, -⟩ := h
  exact (Array.getElem?_eq_some_iff.1 hm).1

open Go.MapKept Go.ChangeMaps in
theorem Memo.look {w : World} {mb : Nat} {nd : Int} {l : List Ro} {X : Nat → Prop} (h : Memo w mb nd l X) {f k : Int} (hf : (Lit.int .i64 f).wf = true) (hk : (Lit.int .i64 k).wf = true) :
    ∃ A n c ok, (Instr.lookup 154 (.map (some mb)) (.agg #[.int .i64 f, .int .i64 k]) true).run Try.prog w = .ok (.tuple #[.slice A n c, .bool ok]) w ∧ (ok = true → Ints w A n (K.times nd l f k)) := by
  obtain ⟨es, clock, hb, hes⟩ := h
  obtain ⟨kl, hkey⟩ := tripKey hf hk
  have hkeys : ∀ e ∈ es.toList, ∃ l, keyOf Try.prog 183 e.key = some l := fun e he => by
    obtain ⟨f', k', A, n, c, h1, h2, h3, -⟩ := hes e he
    rw [h1]; exact tripKey h2 h3
  rcases tripLaw.find w hkey es.toList hkeys with ⟨h1, h2⟩ | ⟨j, e0, h1, h2, h3⟩
  · refine ⟨none, 0, 0, false, ?_, fun e => by cases e⟩
    simp [Instr.lookup, run_underlying Try.underlying154, MapKept.run_getObj_map hb, tripLaw.check w _ hkey, h1, Result.andThen]
  · obtain ⟨f', k', A, n, c, g1, -, -, g4, g5, -⟩ := hes e0 (List.mem_of_getElem? h2)
    rw [h3] at g1
    injection g1 with g1
    simp at g1
    obtain ⟨rfl, rfl⟩ := g1
    refine ⟨A, n, c, true, ?_, fun _ => g5⟩
    rw [← g4]
    simp [Instr.lookup, run_underlying Try.underlying154, MapKept.run_getObj_map hb, tripLaw.check w _ hkey, h1, Result.andThen]

open Go.MapKept Go.ChangeMaps in
theorem Memo.store {w : World} {mb : Nat} {nd : Int} {l : List Ro} {X : Nat → Prop} (h : Memo w mb nd l X) {f k : Int} (hf : (Lit.int .i64 f).wf = true) (hk : (Lit.int .i64 k).wf = true) {A : Option Addr} {n c : Nat} (hv : Ints w A n (K.times nd l f k)) (hA : ∀ ad, A = some ad → ad.block < w.heap.size ∧ ¬ X ad.block) :
    ∃ w', (Instr.mapUpdate 154 (.map (some mb)) (.agg #[.int .i64 f, .int .i64 k]) (.slice A n c)).run Try.prog w = .ok () w' ∧ Memo w' mb nd l X ∧ w.grownBy w' (some mb) := by
  obtain ⟨es, clock, hb, hes⟩ := h
  obtain ⟨kl, hkey⟩ := tripKey hf hk
  have hkeys : ∀ e ∈ es.toList, ∃ l, keyOf Try.prog 183 e.key = some l := fun e he => by
    obtain ⟨f', k', A, n, c, h1, h2, h3, -⟩ := hes e he
    rw [h1]; exact tripKey h2 h3
  have hgr : ∀ es' clock', w.grownBy (setBlock w mb (.map es' clock')) (some mb) := fun es' clock' => ⟨rfl, rfl, rfl, by simp [setBlock], fun i _ hi => heap_setBlock_other hb _ (fun e => hi (by rw [e]))⟩
  have hmk : ∀ es' clock', (∀ e ∈ es'.toList, e ∈ es.toList ∨ (e.key = .agg #[.int .i64 f, .int .i64 k] ∧ e.val = .slice A n c)) → Memo (setBlock w mb (.map es' clock')) mb nd l X := fun es' clock' he => by
    have hx := Ext.of_grown hb (hgr es' clock')
    refine ⟨es', clock', heap_setBlock_same hb _, fun e h9 => ?_⟩
    rcases he e h9 with h9 | ⟨h9, h10⟩
    · obtain ⟨f', k', A, n, c, h1, h2, h3, h4, h5, h6⟩ := hes e h9
      exact ⟨f', k', A, n, c, h1, h2, h3, h4, h5.ext hx, fun ad ha => ⟨Nat.lt_of_lt_of_le (h6 ad ha).1 hx.size, (h6 ad ha).2⟩⟩
    · exact ⟨f, k, A, n, c, h9, hf, hk, h10, hv.ext hx, fun ad ha => ⟨Nat.lt_of_lt_of_le (hA ad ha).1 hx.size, (hA ad ha).2⟩⟩
  rcases tripLaw.find w hkey es.toList hkeys with ⟨h1, h2⟩ | ⟨j, e0, h1, h2, h3⟩
  · refine ⟨setBlock w mb (.map (es.push ⟨.agg #[.int .i64 f, .int .i64 k], .slice A n c, clock⟩) (clock + 1)), ?_, hmk _ _ ?_, hgr _ _⟩
    · simp [Instr.mapUpdate, run_underlying Try.underlying154, MapKept.run_getObj_map hb, tripLaw.check w false hkey, h1, MapKept.run_setObj_map _ hb, Result.andThen, setBlock]
    · intro e he
      simp only [Array.toList_push, List.mem_append, List.mem_singleton] at he
      rcases he with he | rfl
      · exact .inl he
      · exact .inr ⟨rfl, rfl⟩
  · have hj : es[j]? = some e0 := by simpa using h2
    refine ⟨setBlock w mb (.map (es.modify j fun e => { e with key := .agg #[.int .i64 f, .int .i64 k], val := .slice A n c }) clock), ?_, hmk _ _ ?_, hgr _ _⟩
    · simp [Instr.mapUpdate, run_underlying Try.underlying154, MapKept.run_getObj_map hb, tripLaw.check w false hkey, h1, hj, h3, tripLaw.stays w hkey, MapKept.run_setObj_map _ hb, Result.andThen, setBlock]
    · intro e he
      rw [Array.mem_toList_iff, Array.mem_iff_getElem?] at he
      obtain ⟨i, he⟩ := he
      rw [Array.getElem?_modify] at he
      by_cases hij : j = i
      · rw [if_pos hij, ← hij, hj] at he
        simp at he
        subst he
        exact .inr ⟨rfl, rfl⟩
      · rw [if_neg hij] at he
        exact .inl (by rw [Array.mem_toList_iff, Array.mem_iff_getElem?]; exact ⟨i, he⟩)

theorem Lst.ext {α : Type} {f : α → List Value} {s : Nat} {w w' : World} {A : Option Addr} {n : Nat} {l : List α} (h : Lst f s w A n l) (hb : Ext w w') : Lst f s w' A n l := ⟨h.1, h.2.ext hb⟩
theorem Wins.ext {w w' : World} {A : Option Addr} {n : Nat} {l : List (Int × Int)} (h : Wins w A n l) (hb : Ext w w') : Wins w' A n l := ⟨h.1, h.2.ext hb⟩
theorem Reqs.ext {w w' : World} {A : Option Addr} {n : Nat} {l : List Q} (h : Reqs w A n l) (hb : Ext w w') : Reqs w' A n l := ⟨h.1, h.2.1.ext hb, fun q hq => (h.2.2 q hq).ext hb⟩
theorem At.ext {w w' : World} {x : C} (h : At w x) (hb : Ext w w') : At w' x := ⟨Lst.ext h.net hb, h.rooms.ext hb, h.reqs.ext hb, h.b1, h.b2, h.b3, h.b4⟩

/-- A case with a set. -/
structure PS where
  x : C
  A : Option Addr
  n : Nat
  c : Nat
  l : List Int
/-- The block of a planner. -/
def PBlk (w : World) (b mb : Nat) (p : PS) : Prop :=
  w.heap[b]? = some (.cells #[.int .i64 p.x.nd, .slice p.x.A p.x.n p.x.c, .int .i64 p.x.s.day, .int .i64 p.x.s.depot, .int .i64 p.x.s.start, .int .i64 p.x.s.end_, .int .i64 p.x.s.tare, .slice p.x.s.A p.x.s.n p.x.s.c, .slice p.x.B p.x.m p.x.d, .slice p.A p.n p.c, .map (some mb)] 156 (0, 0))
/-- The cells of the planner, in a world behind w. -/
def PCells (b mb : Nat) (p : PS) (w' : World) : Prop :=
  w'.cell? ⟨b, 0, none⟩ = some (.int .i64 p.x.nd) ∧ w'.cell? ⟨b, 1, none⟩ = some (.slice p.x.A p.x.n p.x.c) ∧ w'.cell? ⟨b, 2, none⟩ = some (.int .i64 p.x.s.day) ∧ w'.cell? ⟨b, 3, none⟩ = some (.int .i64 p.x.s.depot) ∧ w'.cell? ⟨b, 4, none⟩ = some (.int .i64 p.x.s.start) ∧
    w'.cell? ⟨b, 5, none⟩ = some (.int .i64 p.x.s.end_) ∧ w'.cell? ⟨b, 6, none⟩ = some (.int .i64 p.x.s.tare) ∧ w'.cell? ⟨b, 7, none⟩ = some (.slice p.x.s.A p.x.s.n p.x.s.c) ∧ w'.cell? ⟨b, 8, none⟩ = some (.slice p.x.B p.x.m p.x.d) ∧ w'.cell? ⟨b, 9, none⟩ = some (.slice p.A p.n p.c) ∧ w'.cell? ⟨b, 10, none⟩ = some (.map (some mb))
theorem PBlk.cells {w : World} {b mb : Nat} {p : PS} (h : PBlk w b mb p) : PCells b mb p w :=
  ⟨blk_cell h 0 _ rfl, blk_cell h 1 _ rfl, blk_cell h 2 _ rfl, blk_cell h 3 _ rfl, blk_cell h 4 _ rfl, blk_cell h 5 _ rfl, blk_cell h 6 _ rfl, blk_cell h 7 _ rfl, blk_cell h 8 _ rfl, blk_cell h 9 _ rfl, blk_cell h 10 _ rfl⟩
/-- A right planner. -/
structure PAt (w : World) (b mb : Nat) (p : PS) (X : Nat → Prop) : Prop where
  at_ : At w p.x
  set : Ints w p.A p.n p.l
  blk : PBlk w b mb p
  memo : Memo w mb p.x.nd p.x.l X
  ok : K.ok31 p.x.nd p.x.l p.x.s p.x.r p.l = true
  cap : p.n ≤ p.c
theorem PAt.keep {w w' : World} {b mb : Nat} {p : PS} {X : Nat → Prop} (h : PAt w b mb p X) (he : Ext w w') (hm : Memo w' mb p.x.nd p.x.l X) : PAt w' b mb p X :=
  ⟨h.at_.ext he, h.set.ext he, he.cells _ _ _ _ h.blk, hm, h.ok, h.cap⟩
theorem PAt.below {w w' : World} {b mb : Nat} {p : PS} {X : Nat → Prop} (h : PAt w b mb p X) (hb : Below w.heap.size w w') : PAt w' b mb p X := h.keep (Ext.below hb) (h.memo.below hb)
theorem Memo.more {w : World} {mb : Nat} {nd : Int} {l : List Ro} {X Y : Nat → Prop} (h : Memo w mb nd l X) (hY : ∀ g, g < w.heap.size → Y g → X g) : Memo w mb nd l Y := by
  obtain ⟨es, clock, hb, hes⟩ := h
  refine ⟨es, clock, hb, fun e he' => ?_⟩
  obtain ⟨f, k, A, n, c, h1, h2, h3, h4, h5, h6⟩ := hes e he'
  exact ⟨f, k, A, n, c, h1, h2, h3, h4, h5, fun ad ha => ⟨(h6 ad ha).1, fun hy => (h6 ad ha).2 (hY _ (h6 ad ha).1 hy)⟩⟩
theorem PAt.more {w : World} {b mb : Nat} {p : PS} {X Y : Nat → Prop} (h : PAt w b mb p X) (hY : ∀ g, g < w.heap.size → Y g → X g) : PAt w b mb p Y := ⟨h.at_, h.set, h.blk, h.memo.more hY, h.ok, h.cap⟩
theorem Memo.set {w : World} {mb : Nat} {nd : Int} {l : List Ro} {X : Nat → Prop} (h : Memo w mb nd l X) {g : Nat} (hg : X g) (hne : g ≠ mb) (i : Nat) (v : Value) : Memo (w.setCell ⟨g, i, none⟩ v) mb nd l X := by
  obtain ⟨es, clock, hb, hes⟩ := h
  refine ⟨es, clock, (Below.heap_setCell w _ _ mb (fun e => hne e.symm)).trans hb, fun e he' => ?_⟩
  obtain ⟨f, k, A, n, c, h1, h2, h3, h4, h5, h6⟩ := hes e he'
  exact ⟨f, k, A, n, c, h1, h2, h3, h4, h5.set _ (fun ad ha e2 => (h6 ad ha).2 (by rw [e2]; exact hg)), fun ad ha => ⟨by rw [World.size_setCell]; exact (h6 ad ha).1, (h6 ad ha).2⟩⟩
/-- What a call of a planner does: it makes blocks of its own, and remembers ways. -/
def Went (w w' : World) (b mb : Nat) (p : PS) (X : Nat → Prop) : Prop := w.grownBy w' (some mb) ∧ PAt w' b mb p X
theorem Went.ext {w w' : World} {b mb : Nat} {p : PS} {X : Nat → Prop} (h : Went w w' b mb p X) (hp : PAt w b mb p X) : Ext w w' := hp.memo.ext h.1
theorem went_below {w w' : World} {b mb : Nat} {p : PS} {X : Nat → Prop} (hp : PAt w b mb p X) (hb : Below w.heap.size w w') : Went w w' b mb p X := ⟨grow_below (grow_refl w _) hb, hp.below hb⟩
theorem Went.trans {w w1 w2 : World} {b mb : Nat} {p : PS} {X : Nat → Prop} (h : Went w w1 b mb p X) (h2 : Went w1 w2 b mb p X) : Went w w2 b mb p X := ⟨grow_step h.1 h2.1 (.inl rfl), h2.2⟩
theorem Went.below {w w1 w2 : World} {b mb : Nat} {p : PS} {X : Nat → Prop} (h : Went w w1 b mb p X) (h2 : Below w1.heap.size w1 w2) : Went w w2 b mb p X := h.trans (went_below h.2 h2)

/-- Some numbers are handed back, in a new block. -/
def RetNew (w w' : World) (l : List Int) (e : Ending) : Prop := (∃ A n c, e = .returned (.slice A n c) ∧ Ints w' A n l ∧ ∀ ad, A = some ad → w.heap.size ≤ ad.block ∧ ad.block < w'.heap.size) ∧ Below w.heap.size w w'

set_option maxRecDepth 100000 in
set_option maxHeartbeats 4000000 in
theorem times_new (nd : Int) (A : Option Addr) (n c : Nat) (l : List Ro) (s k : Int) (w : World) (hl : Roads w A n l) (hn : n ≤ 1000000000) :
    Calls Try.prog 107 #[.agg #[.int .i64 nd, .slice A n c], .int .i64 s, .int .i64 k] w fun e w' => RetNew w w' (K.times nd l s k) e := by
  have b0 := (Below.refl w.heap.size w).alloc (Nat.le_refl _) (.cells #[.int .i64 nd, .slice A n c] 24)
  have hP := Net.new w nd A n c
  have p0 := hP.c0
  have p1 := hP.c1
  cases h1 : (K.netErr nd l == 0)
  · have HX := Lib.hid (K.times_nil (s := s) (k := k) (show (K.netErr nd l == 0 && T.btw s 0 (nd - 1)) = false by simp [h1]))
    have h1' : (K.netErr nd l != 0) = true := by simp [bne, h1]
    go_enter Try.func107, Try.ntmps107
    go_wp2_with fail
    refine (netcheck_any nd A n c l _ (hl.below b0) hn).mono ?_; rintro e w1 ⟨rfl, hb1⟩
    go_wp2_with fail
    go_ret
    exact ⟨⟨none, 0, 0, rfl, by rw [HX.out]; exact ints_nil _, fun ad e => (nomatch e)⟩, bel b0 hb1⟩
  · have h1' : (K.netErr nd l != 0) = false := by simp [bne, h1]
    have hne : K.netErr nd l = 0 := by simpa using h1
    have HE := Lib.hid hne
    obtain ⟨⟨n0, n1⟩, hl6, hfine, hmin⟩ := K.netErr_ok hne
    clear hne
    cases h2 : T.btw s 0 (nd - 1)
    · have HX := Lib.hid (K.times_nil (k := k) (show (K.netErr nd l == 0 && T.btw s 0 (nd - 1)) = false by simp [h2]))
      go_enter Try.func107, Try.ntmps107
      go_wp2_with fail
      refine (netcheck_any nd A n c l _ (hl.below b0) hn).mono ?_; rintro e w1 ⟨rfl, hb1⟩
      have hP1 := hP.below hb1
      have p0 := hP1.c0
      have p1 := hP1.c1
      go_wp2_with fail
      refine (in_any _ _ _ _).mono ?_; rintro e w' ⟨rfl, rfl⟩
      go_wp2_with fail
      go_ret
      exact ⟨⟨none, 0, 0, rfl, by rw [HX.out]; exact ints_nil _, fun ad e => (nomatch e)⟩, bel b0 hb1⟩
    · obtain ⟨s0, s1⟩ := T.btw_iff.1 h2
      obtain ⟨m, rfl⟩ : ∃ m : Nat, nd = (m : Int) := ⟨nd.toNat, by omega⟩
      obtain ⟨t, rfl⟩ : ∃ t : Nat, s = (t : Int) := ⟨s.toNat, by omega⟩
      have HT := Lib.hid (K.times_dist (k := k) HE.out h2)
      have HF := Lib.hid hfine
      have HM := Lib.hid hmin
      clear hfine hmin
      go_enter Try.func107, Try.ntmps107
      go_wp2_with fail
      refine (netcheck_any m A n c l _ (hl.below b0) hn).mono ?_; rintro e w1 ⟨rfl, hb1⟩
      have hP1 := hP.below hb1
      have p0 := hP1.c0
      have p1 := hP1.c1
      go_wp2_with fail
      refine (in_any _ _ _ _).mono ?_; rintro e w' ⟨rfl, rfl⟩
      go_wp2_with fail
      refine (search_any m A n c l t k _ (hl.below (bel b0 hb1)) (by rw [hl.1]; omega) (by omega) HF.out HM.out (by omega)).mono ?_
      rintro e w2 ⟨g, out, rfl, hg, hI, hD, hb2⟩
      have HE2 := Lib.hid (G.Dist.eq HT.out hD)
      have hol := hD.1
      have HOL := Lib.hid hol
      clear hD hol
      go_wp2_with fail
      go_ret
      have hi := hI.ints
      rw [HOL.out] at hi
      have hs1 := (bel b0 hb1).size
      exact ⟨⟨_, _, _, rfl, by rw [HE2.out]; exact hi, fun ad e => by injection e with e; subst e; exact ⟨Nat.le_trans hs1 hg, hI.lt⟩⟩, bel (bel b0 hb1) hb2⟩
end Go.Proofs.Ytippdjmpkafifaa
