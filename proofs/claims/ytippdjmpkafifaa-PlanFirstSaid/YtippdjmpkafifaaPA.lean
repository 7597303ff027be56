/-
Routes: the contract of planner.labels.
-/
import Derived.Test.YtippdjmpkafifaaP9
namespace Go.Proofs.Ytippdjmpkafifaa
open Go.RowKit

/-- The cells of a table whose first rows are laid. -/
def tabCells (n N : Nat) (gs : List Nat) : List Value := gs.map (fun g => Value.slice (some ⟨g, 0, none⟩) n n) ++ List.replicate (N - gs.length) (Value.slice none 0 0)
theorem tab_at {n N : Nat} {gs : List Nat} {m g : Nat} (h : gs[m]? = some g) : (tabCells n N gs)[m]? = some (.slice (some ⟨g, 0, none⟩) n n) := by
  have hk := (List.getElem?_eq_some_iff.1 h).1
  unfold tabCells
  rw [List.getElem?_append_left (by simpa using hk), List.getElem?_map, h]
  rfl
theorem tab_next {n N : Nat} {gs : List Nat} (h : gs.length < N) : (tabCells n N gs)[gs.length]? = some (.slice none 0 0) := by
  unfold tabCells
  rw [List.getElem?_append_right (by simp), List.getElem?_replicate, if_pos (by simp; omega)]
theorem tab_set {n N : Nat} {gs : List Nat} (g : Nat) (h : gs.length < N) : (tabCells n N gs).set gs.length (.slice (some ⟨g, 0, none⟩) n n) = tabCells n N (gs ++ [g]) := by
  unfold tabCells
  obtain ⟨d, hd⟩ : ∃ d, N - gs.length = d + 1 := ⟨N - gs.length - 1, by omega⟩
  rw [hd, List.set_append_right _ _ (by simp), List.length_map, Nat.sub_self, List.replicate_succ, List.set_cons_zero, List.map_append, List.append_assoc]
  simp only [List.length_append, List.length_singleton, List.map_cons, List.map_nil]
  rw [show N - (gs.length + 1) = d by omega]
  rfl

/-- What holds of the table of labels. -/
structure LTab (w : World) (mb go : Nat) (p : PS) (N : Nat) (gs : List Nat) (rows : List (List Int)) (wr : World) : Prop where
  grown : w.grownBy wr (some mb)
  memo : Memo wr mb p.x.nd p.x.l (fun g => g = go ∨ g ∈ gs)
  outb : wr.heap[go]? = some (.cells (tabCells p.n N gs).toArray 41 (0, 0))
  len : gs.length = rows.length
  row : ∀ (m g : Nat) (row : List Int), gs[m]? = some g → rows[m]? = some row → IBlk wr g row
  new : ∀ g ∈ gs, w.heap.size ≤ g ∧ g ≠ go
  go : w.heap.size ≤ go

theorem LTab.lt {w wr : World} {mb go N : Nat} {p : PS} {gs : List Nat} {rows : List (List Int)} (h : LTab w mb go p N gs rows wr) : ∀ g, (g = go ∨ g ∈ gs) → g < wr.heap.size := fun g hg => by
  rcases hg with rfl | hg
  · exact lt_of_block h.outb
  · obtain ⟨m, hm⟩ := List.mem_iff_getElem?.1 hg
    have hl : m < rows.length := by rw [← h.len]; exact (List.getElem?_eq_some_iff.1 hm).1
    exact (h.row m g _ hm (List.getElem?_eq_getElem hl)).lt
theorem IBlk.ext {w w' : World} {g : Nat} {l : List Int} (h : IBlk w g l) (hx : Ext w w') : IBlk w' g l := hx.cells _ _ _ _ h
theorem LTab.went {w wr w' : World} {b mb go N : Nat} {p : PS} {gs : List Nat} {rows : List (List Int)} (h : LTab w mb go p N gs rows wr) (hw : Went wr w' b mb p (fun g => g = go ∨ g ∈ gs)) : LTab w mb go p N gs rows w' := by
  have hx := h.memo.ext hw.1
  exact ⟨grow_step h.grown hw.1 (.inl rfl), hw.2.memo, hx.cells _ _ _ _ h.outb, h.len, fun m g row h1 h2 => (h.row m g row h1 h2).ext hx, h.new, h.go⟩
theorem LTab.below {w wr w' : World} {mb go N : Nat} {p : PS} {gs : List Nat} {rows : List (List Int)} (h : LTab w mb go p N gs rows wr) (hb : Below wr.heap.size wr w') : LTab w mb go p N gs rows w' :=
  ⟨grow_below h.grown hb, h.memo.below hb, blk_below hb h.outb, h.len, fun m g row h1 h2 => (h.row m g row h1 h2).ext (Ext.below hb), h.new, h.go⟩
theorem LTab.pat {w wr : World} {b mb go N : Nat} {p : PS} {X : Nat → Prop} {gs : List Nat} {rows : List (List Int)} (h : LTab w mb go p N gs rows wr) (hp : PAt w b mb p X) : PAt wr b mb p (fun g => g = go ∨ g ∈ gs) :=
  (hp.more (Y := fun g => g = go ∨ g ∈ gs) (fun g hg hy => by
    rcases hy with rfl | hy
    · have := h.go; omega
    · have := (h.new g hy).1; omega)).keep (hp.memo.ext h.grown) h.memo
/-- A row is laid. -/
theorem LTab.push {w wr w1 : World} {mb go N g : Nat} {p : PS} {gs : List Nat} {rows : List (List Int)} {row : List Int} (h : LTab w mb go p N gs rows wr) (hb : Below wr.heap.size wr w1) (hg : wr.heap.size ≤ g) (hI : IBlk w1 g row) (hN : gs.length < N) (hmb : mb < w.heap.size) :
    LTab w mb go p N (gs ++ [g]) (rows ++ [row]) (w1.setCell ⟨go, gs.length, none⟩ (.slice (some ⟨g, 0, none⟩) p.n p.n)) := by
  have h1 := h.below hb
  have hgo := lt_of_block h.outb
  have hne : g ≠ go := by omega
  have hm : Memo w1 mb p.x.nd p.x.l (fun k => k = go ∨ k ∈ gs ++ [g]) := (h.memo.more (Y := fun k => k = go ∨ k ∈ gs ++ [g]) (fun k hk hy => by
    rcases hy with rfl | hy
    · exact .inl rfl
    · rcases List.mem_append.1 hy with hy | hy
      · exact .inr hy
      · rw [List.mem_singleton.1 hy] at hk; omega)).below hb
  have hgm : go ≠ mb := by have := h.go; omega
  refine ⟨⟨h1.grown.os, h1.grown.tape, h1.grown.output, by rw [World.size_setCell]; exact h1.grown.size, fun k hk hne => ?_⟩, hm.set (.inl rfl) hgm _ _, ?_, by simp [h.len], fun m k r hm1 hm2 => ?_, fun k hk => ?_, h.go⟩
  · exact (Below.heap_setCell w1 _ _ k (by have := h.go; show k ≠ go; omega)).trans (h1.grown.block k hk hne)
  · have h9 := blk_set h1.outb gs.length (.slice (some ⟨g, 0, none⟩) p.n p.n)
    rw [h9, ← tab_set g hN]
    simp
  · have hoth : ∀ k r, IBlk w1 k r → k ≠ go → IBlk (w1.setCell ⟨go, gs.length, none⟩ (.slice (some ⟨g, 0, none⟩) p.n p.n)) k r := fun k r h9 hk => (Below.heap_setCell w1 _ _ k (by show k ≠ go; exact hk)).trans h9
    by_cases hml : m < gs.length
    · rw [List.getElem?_append_left hml] at hm1
      rw [List.getElem?_append_left (by rw [← h.len]; exact hml)] at hm2
      exact hoth _ _ (h1.row m k r hm1 hm2) (h.new k (List.mem_of_getElem? hm1)).2
    · have hl := (List.getElem?_eq_some_iff.1 hm1).1
      simp at hl
      have e : m = gs.length := by omega
      subst e
      rw [List.getElem?_append_right (Nat.le_refl _), Nat.sub_self] at hm1
      rw [List.getElem?_append_right (by rw [h.len]; omega), h.len, Nat.sub_self] at hm2
      injection hm1 with hm1
      injection hm2 with hm2
      subst hm1 hm2
      exact hoth _ _ hI hne
  · rcases List.mem_append.1 hk with hk | hk
    · exact h.new k hk
    · rw [List.mem_singleton.1 hk]
      exact ⟨Nat.le_trans h.grown.size hg, hne⟩
/-- A label is noted in the last row. -/
theorem LTab.store {w wr : World} {mb go N g i : Nat} {p : PS} {gs : List Nat} {rows : List (List Int)} {row : List Int} (x : Int) (h : LTab w mb go p N (gs ++ [g]) (rows ++ [row]) wr) (hg : g ∉ gs) (hmb : mb < w.heap.size) :
    LTab w mb go p N (gs ++ [g]) (rows ++ [row.set i x]) (wr.setCell ⟨g, i, none⟩ (.int .i64 x)) := by
  have hgn := h.new g (by simp)
  have hlen : gs.length = rows.length := by have := h.len; simpa using this
  have hoth : ∀ k r, IBlk wr k r → k ≠ g → IBlk (wr.setCell ⟨g, i, none⟩ (.int .i64 x)) k r := fun k r h9 hk => (Below.heap_setCell wr _ _ k (by show k ≠ g; exact hk)).trans h9
  refine ⟨⟨h.grown.os, h.grown.tape, h.grown.output, by rw [World.size_setCell]; exact h.grown.size, fun k hk hne => ?_⟩, h.memo.set (.inr (by simp)) (by omega) _ _, ?_, by simpa using hlen, fun m k r hm1 hm2 => ?_, h.new, h.go⟩
  · exact (Below.heap_setCell wr _ _ k (by show k ≠ g; omega)).trans (h.grown.block k hk hne)
  · exact (Below.heap_setCell wr _ _ go (by show go ≠ g; exact fun e => hgn.2 e.symm)).trans h.outb
  · by_cases hml : m < gs.length
    · have hm1' := hm1
      rw [List.getElem?_append_left hml] at hm1'
      rw [List.getElem?_append_left (by rw [← hlen]; exact hml)] at hm2
      refine hoth _ _ (h.row m k r hm1 (by rw [List.getElem?_append_left (by rw [← hlen]; exact hml)]; exact hm2)) (fun e => hg (by rw [← e]; exact List.mem_of_getElem? hm1'))
    · have hl := (List.getElem?_eq_some_iff.1 hm1).1
      simp at hl
      have e : m = gs.length := by omega
      subst e
      rw [List.getElem?_append_right (Nat.le_refl _), Nat.sub_self] at hm1
      rw [List.getElem?_append_right (by rw [hlen]; omega), hlen, Nat.sub_self] at hm2
      injection hm1 with hm1
      injection hm2 with hm2
      subst hm1 hm2
      exact (h.row gs.length g row (by rw [List.getElem?_append_right (Nat.le_refl _), Nat.sub_self]; rfl) (by rw [hlen, List.getElem?_append_right (Nat.le_refl _), Nat.sub_self]; rfl)).set i x
end Go.Proofs.Ytippdjmpkafifaa
