/-
The walk of the builder's add.
-/
import Derived.Test.YtijkaiilecpbcaaW13
import Derived.Deep.RegionLaw
namespace Go.Proofs.Ytijkaiilecpbcaa
open Go.RowKit

/-- Of what was there all stands but the block b and the row r. -/
structure Two (w w' : World) (b : Nat) (r : Option Nat) : Prop where
  os : w'.os = w.os
  tape : w'.tape = w.tape
  output : w'.output = w.output
  size : w.heap.size ≤ w'.heap.size
  block : ∀ k, k < w.heap.size → k ≠ b → some k ≠ r → w'.heap[k]? = w.heap[k]?

theorem Two.below {w w' : World} {b : Nat} {r : Option Nat} (h : Two w w' b r) {B : Nat} {a : World} (hb : Below B a w) (hB : B ≤ w.heap.size) (h1 : B ≤ b) (h2 : ∀ k, r = some k → B ≤ k) : Below B a w' :=
  hb.trans ⟨h.os, h.tape, h.output, h.size, fun k hk => h.block k (by omega) (by omega) (fun e => by have := h2 k e.symm; omega)⟩

theorem Two.own {w w' : World} {b : Nat} {r : Option Nat} (h : Two w w' b r) {base : Nat} {e : TypeId} {size n : Nat} {v : Value} {xs : List Value} (ho : w.ownsRow base e size v n xs) (hb : v.ownBlock ≠ some b) (hr : ∀ k, v.ownBlock = some k → r ≠ some k) : w'.ownsRow base e size v n xs := by
  obtain ⟨hl, h1 | ⟨g, cap, cur, hv, hbg, hh, rest⟩⟩ := ho
  · exact ⟨hl, .inl h1⟩
  · refine ⟨hl, .inr ⟨g, cap, cur, hv, hbg, ?_, rest⟩⟩
    rw [h.block g (Array.getElem?_eq_some_iff.1 hh).1 (fun e => hb (by rw [hv, ← e]; rfl)) (fun e => hr g (by rw [hv]; rfl) e.symm)]
    exact hh

set_option maxRecDepth 100000 in
set_option maxHeartbeats 4000000 in
theorem add_any (bb base : Nat) (v : Value) (n : Nat) (L : List It) (x : It) (w : World) (hB : w.heap[bb]? = some (.cells #[v] 53 (0, 0))) (hown : w.ownsRow base 37 4 v n (itemCells L)) (hbb : v.ownBlock ≠ some bb) (hbase : base ≤ w.heap.size) (hn : n ≤ 10000) :
    Calls Try.prog 23 #[.pointer (some ⟨bb, 0, none⟩), .agg #[.int .i64 x.val, .int .i64 x.bl, .int .i64 x.lt, .int .i64 x.rt]] w fun e w' => e = .returned (.int .i64 n) ∧ ∃ v', w'.heap[bb]? = some (.cells #[v'] 53 (0, 0)) ∧ w'.ownsRow base 37 4 v' (n + 1) (itemCells (L ++ [x])) ∧ Two w w' bb v.ownBlock ∧ (v'.ownBlock = v.ownBlock ∨ ∃ k, v'.ownBlock = some k ∧ w.heap.size ≤ k) ∧ v'.ownBlock ≠ some bb := by
  obtain ⟨i0, hi, hz0, hz1, hz2⟩ := info_parts Try.info37
  have hbw : bb < w.heap.size := lt_of_block hB
  have sz := World.size_alloc w
  have al := fun (o o' : Obj) => blk_alloc (blk_alloc hB o) o'
  have v0 : ∀ o : Obj, (w.alloc o).cell? ⟨bb, 0, none⟩ = some v := fun o => blk_cell (blk_alloc hB o) 0 _ rfl
  have v1 : ∀ o o' : Obj, ((w.alloc o).alloc o').cell? ⟨bb, 0, none⟩ = some v := fun o o' => blk_cell (al o o') 0 _ rfl
  have bd : ∀ o o' : Obj, Below w.heap.size w ((w.alloc o).alloc o').drew := fun o o' => (((Below.refl _ _).alloc (Nat.le_refl _) _).alloc (by simp) _).drew
  have own1 : ∀ o o' : Obj, ((w.alloc o).alloc o').drew.ownsRow base 37 4 v n (itemCells L) := fun o o' => own_below hown (bd o o')
  have new1 : ∀ o : Obj, ∀ (j : Nat) (u : Value), ([Value.int .i64 x.val, .int .i64 x.bl, .int .i64 x.lt, .int .i64 x.rt])[j]? = some u → ((w.alloc o).alloc (.cells #[.int .i64 x.val, .int .i64 x.bl, .int .i64 x.lt, .int .i64 x.rt] 37)).drew.cell? ((⟨w.heap.size + 1, 0, none⟩ : Addr).add j) = some u := fun o j u hu => by
    rw [add_zero_block]
    exact blk_cell (w := (w.alloc o).alloc _) (heap_alloc_at _ _ _ (sz o).symm) j u (by simpa using hu)
  have one1 : ∀ u ∈ [Value.int .i64 x.val, .int .i64 x.bl, .int .i64 x.lt, .int .i64 x.rt], u.oneCell' = true := fun u hu => by
    simp at hu
    rcases hu with rfl | rfl | rfl | rfl <;> rfl
  have le1 : n + 1 ≤ maxLen := by simp only [maxLen]; omega
  have le2 : (n + 1) * 32 ≤ 140737488355328 := by omega
  have le3 : ∀ o o' : Obj, base ≤ ((w.alloc o).alloc o').drew.heap.size := fun o o' => Nat.le_trans hbase (bd o o').size
  have ne1 : some bb ≠ v.ownBlock := fun e => hbb e.symm
  go_enter Try.func23, Try.ntmps23
  go_wp2_with fail
  go_region_law (refine step_append_lies _ rfl (.tmp 10) (.tmp 12) 22 rfl base 37 i0 (.agg #[.int .i64 0, .int .i64 0, .int .i64 0, .int .i64 0]) 4 32 Try.underlying22 hi hz0 hz1 hz2 rfl (Nat.succ_pos 3) v n (itemCells L) rfl (own1 _ _) ⟨w.heap.size + 1, 0, none⟩ 1 1 [.int .i64 x.val, .int .i64 x.bl, .int .i64 x.lt, .int .i64 x.rt] rfl rfl (new1 _) one1 Nat.one_pos le1 le2 (le3 _ _) _ rfl ?_; intro g4 cap4 w4 hown4 hgrow4 hlies hlt4; have hB4 := grow_blk hgrow4 (al _ _) ne1; have v4 : w4.cell? ⟨bb, 0, none⟩ = some v := blk_cell hB4 0 _ rfl; have vf4 : w4.frozen? ⟨bb, 0, none⟩ = false := by simp [World.frozen?, hB4])
  all_goals
    have hS := blk_set hB4 0 (Value.slice (some ⟨g4, 0, none⟩) (n + 1) cap4)
    have z : (w4.setCell ⟨bb, 0, none⟩ (Value.slice (some ⟨g4, 0, none⟩) (n + 1) cap4)).cell? ⟨bb, 0, none⟩ = some (Value.slice (some ⟨g4, 0, none⟩) (n + 1) cap4) := blk_cell hS 0 _ rfl
    have hnb : bb ≠ g4 := fun e => by
      rcases hlies with h | h
      · exact hbb (by rw [h, e])
      · have := (bd (.cells #[.int .i64 x.val, .int .i64 x.bl, .int .i64 x.lt, .int .i64 x.rt] 37) (.cells #[.int .i64 x.val, .int .i64 x.bl, .int .i64 x.lt, .int .i64 x.rt] 37)).size
        rw [← h, ← e] at this; omega
    have hR := ownsRow_setCell_other hown4 (a := ⟨bb, 0, none⟩) (show (some g4 : Option Nat) ≠ some bb from fun e => hnb (Option.some.inj e).symm) (Value.slice (some ⟨g4, 0, none⟩) (n + 1) cap4)
    have hbd := bd (.cells #[.int .i64 x.val, .int .i64 x.bl, .int .i64 x.lt, .int .i64 x.rt] 37) (.cells #[.int .i64 x.val, .int .i64 x.bl, .int .i64 x.lt, .int .i64 x.rt] 37)
    have hT : Two w (w4.setCell ⟨bb, 0, none⟩ (Value.slice (some ⟨g4, 0, none⟩) (n + 1) cap4)) bb v.ownBlock :=
      ⟨hgrow4.os.trans hbd.os, hgrow4.tape.trans hbd.tape, hgrow4.output.trans hbd.output, by show _ ≤ (w4.heap.modify _ _).size; rw [Array.size_modify]; exact Nat.le_trans hbd.size hgrow4.size,
        fun k hk hkb hkr => ((Below.heap_setCell w4 ⟨bb, 0, none⟩ _ k hkb).trans (hgrow4.block k (Nat.lt_of_lt_of_le hk hbd.size) hkr)).trans (hbd.block k hk)⟩
    have hN : (Value.slice (some ⟨g4, 0, none⟩) (n + 1) cap4).ownBlock = v.ownBlock ∨ ∃ k, (Value.slice (some ⟨g4, 0, none⟩) (n + 1) cap4).ownBlock = some k ∧ w.heap.size ≤ k := by
      rcases hlies with h | h
      · exact .inl h.symm
      · exact .inr ⟨g4, rfl, by rw [h]; exact hbd.size⟩
    clear hgrow4 hlies v4 vf4 hbd
    go_wp2_with fail
    go_ret
    refine ⟨by congr 2, _, hS, ?_, hT, hN, fun e => hnb (Option.some.inj e).symm⟩
    rw [itemCells, List.flatMap_append]
    exact hR
end Go.Proofs.Ytijkaiilecpbcaa
