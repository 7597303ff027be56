/-
Routes: the contract of what planner.label does for each label.
-/
import Derived.Test.YtippdjmpkafifaaP5
namespace Go.Proofs.Ytippdjmpkafifaa
open Go.RowKit

namespace K
/-- The earliest arrival so far, and one more. -/
def noted (y first t : Int) : Int := if y ≠ -1 ∧ t ≠ -1 ∧ (first = -1 ∨ t + y < first) then t + y else first
theorem noted_no1 {y first t : Int} (h : y = -1) : noted y first t = first := by unfold noted; rw [if_neg (by simp [h])]
theorem noted_no2 {y first t : Int} (h : t = -1) : noted y first t = first := by unfold noted; rw [if_neg (by simp [h])]
theorem noted_no3 {y first t : Int} (h : ¬ first = -1) (h2 : ¬ t + y < first) : noted y first t = first := by unfold noted; rw [if_neg (by simp [h, h2])]
theorem noted_yes {y first t : Int} (h1 : ¬ y = -1) (h2 : ¬ t = -1) (h : first = -1 ∨ t + y < first) : noted y first t = t + y := by unfold noted; rw [if_pos ⟨h1, h2, h⟩]
end K

/-- w' is w, but for the blocks mb and g, and for new ones. -/
structure But2 (w w' : World) (mb g : Nat) : Prop where
  os : w'.os = w.os
  tape : w'.tape = w.tape
  output : w'.output = w.output
  size : w.heap.size ≤ w'.heap.size
  block : ∀ k, k < w.heap.size → k ≠ mb → k ≠ g → w'.heap[k]? = w.heap[k]?

theorem But2.of {w w' : World} {mb g : Nat} (h : w.grownBy w' (some mb)) : But2 w w' mb g := ⟨h.os, h.tape, h.output, h.size, fun k hk hne _ => h.block k hk (fun e => hne (by injection e))⟩
theorem But2.set {w w' : World} {mb g : Nat} (h : But2 w w' mb g) (i : Nat) (v : Value) : But2 w (w'.setCell ⟨g, i, none⟩ v) mb g :=
  ⟨h.os, h.tape, h.output, by rw [World.size_setCell]; exact h.size, fun k hk hne hg => (Below.heap_setCell w' _ _ k (fun e => hg e)).trans (h.block k hk hne hg)⟩

/-- What one note leaves. -/
def Noted (w w' : World) (mb g10 : Nat) (p : PS) (X : Nat → Prop) (first : Int) (e : Ending) : Prop :=
  e = .returned (.tuple #[]) ∧ But2 w w' mb g10 ∧ Memo w' mb p.x.nd p.x.l X ∧ w'.heap[g10]? = some (.cells #[.int .i64 first] 3 (0, 0))

set_option maxRecDepth 100000 in
set_option maxHeartbeats 16000000 in
theorem note_any (b mb : Nat) (p : PS) (i j : Nat) (q : Q) (m : Nat) (fr t first : Int) (g4 g7 g9 g10 : Nat) (w : World) {X : Nat → Prop} (hp : PAt w b mb p X) (hX : ∀ g, X g → g < w.heap.size)
    (h4 : w.heap[g4]? = some (.cells #[.pointer (some ⟨b, 0, none⟩)] 101 (0, 0))) (h7 : w.heap[g7]? = some (.cells #[.int .i64 (i : Int)] 3 (0, 0))) (h9 : w.heap[g9]? = some (.cells #[.int .i64 (m : Int)] 3 (0, 0))) (h10 : w.heap[g10]? = some (.cells #[.int .i64 first] 3 (0, 0))) (hXg : X g10)
    (he : Elem p i j q) (hm : m < 256) (hfr : 0 ≤ fr ∧ fr < p.x.nd) (hto : 0 ≤ q.node ∧ q.node < p.x.nd) (hwt : (Lit.int .i64 (T.weight p.x.s p.x.r (K.part p.l m))).wf = true) (ht : -1 ≤ t ∧ t ≤ 1000000) :
    Calls Try.prog 116 #[.int .i64 fr, .int .i64 t, .pointer (some ⟨g4, 0, none⟩), .pointer (some ⟨g7, 0, none⟩), .pointer (some ⟨g9, 0, none⟩), .pointer (some ⟨g10, 0, none⟩)] w fun e w' => Noted w w' mb g10 p X (K.noted (K.way p.x.nd p.x.l fr (T.weight p.x.s p.x.r (K.part p.l m)) q.node) first t) e := by
  obtain ⟨tn, htn⟩ : ∃ tn : Nat, q.node = (tn : Int) := ⟨q.node.toNat, by omega⟩
  have hpd := hp.below (w' := w.drew) (Below.refl _ _).drew
  have CN := node_any b mb p i j q w.drew hpd he
  rw [htn] at CN ⊢
  have htn2 : (tn : Int) < p.x.nd := by omega
  have S0 : w.cell? ⟨g4, 0, none⟩ = some (.pointer (some ⟨b, 0, none⟩)) ∧ w.cell? ⟨g7, 0, none⟩ = some (.int .i64 (i : Int)) ∧ w.cell? ⟨g9, 0, none⟩ = some (.int .i64 (m : Int)) := ⟨blk_cell h4 0 _ rfl, blk_cell h7 0 _ rfl, blk_cell h9 0 _ rfl⟩
  have hS : ∀ w', Ext w w' → w'.cell? ⟨g4, 0, none⟩ = some (.pointer (some ⟨b, 0, none⟩)) ∧ w'.cell? ⟨g7, 0, none⟩ = some (.int .i64 (i : Int)) ∧ w'.cell? ⟨g9, 0, none⟩ = some (.int .i64 (m : Int)) := fun w' h => ⟨h.cell S0.1, h.cell S0.2.1, h.cell S0.2.2⟩
  have S0d := hS w.drew (Ext.below (Below.refl w.heap.size w).drew)
  go_enter Try.func116, Try.ntmps116
  go_wp2_with fail
  go_region_held3 (fun w' => w'.cell? ⟨g4, 0, none⟩ = some (.pointer (some ⟨b, 0, none⟩)) ∧ w'.cell? ⟨g7, 0, none⟩ = some (.int .i64 (i : Int)) ∧ w'.cell? ⟨g9, 0, none⟩ = some (.int .i64 (m : Int)))
    (first | assumption | exact S0 | exact S0d)
    (first
      | (go_at_call 71; refine CN.mono ?_; rintro e w1 ⟨rfl, b1⟩; have hd1 : Below w.heap.size w w1 := bel (w1 := w.drew) (Below.refl _ _).drew b1; have hp1 := hp.below hd1; have S1 := hS w1 (Ext.below hd1))
      | (go_at_call 70; refine (way_any b mb p fr tn m w1 hp1 (fun g hg => Nat.lt_of_lt_of_le (hX g hg) hd1.size) hm hfr htn2 hwt).mono ?_; rintro e w2 ⟨rfl, hW⟩; have hx2 := (Ext.below hd1).trans (hW.ext hp1); have S2 := hS w2 hx2)
      | fail)
  have hyb := K.way_bd p.x.nd p.x.l fr (T.weight p.x.s p.x.r (K.part p.l m)) tn
  obtain ⟨y, hy⟩ : ∃ y, y = K.way p.x.nd p.x.l fr (T.weight p.x.s p.x.r (K.part p.l m)) tn := ⟨_, rfl⟩
  rw [← hy] at hyb ⊢
  have HY := Lib.hid hy
  obtain ⟨hy0, hy1⟩ := hyb
  have h10x := hx2.cells _ _ _ _ h10
  have hBut : But2 w w2 mb g10 := But2.of (grow_below (grow_refl w _) hd1 |> fun h => grow_step h hW.1 (.inl rfl))
  have hMm := hW.2.memo
  have hne : g10 ≠ mb := fun e => by
    obtain ⟨es, clock, hmb, -⟩ := hMm
    rw [← e, h10x] at hmb
    cases hmb
  have f10 := blk_cell h10x 0 _ rfl
  have z10 := blk_free h10x 0
  have hwrap : IntKind.i64.wrap (t + y) = t + y := IntWalk.i64_in _ (by omega)
  have hset : Noted w (w2.setCell ⟨g10, 0, none⟩ (.int .i64 (t + y))) mb g10 p X (t + y) (.returned (.tuple #[])) := ⟨rfl, hBut.set _ _, hMm.set hXg hne 0 _, blk_set h10x 0 _⟩
  have hkeep : Noted w w2 mb g10 p X first (.returned (.tuple #[])) := ⟨rfl, hBut, hMm, h10x⟩
  have HSET := Lib.hid hset
  have HKEEP := Lib.hid hkeep
  clear hset hkeep hy S0 S0d S1 S2 hS CN hBut hne
  cases c1 : (y == -1)
  rotate_left
  · have hb1 : (y != -1) = false := by simp [bne, c1]
    have HX := Lib.hid (K.noted_no1 (first := first) (t := t) (show y = -1 by simpa using c1))
    clear c1
    go_wp2_with fail
    refine bodyPost_end (results_none rfl _ _ _) rfl ?_
    rw [← HY.out, HX.out]
    exact HKEEP.out
  have hb1 : (y != -1) = true := by simp [bne, c1]
  have hn1 : ¬ y = -1 := by simpa using c1
  cases c2 : (t == -1)
  rotate_left
  · have hb2 : (t != -1) = false := by simp [bne, c2]
    have HX := Lib.hid (K.noted_no2 (first := first) (y := y) (show t = -1 by simpa using c2))
    clear c2
    go_wp2_with fail
    refine bodyPost_end (results_none rfl _ _ _) rfl ?_
    rw [← HY.out, HX.out]
    exact HKEEP.out
  have hb2 : (t != -1) = true := by simp [bne, c2]
  have hn2 : ¬ t = -1 := by simpa using c2
  cases c3 : (first == -1)
  · have hn3 : ¬ first = -1 := by simpa using c3
    cases c4 : decide (t + y < first)
    · have HX := Lib.hid (K.noted_no3 (y := y) (t := t) hn3 (of_decide_eq_false c4))
      clear c1 c2 hn1 hn2 hn3
      go_wp2_with fail
      refine bodyPost_end (results_none rfl _ _ _) rfl ?_
      rw [← HY.out, HX.out]
      exact HKEEP.out
    · have HX := Lib.hid (K.noted_yes (first := first) hn1 hn2 (.inr (of_decide_eq_true c4)))
      clear c1 c2 hn1 hn2 hn3
      go_wp2_with fail
      refine bodyPost_end (results_none rfl _ _ _) rfl ?_
      rw [← HY.out, HX.out]
      exact HSET.out
  · have HX := Lib.hid (K.noted_yes (first := first) hn1 hn2 (.inl (show first = -1 by simpa using c3)))
    cases c4 : decide (t + y < first)
    all_goals
      clear c1 c2 hn1 hn2
      go_wp2_with fail
      refine bodyPost_end (results_none rfl _ _ _) rfl ?_
      rw [← HY.out, HX.out]
      exact HSET.out
end Go.Proofs.Ytippdjmpkafifaa
