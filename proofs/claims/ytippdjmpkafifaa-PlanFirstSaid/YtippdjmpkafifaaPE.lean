/-
Routes: whether a label leaves a way back.
-/
import Derived.Test.YtippdjmpkafifaaPD
namespace Go.Proofs.Ytippdjmpkafifaa
open Go.RowKit

namespace K
/-- Whether a label of the whole set leaves a way back. -/
def opens (y : Int) (en : Int) (all : Nat) (x : Lb) : Bool := (x.set == (all : Int)) && ((x.time != -1) && ((y != -1) && decide (x.time + y ≤ en)))
end K

/-- A way to a node that is given as a number. -/
theorem wayd_any (b mb : Nat) (p : PS) (fr : Int) (tn m : Nat) (w : World) {X : Nat → Prop} (hp : PAt w b mb p X) (hX : ∀ g, X g → g < w.heap.size) (hm : m < 256) (hfr : 0 ≤ fr ∧ fr < p.x.nd) {d : Int} (hd : d = (tn : Int)) (hto : d < p.x.nd) (hwt : (Lit.int .i64 (T.weight p.x.s p.x.r (K.part p.l m))).wf = true) :
    Calls Try.prog 70 #[.pointer (some ⟨b, 0, none⟩), .int .i64 fr, .int .i64 d, .int .i64 m] w fun e w' => RetWay w w' b mb p X (K.way p.x.nd p.x.l fr (T.weight p.x.s p.x.r (K.part p.l m)) d) e := by
  subst hd
  exact way_any b mb p fr tn m w hp hX hm hfr hto hwt

set_option maxRecDepth 100000 in
set_option maxHeartbeats 16000000 in
theorem blk1_any (b mb : Nat) (p : PS) (all : Nat) (x : Lb) (ga gp gs i j : Nat) (q : Q) (w : World) {X : Nat → Prop} (hp : PAt w b mb p X) (hX : ∀ g, X g → g < w.heap.size)
    (ha : w.heap[ga]? = some (.cells #[.int .i64 (all : Int)] 3 (0, 0))) (hpp : w.heap[gp]? = some (.cells #[.pointer (some ⟨b, 0, none⟩)] 101 (0, 0))) (hs : Shf w gs p.x.s)
    (hel : Elem p i j q) (hxl : x.last = (i : Int)) (hno : 0 ≤ q.node ∧ q.node < p.x.nd) (hall : all < 256) (ht : -1 ≤ x.time ∧ x.time ≤ 1000000) :
    Calls Try.prog 69 #[.agg #[.int .i64 x.set, .int .i64 x.last, .int .i64 x.time], .pointer (some ⟨ga, 0, none⟩), .pointer (some ⟨gp, 0, none⟩), .pointer (some ⟨gs, 0, none⟩)] w
      fun e w' => e = .returned (.bool (K.opens (K.way p.x.nd p.x.l q.node (T.weight p.x.s p.x.r (K.part p.l all)) p.x.s.depot) p.x.s.end_ all x)) ∧ Went w w' b mb p X := by
  obtain ⟨hne, hck, hdp, -⟩ := K.ok31_parts hp.ok
  obtain ⟨-, ⟨d0, d1⟩, st0, st1, en1⟩ := K.check_parts hck
  have hl6 := (K.ok31_parts hp.ok).2.2.2.2.1
  have hwt : (Lit.int .i64 (T.weight p.x.s p.x.r (K.part p.l all))).wf = true := T.weight_wf (by have := K.part_len p.l all; omega)
  obtain ⟨dn, hdn⟩ : ∃ dn : Nat, p.x.s.depot = (dn : Int) := ⟨p.x.s.depot.toNat, by omega⟩
  obtain ⟨w1, hw1⟩ : ∃ w1, w1 = w.alloc (.cells #[.int .i64 x.set, .int .i64 (i : Int), .int .i64 x.time] 137) := ⟨_, rfl⟩
  have b1 : Below w.heap.size w w1 := by rw [hw1]; exact (Below.refl _ _).alloc (Nat.le_refl _) _
  have hB : w1.heap[w.heap.size]? = some (.cells #[.int .i64 x.set, .int .i64 (i : Int), .int .i64 x.time] 137 (0, 0)) := by rw [hw1]; exact heap_alloc_new _ _
  have hp1 := hp.below b1
  have hS : ∀ w', Ext w1 w' → w'.cell? ⟨gp, 0, none⟩ = some (.pointer (some ⟨b, 0, none⟩)) ∧ w'.cell? ⟨ga, 0, none⟩ = some (.int .i64 (all : Int)) ∧ w'.cell? ⟨gs, 1, none⟩ = some (.int .i64 p.x.s.depot) ∧ w'.cell? ⟨gs, 3, none⟩ = some (.int .i64 p.x.s.end_) ∧ w'.cell? ⟨w.heap.size, 0, none⟩ = some (.int .i64 x.set) ∧ w'.cell? ⟨w.heap.size, 1, none⟩ = some (.int .i64 (i : Int)) ∧ w'.cell? ⟨w.heap.size, 2, none⟩ = some (.int .i64 x.time) := fun w' h => by
    have h2 := (Ext.below b1).trans h
    obtain ⟨s0, s1, s2, s3, s4, s5⟩ := hs.cells
    exact ⟨h2.cell (blk_cell hpp 0 _ rfl), h2.cell (blk_cell ha 0 _ rfl), h2.cell s1, h2.cell s3, h.cell (blk_cell hB 0 _ rfl), h.cell (blk_cell hB 1 _ rfl), h.cell (blk_cell hB 2 _ rfl)⟩
  have S0 := hS w1 (Ext.refl _)
  have S0d := hS w1.drew (Ext.below (Below.refl w1.heap.size w1).drew)
  have CN := node_any b mb p i j q w1.drew (hp1.below (Below.refl _ _).drew) hel
  obtain ⟨c0, c1, c2, c3, c4, c5, c6⟩ := S0
  rw [hw1] at c0 c1 c2 c3 c4 c5 c6
  obtain ⟨y, hy⟩ : ∃ y, y = K.way p.x.nd p.x.l q.node (T.weight p.x.s p.x.r (K.part p.l all)) p.x.s.depot := ⟨_, rfl⟩
  have hyb := K.way_bd p.x.nd p.x.l q.node (T.weight p.x.s p.x.r (K.part p.l all)) p.x.s.depot
  rw [← hy] at hyb ⊢
  have HY := Lib.hid hy
  have HDN := Lib.hid hdn
  have hW1 := went_below hp b1
  rw [hxl]
  clear hy hne hck hdn
  go_enter Try.func69, Try.ntmps69
  cases e1 : (x.set == (all : Int))
  · have q1 : (x.set != (all : Int)) = true := by simp [bne, e1]
    have HX := Lib.hid (show K.opens y p.x.s.end_ all x = false by simp [K.opens, e1])
    clear e1
    go_wp2_with fail
    go_ret
    exact ⟨ret_b HX.out.symm, by rw [← hw1]; exact hW1⟩
  have q1 : (x.set != (all : Int)) = false := by simp [bne, e1]
  cases e2 : (x.time == -1)
  rotate_left
  · have HX := Lib.hid (show K.opens y p.x.s.end_ all x = false by simp [K.opens, bne, e2])
    go_wp2_with fail
    go_ret
    exact ⟨ret_b HX.out.symm, by rw [← hw1]; exact hW1⟩
  have HX := Lib.hid (show K.opens y p.x.s.end_ all x = ((y != -1) && decide (x.time + y ≤ p.x.s.end_)) by simp [K.opens, bne, e1, e2])
  go_wp2_with fail
  rw [← hw1]
  clear c0 c1 c2 c3 c4 c5 c6 hw1 e1 e2 q1
  have S0 := hS w1 (Ext.refl _)
  go_region_held3 (fun w' => w'.cell? ⟨gp, 0, none⟩ = some (.pointer (some ⟨b, 0, none⟩)) ∧ w'.cell? ⟨ga, 0, none⟩ = some (.int .i64 (all : Int)) ∧ w'.cell? ⟨gs, 1, none⟩ = some (.int .i64 p.x.s.depot) ∧ w'.cell? ⟨gs, 3, none⟩ = some (.int .i64 p.x.s.end_) ∧ w'.cell? ⟨w.heap.size, 0, none⟩ = some (.int .i64 x.set) ∧ w'.cell? ⟨w.heap.size, 1, none⟩ = some (.int .i64 (i : Int)) ∧ w'.cell? ⟨w.heap.size, 2, none⟩ = some (.int .i64 x.time))
    (first | assumption | exact S0 | exact S0d)
    (first
      | (go_at_call 71; refine CN.mono ?_; rintro e w2 ⟨rfl, b2⟩; have hd2 : Below w1.heap.size w1 w2 := bel (w1 := w1.drew) (Below.refl _ _).drew b2; have hp2 := hp1.below hd2; have S1 := hS w2 (Ext.below hd2))
      | (go_at_call 70; refine (wayd_any b mb p q.node dn all w2 hp2 (fun g hg => Nat.lt_of_lt_of_le (hX g hg) (bel b1 hd2).size) hall hno HDN.out hdp hwt).mono ?_; rintro e w3 ⟨rfl, hW⟩; have hx3 := (Ext.below hd2).trans (hW.ext hp2); have S2 := hS w3 hx3)
      | fail)
  rw [← HY.out]
  have hW3 := (hW1.below hd2).trans hW
  obtain ⟨c0, c1, c2, c3, c4, c5, c6⟩ := S2
  have hwrap : IntKind.i64.wrap (x.time + y) = x.time + y := IntWalk.i64_in _ (by omega)
  clear S0 S0d S1 hS CN
  cases e3 : (y == -1)
  · have q3 : (y != -1) = true := by simp [bne, e3]
    rw [q3] at HX
    go_wp2_with fail
    go_ret
    exact ⟨ret_b (by rw [HX.out]; rfl), hW3⟩
  · have q3 : (y != -1) = false := by simp [bne, e3]
    rw [q3] at HX
    go_wp2_with fail
    go_ret
    exact ⟨ret_b (by rw [HX.out]; rfl), hW3⟩
end Go.Proofs.Ytippdjmpkafifaa
