/-
Routes: the contract of planner.way.
-/
import Derived.Test.YtippdjmpkafifaaP3
import Derived.Test.YtippdjmpkafifaaL1
namespace Go.Proofs.Ytippdjmpkafifaa
open Go.RowKit

theorem wf_small {k : Int} (h0 : -4000000000 ≤ k) (h1 : k ≤ 4000000000) : (Lit.int .i64 k).wf = true := by
  have e1 : IntKind.i64.min = -9223372036854775808 := by decide
  have e2 : IntKind.i64.max = 9223372036854775807 := by decide
  simp only [Lit.wf, decide_eq_true_eq, Bool.and_eq_true]
  omega
theorem K.netErr_le {nd : Int} {l : List Ro} (h : K.netErr nd l = 0) : 0 ≤ nd ∧ nd ≤ 100 := by
  unfold K.netErr at h
  cases hb : T.btw nd 0 100
  · rw [if_pos hb] at h; cases h
  · simpa [T.btw] using hb

/-- The planner's cells, in a world behind w. -/
def LP (w : World) (b mb : Nat) (p : PS) (w' : World) : Prop := Below w.heap.size w w' ∧ w'.cell? ⟨b, 0, none⟩ = some (.int .i64 p.x.nd) ∧ w'.cell? ⟨b, 1, none⟩ = some (.slice p.x.A p.x.n p.x.c) ∧ w'.cell? ⟨b, 2, none⟩ = some (.int .i64 p.x.s.day) ∧ w'.cell? ⟨b, 3, none⟩ = some (.int .i64 p.x.s.depot) ∧ w'.cell? ⟨b, 4, none⟩ = some (.int .i64 p.x.s.start) ∧
    w'.cell? ⟨b, 5, none⟩ = some (.int .i64 p.x.s.end_) ∧ w'.cell? ⟨b, 6, none⟩ = some (.int .i64 p.x.s.tare) ∧ w'.cell? ⟨b, 7, none⟩ = some (.slice p.x.s.A p.x.s.n p.x.s.c) ∧ w'.cell? ⟨b, 8, none⟩ = some (.slice p.x.B p.x.m p.x.d) ∧ w'.cell? ⟨b, 9, none⟩ = some (.slice p.A p.n p.c) ∧ w'.cell? ⟨b, 10, none⟩ = some (.map (some mb))
theorem LP.mk' {w : World} {b mb : Nat} {p : PS} (hp : PBlk w b mb p) {w' : World} (hb : Below w.heap.size w w') : LP w b mb p w' := ⟨hb, PBlk.cells (w := w') (blk_below hb hp)⟩
/-- .. and a trip's. -/
def LQ (w : World) (b mb g : Nat) (fr wt : Int) (p : PS) (w' : World) : Prop := Below w.heap.size w w' ∧ w'.cell? ⟨g, 0, none⟩ = some (.int .i64 fr) ∧ w'.cell? ⟨g, 1, none⟩ = some (.int .i64 wt) ∧ w'.cell? ⟨b, 0, none⟩ = some (.int .i64 p.x.nd) ∧ w'.cell? ⟨b, 1, none⟩ = some (.slice p.x.A p.x.n p.x.c) ∧ w'.cell? ⟨b, 2, none⟩ = some (.int .i64 p.x.s.day) ∧ w'.cell? ⟨b, 3, none⟩ = some (.int .i64 p.x.s.depot) ∧ w'.cell? ⟨b, 4, none⟩ = some (.int .i64 p.x.s.start) ∧
    w'.cell? ⟨b, 5, none⟩ = some (.int .i64 p.x.s.end_) ∧ w'.cell? ⟨b, 6, none⟩ = some (.int .i64 p.x.s.tare) ∧ w'.cell? ⟨b, 7, none⟩ = some (.slice p.x.s.A p.x.s.n p.x.s.c) ∧ w'.cell? ⟨b, 8, none⟩ = some (.slice p.x.B p.x.m p.x.d) ∧ w'.cell? ⟨b, 9, none⟩ = some (.slice p.A p.n p.c) ∧ w'.cell? ⟨b, 10, none⟩ = some (.map (some mb))
def TripBlk (w : World) (g : Nat) (fr wt : Int) : Prop := w.heap[g]? = some (.cells #[.int .i64 fr, .int .i64 wt] 183 (0, 0))
theorem LQ.mk' {w : World} {b mb g : Nat} {fr wt : Int} {p : PS} (hp : PBlk w b mb p) (hT : TripBlk w g fr wt) {w' : World} (hb : Below w.heap.size w w') : LQ w b mb g fr wt p w' :=
  ⟨hb, blk_cell (blk_below hb hT) 0 _ rfl, blk_cell (blk_below hb hT) 1 _ rfl, PBlk.cells (w := w') (blk_below hb hp)⟩

/-- What planner.way hands back. -/
def RetWay (w w' : World) (b mb : Nat) (p : PS) (X : Nat → Prop) (y : Int) (e : Ending) : Prop := e = .returned (.tuple #[.int .i64 y, .bool (y != -1)]) ∧ Went w w' b mb p X

set_option maxRecDepth 100000 in
set_option maxHeartbeats 16000000 in
theorem way_any (b mb : Nat) (p : PS) (fr : Int) (tn m : Nat) (w : World) {X : Nat → Prop} (hp : PAt w b mb p X) (hX : ∀ g, X g → g < w.heap.size) (hm : m < 256) (hfr : 0 ≤ fr ∧ fr < p.x.nd) (hto : (tn : Int) < p.x.nd) (hwt : (Lit.int .i64 (T.weight p.x.s p.x.r (K.part p.l m))).wf = true) :
    Calls Try.prog 70 #[.pointer (some ⟨b, 0, none⟩), .int .i64 fr, .int .i64 tn, .int .i64 m] w fun e w' => RetWay w w' b mb p X (K.way p.x.nd p.x.l fr (T.weight p.x.s p.x.r (K.part p.l m)) tn) e := by
  obtain ⟨hne, hck, hdp, hrq, hl6, -⟩ := K.ok31_parts hp.ok
  have hpl : (K.part p.l m).length ≤ 6 := Nat.le_trans (K.part_len _ _) hl6
  have S0 := LP.mk' hp.blk (Below.refl w.heap.size w)
  have hPx : ∀ w', LP w b mb p w' → PAt w' b mb p X := fun w' h => hp.below h.1
  have hSn : ∀ w' w'', LP w b mb p w' → Below w'.heap.size w' w'' → LP w b mb p w'' := fun w' w'' h hb' => LP.mk' hp.blk (bel h.1 hb')
  have hSd : ∀ w', LP w b mb p w' → LP w b mb p w'.drew := fun w' h => LP.mk' hp.blk h.1.drew
  have hSa : ∀ w' o', LP w b mb p w' → LP w b mb p (w'.alloc o') := fun w' o' h => LP.mk' hp.blk (bel h.1 ((Below.refl _ _).alloc (Nat.le_refl _) _))
  have hSs : ∀ (w' : World) (g i : Nat) (v : Value), LP w b mb p w' → w.heap.size ≤ g → LP w b mb p (w'.setCell ⟨g, i, none⟩ v) := fun w' g i v h hg => LP.mk' hp.blk (h.1.setCell hg _)
  obtain ⟨c1, c2, c3, c4⟩ : p.x.n ≤ 1000000000 ∧ p.x.s.n ≤ 1000000000 ∧ p.x.m ≤ 1000000000 ∧ ∀ q ∈ p.x.r, q.n ≤ 1000000000 := ⟨hp.at_.b1, hp.at_.b2, hp.at_.b3, hp.at_.b4⟩
  obtain ⟨wt, hwtE⟩ : ∃ wt, wt = T.weight p.x.s p.x.r (K.part p.l m) := ⟨_, rfl⟩
  rw [← hwtE] at hwt ⊢
  have HWT := Lib.hid hwtE
  clear hck hdp hrq hl6 hwtE
  go_enter Try.func70, Try.ntmps70
  go_wp2_with fail
  go_cut [10] from 13 to 26 (fun v10 wc => ∃ g, v10 = .pointer (some ⟨g, 0, none⟩) ∧ w.heap.size ≤ g ∧ TripBlk wc g fr wt ∧ Below w.heap.size w wc)
  case first =>
    go_region_held3 (fun w' => Below w.heap.size w w' ∧ w'.cell? ⟨b, 0, none⟩ = some (.int .i64 p.x.nd) ∧ w'.cell? ⟨b, 1, none⟩ = some (.slice p.x.A p.x.n p.x.c) ∧ w'.cell? ⟨b, 2, none⟩ = some (.int .i64 p.x.s.day) ∧ w'.cell? ⟨b, 3, none⟩ = some (.int .i64 p.x.s.depot) ∧ w'.cell? ⟨b, 4, none⟩ = some (.int .i64 p.x.s.start) ∧
    w'.cell? ⟨b, 5, none⟩ = some (.int .i64 p.x.s.end_) ∧ w'.cell? ⟨b, 6, none⟩ = some (.int .i64 p.x.s.tare) ∧ w'.cell? ⟨b, 7, none⟩ = some (.slice p.x.s.A p.x.s.n p.x.s.c) ∧ w'.cell? ⟨b, 8, none⟩ = some (.slice p.x.B p.x.m p.x.d) ∧ w'.cell? ⟨b, 9, none⟩ = some (.slice p.A p.n p.c) ∧ w'.cell? ⟨b, 10, none⟩ = some (.map (some mb)))
      (first | assumption | exact S0 | exact hSd _ (by assumption) | exact hSa _ _ (by assumption) | exact hSa _ _ (hSd _ S0) | exact hSs _ _ _ _ (hSs _ _ _ _ (by assumption) (by first | omega | exact hS1.1.size | exact hS2.1.size)) (by first | omega | exact hS1.1.size | exact hS2.1.size))
      (first
        | (go_at_call 106; refine (part_any b mb p m _ (hPx _ ?_) hm).mono ?_; assumption; rintro e w3 ⟨⟨A9, n9, c9, rfl, hI⟩, hbn⟩; have hS1 := hSn _ _ (by assumption) hbn;
            (first | (have hT1 := blk_below hbn (heap_alloc_new _ (.cells #[.int .i64 0, .int .i64 0] 183))) | skip))
        | (go_at_call 105; refine (weight_any p.x.s p.x.B p.x.m p.x.d p.x.r A9 n9 c9 (K.part p.l m) _ (hPx _ ?_).at_.rooms c2 (hPx _ ?_).at_.reqs c3 c4 ?_ (by rw [hI.1]; omega)).mono ?_; assumption; assumption; (first | exact hI | exact hI.below ((Below.refl _ _).alloc (Nat.le_refl _) _)); rw [← HWT.out]; rintro e w4 ⟨rfl, hbn2⟩; have hS2 := hSn _ _ (by assumption) hbn2;
            (first | (have hT2 := blk_below hbn2 hT1) | (have hT2 := blk_below hbn2 (heap_alloc_new _ (.cells #[.int .i64 0, .int .i64 0] 183))) | skip);
            (first | (have hu0 := blk_cell hT2 0 _ rfl; have hu1 := blk_cell hT2 1 _ rfl; have huf := blk_free hT2) | skip)))
    · go_wp2_with fail
      go_meet
      case rel => exact ⟨_, rfl, hS2.1.size, heap_alloc_new _ _, bel hS2.1 ((Below.refl _ _).alloc (Nat.le_refl _) _)⟩
    · have hg : _ := hS1.1.size
      go_wp2_with fail
      go_meet
      case rel => exact ⟨_, rfl, hg, blk_set (blk_set hT2 0 _) 1 _, (hS2.1.setCell hg _).setCell hg _⟩
    · have hg : _ := Nat.le_refl w.heap.size
      go_wp2_with fail
      go_meet
      case rel => exact ⟨_, rfl, hg, blk_set (blk_set hT2 0 _) 1 _, (hS2.1.setCell hg _).setCell hg _⟩
  case rest =>
    obtain ⟨g, rfl, hg, hT, hb⟩ := hcut
    have hpc := hp.below hb
    clear S0 hPx hSn hSd hSa hSs
    have hfw : (Lit.int .i64 fr).wf = true := by
      have h1 := K.netErr_le hne
      exact wf_small (by omega) (by omega)
    have S0 := LQ.mk' hpc.blk hT (Below.refl wc.heap.size wc)
    have hPx : ∀ w', LQ wc b mb g fr wt p w' → PAt w' b mb p X := fun w' h => hpc.below h.1
    have hSn : ∀ w' w'', LQ wc b mb g fr wt p w' → Below w'.heap.size w' w'' → LQ wc b mb g fr wt p w'' := fun w' w'' h hb' => LQ.mk' hpc.blk hT (bel h.1 hb')
    have hSd : ∀ w', LQ wc b mb g fr wt p w' → LQ wc b mb g fr wt p w'.drew := fun w' h => LQ.mk' hpc.blk hT h.1.drew
    obtain ⟨A1, n1, c1, ok, hlook, hI1⟩ := (hpc.memo.below (w' := wc.drew) (Below.refl _ _).drew).look hfw hwt
    go_wp2_with fail
    go_region_held3 (fun w' => Below wc.heap.size wc w' ∧ w'.cell? ⟨g, 0, none⟩ = some (.int .i64 fr) ∧ w'.cell? ⟨g, 1, none⟩ = some (.int .i64 wt) ∧ w'.cell? ⟨b, 0, none⟩ = some (.int .i64 p.x.nd) ∧ w'.cell? ⟨b, 1, none⟩ = some (.slice p.x.A p.x.n p.x.c) ∧ w'.cell? ⟨b, 2, none⟩ = some (.int .i64 p.x.s.day) ∧ w'.cell? ⟨b, 3, none⟩ = some (.int .i64 p.x.s.depot) ∧ w'.cell? ⟨b, 4, none⟩ = some (.int .i64 p.x.s.start) ∧
    w'.cell? ⟨b, 5, none⟩ = some (.int .i64 p.x.s.end_) ∧ w'.cell? ⟨b, 6, none⟩ = some (.int .i64 p.x.s.tare) ∧ w'.cell? ⟨b, 7, none⟩ = some (.slice p.x.s.A p.x.s.n p.x.s.c) ∧ w'.cell? ⟨b, 8, none⟩ = some (.slice p.x.B p.x.m p.x.d) ∧ w'.cell? ⟨b, 9, none⟩ = some (.slice p.A p.n p.c) ∧ w'.cell? ⟨b, 10, none⟩ = some (.map (some mb)))
      (first | assumption | exact S0 | exact hSd _ (by assumption) | exact hSn _ _ (by assumption) (by assumption))
      (fail)
    have hnd := K.netErr_le hne
    have hlen := K.times_len (k := wt) hne hfr
    have hTT : p.x.nd.toNat = (K.times p.x.nd p.x.l fr wt).length := hlen.symm
    have HLEN := Lib.hid hTT
    clear S0 hSn hSd hlook hlen hTT
    have hfin : ∀ (wf : World) (A : Option Addr) (n : Nat), Ints wf A n (K.times p.x.nd p.x.l fr wt) → ∃ ad y, A = some ad ∧ K.way p.x.nd p.x.l fr wt tn = y ∧ wf.cell? (ad.add tn) = some (.int .i64 y) ∧ (tn : Int) < (n : Int) := fun wf A n hI => by
      have htn : tn < n := by rw [hI.1, ← HLEN.out]; omega
      obtain ⟨ad, y, hA, hy, cy⟩ := hI.at_ htn
      exact ⟨ad, y, hA, by unfold K.way; rw [G.at_get hy], cy, by omega⟩
    have k0 : (0 : Int) ≤ (tn : Int) := by omega
    cases ok
    · clear hI1
      obtain ⟨wd, hwd⟩ : ∃ wd, wd = wc.drew := ⟨_, rfl⟩
      have hbd : Below wc.heap.size wc wd := by rw [hwd]; exact (Below.refl _ _).drew
      rw [← hwd]
      clear hwd
      have hb := bel hb hbd
      have hpc := hpc.below hbd
      have hT : TripBlk wd g fr wt := blk_below hbd hT
      have S0 := LQ.mk' hpc.blk hT (Below.refl wd.heap.size wd)
      have hPx : ∀ w', LQ wd b mb g fr wt p w' → PAt w' b mb p X := fun w' h => hpc.below h.1
      have hSn : ∀ w' w'', LQ wd b mb g fr wt p w' → Below w'.heap.size w' w'' → LQ wd b mb g fr wt p w'' := fun w' w'' h hb' => LQ.mk' hpc.blk hT (bel h.1 hb')
      have hSd : ∀ w', LQ wd b mb g fr wt p w' → LQ wd b mb g fr wt p w'.drew := fun w' h => LQ.mk' hpc.blk hT h.1.drew
      go_wp2_with fail
      go_region_held3 (fun w' => Below wd.heap.size wd w' ∧ w'.cell? ⟨g, 0, none⟩ = some (.int .i64 fr) ∧ w'.cell? ⟨g, 1, none⟩ = some (.int .i64 wt) ∧ w'.cell? ⟨b, 0, none⟩ = some (.int .i64 p.x.nd) ∧ w'.cell? ⟨b, 1, none⟩ = some (.slice p.x.A p.x.n p.x.c) ∧ w'.cell? ⟨b, 2, none⟩ = some (.int .i64 p.x.s.day) ∧ w'.cell? ⟨b, 3, none⟩ = some (.int .i64 p.x.s.depot) ∧ w'.cell? ⟨b, 4, none⟩ = some (.int .i64 p.x.s.start) ∧
    w'.cell? ⟨b, 5, none⟩ = some (.int .i64 p.x.s.end_) ∧ w'.cell? ⟨b, 6, none⟩ = some (.int .i64 p.x.s.tare) ∧ w'.cell? ⟨b, 7, none⟩ = some (.slice p.x.s.A p.x.s.n p.x.s.c) ∧ w'.cell? ⟨b, 8, none⟩ = some (.slice p.x.B p.x.m p.x.d) ∧ w'.cell? ⟨b, 9, none⟩ = some (.slice p.A p.n p.c) ∧ w'.cell? ⟨b, 10, none⟩ = some (.map (some mb)))
        (first | assumption | exact S0 | exact hSd _ (by assumption) | exact hSn _ _ (by assumption) (by assumption))
        (first
          | (go_at_call 107; refine (times_new p.x.nd p.x.A p.x.n p.x.c p.x.l fr wt _ (hPx _ ?_).at_.net hpc.at_.b1).mono ?_; assumption; rintro e w5 ⟨⟨A5, n5, c5, rfl, hI5, hA5⟩, hbn⟩; have hS5 := hSn _ _ (by assumption) hbn)
          | fail)
      have hp5 := hPx _ hS5
      have b5 := bel hb hS5.1
      have hT5 : TripBlk w5 g fr wt := blk_below hS5.1 hT
      have HSZ := Lib.hid hb.size
      clear S0 hPx hSn hSd hbn hS5 hpc hb hbd hT
      have hI5d := hI5.below (w' := w5.drew) (Below.refl _ _).drew
      obtain ⟨w6, hupd, hM6, hg6⟩ := (hp5.memo.below (w' := w5.drew) (Below.refl _ _).drew).store hfw hwt hI5d (fun ad e => ⟨(hA5 ad e).2, fun hx => by have h1 := hX _ hx; have h2 : wd.heap.size ≤ ad.block := (hA5 ad e).1; have h3 := HSZ.out; omega⟩) (c := c5)
      have hx6 := (hp5.memo.below (w' := w5.drew) (Below.refl _ _).drew).ext hg6
      have hp6 := (hp5.below (w' := w5.drew) (Below.refl _ _).drew).keep hx6 hM6
      have hT6 : TripBlk w6 g fr wt := hx6.cells _ _ _ _ (blk_below (w' := w5.drew) (Below.refl _ _).drew hT5)
      have hI6 := hI5d.ext hx6
      have hS : ∀ w', PBlk w' b mb p → TripBlk w' g fr wt → (fun w' => w'.cell? ⟨g, 0, none⟩ = some (.int .i64 fr) ∧ w'.cell? ⟨g, 1, none⟩ = some (.int .i64 wt) ∧ w'.cell? ⟨b, 0, none⟩ = some (.int .i64 p.x.nd) ∧ w'.cell? ⟨b, 1, none⟩ = some (.slice p.x.A p.x.n p.x.c) ∧ w'.cell? ⟨b, 2, none⟩ = some (.int .i64 p.x.s.day) ∧ w'.cell? ⟨b, 3, none⟩ = some (.int .i64 p.x.s.depot) ∧ w'.cell? ⟨b, 4, none⟩ = some (.int .i64 p.x.s.start) ∧
    w'.cell? ⟨b, 5, none⟩ = some (.int .i64 p.x.s.end_) ∧ w'.cell? ⟨b, 6, none⟩ = some (.int .i64 p.x.s.tare) ∧ w'.cell? ⟨b, 7, none⟩ = some (.slice p.x.s.A p.x.s.n p.x.s.c) ∧ w'.cell? ⟨b, 8, none⟩ = some (.slice p.x.B p.x.m p.x.d) ∧ w'.cell? ⟨b, 9, none⟩ = some (.slice p.A p.n p.c) ∧ w'.cell? ⟨b, 10, none⟩ = some (.map (some mb))) w' := fun w' h1 h2 => ⟨blk_cell h2 0 _ rfl, blk_cell h2 1 _ rfl, h1.cells⟩
      have S5 := hS _ hp5.blk hT5
      have S5d := hS _ (hp5.below (w' := w5.drew) (Below.refl _ _).drew).blk (blk_below (w' := w5.drew) (Below.refl _ _).drew hT5)
      have S6 := hS _ hp6.blk hT6
      go_wp2_with fail
      go_region_held3 (fun w' => w'.cell? ⟨g, 0, none⟩ = some (.int .i64 fr) ∧ w'.cell? ⟨g, 1, none⟩ = some (.int .i64 wt) ∧ w'.cell? ⟨b, 0, none⟩ = some (.int .i64 p.x.nd) ∧ w'.cell? ⟨b, 1, none⟩ = some (.slice p.x.A p.x.n p.x.c) ∧ w'.cell? ⟨b, 2, none⟩ = some (.int .i64 p.x.s.day) ∧ w'.cell? ⟨b, 3, none⟩ = some (.int .i64 p.x.s.depot) ∧ w'.cell? ⟨b, 4, none⟩ = some (.int .i64 p.x.s.start) ∧
    w'.cell? ⟨b, 5, none⟩ = some (.int .i64 p.x.s.end_) ∧ w'.cell? ⟨b, 6, none⟩ = some (.int .i64 p.x.s.tare) ∧ w'.cell? ⟨b, 7, none⟩ = some (.slice p.x.s.A p.x.s.n p.x.s.c) ∧ w'.cell? ⟨b, 8, none⟩ = some (.slice p.x.B p.x.m p.x.d) ∧ w'.cell? ⟨b, 9, none⟩ = some (.slice p.A p.n p.c) ∧ w'.cell? ⟨b, 10, none⟩ = some (.map (some mb)))
        (first | assumption | exact S5 | exact S5d | exact S6)
        (fail)
      have hW : Went w w6 b mb p X := ⟨grow_step (grow_below (grow_refl w _) (bel b5 (w2 := w5.drew) (Below.refl _ _).drew)) hg6 (.inl rfl), hp6⟩
      obtain ⟨ad, y, rfl, hy, cy, k1⟩ := hfin w6 A5 n5 hI6
      have HY := Lib.hid hy
      clear hy hfin hI5 hI5d hI6 S5 S5d S6 hS hupd hx6 hg6
      go_wp2_with fail
      go_quiet (fail)
      go_wp2_with fail
      go_ret2
      rw [HY.out]
      exact ⟨rfl, hW.below (below_drewN (Below.refl _ _) _)⟩
    · have hI := hI1 rfl
      clear hI1
      obtain ⟨wd, hwd⟩ : ∃ wd, wd = wc.drew := ⟨_, rfl⟩
      have hbd : Below wc.heap.size wc wd := by rw [hwd]; exact (Below.refl _ _).drew
      rw [← hwd] at hI ⊢
      clear hwd
      obtain ⟨ad, y, rfl, hy, cy, k1⟩ := hfin wd A1 n1 hI
      have HY := Lib.hid hy
      have hW := went_below hp (bel hb hbd)
      clear hy hfin hI hPx hT
      go_wp2_with fail
      go_quiet (fail)
      go_wp2_with fail
      go_ret2
      rw [HY.out]
      exact ⟨rfl, hW.below (below_drewN (Below.refl _ _) _)⟩
end Go.Proofs.Ytippdjmpkafifaa
