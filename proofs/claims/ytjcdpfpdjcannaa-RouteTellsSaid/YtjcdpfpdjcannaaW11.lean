/-
The walk of the reference's best tour.
-/
import Derived.Test.YtjcdpfpdjcannaaW8
import Derived.Test.YtjcdpfpdjcannaaBW
import Derived.Test.YtjcdpfpdjcannaaN9
import Derived.Laws.ResultCell
namespace Go.Proofs.Ytjcdpfpdjcannaa
open Go.RowKit

/-- The best tour so far, in its block. -/
def BestIn (w : World) (g : Nat) (b : Option K.Tr) : Prop :=
  ∃ A n c A' n' c', TrBlk w g (.slice A n c) (.slice A' n' c') ((b.getD K.Tr.zero).end_) ∧ Ints w A n (b.getD K.Tr.zero).stops ∧ Ints w A' n' (b.getD K.Tr.zero).times ∧ (∀ ad, A = some ad → g < ad.block) ∧ (∀ ad, A' = some ad → g < ad.block)
theorem BestIn.below {w w' : World} {g : Nat} {b : Option K.Tr} (h : BestIn w g b) (hb : Below w.heap.size w w') : BestIn w' g b := by
  obtain ⟨A, n, c, A', n', c', h1, h2, h3, h4, h5⟩ := h
  exact ⟨A, n, c, A', n', c', h1.below hb (lt_of_block h1), h2.below hb, h3.below hb, h4, h5⟩

theorem Ints.set0 {w : World} {A : Option Addr} {n : Nat} {l : List Int} (h : Ints w A n l) {g i : Nat} (u : Value) (hg : 0 < n → ∀ ad, A = some ad → ad.block ≠ g) : Ints (w.setCell ⟨g, i, none⟩ u) A n l := by
  by_cases h0 : 0 < n
  · exact h.set u (hg h0)
  · exact ⟨h.1, h.2.1, fun h1 => absurd h1 h0⟩

set_option maxRecDepth 100000 in
set_option maxHeartbeats 16000000 in
theorem best31_any (x : C) (V : Option Addr) (vn vc : Nat) (v : List Int) (w : World) (hx : At w x) (hV : Ints w V vn v) (hvn : vn ≤ 1000000000) (h4 : K.ok31 x.nd x.l x.s x.r v = true → v.length ≤ 4) :
    Calls Try.prog 28 #[.agg #[.int .i64 x.nd, .slice x.A x.n x.c], .agg #[.int .i64 x.s.day, .int .i64 x.s.depot, .int .i64 x.s.start, .int .i64 x.s.end_, .int .i64 x.s.tare, .slice x.s.A x.s.n x.s.c], .slice x.B x.m x.d, .slice V vn vc] w fun e w' => RetBest w w' (K.bestOut x.nd x.l x.s x.r v) e := by
  obtain ⟨w0, hw0⟩ : ∃ w0 : World, w0 = ((w.alloc (.cells #[.int .i64 x.nd, .slice x.A x.n x.c] 24)).alloc (.cells #[.int .i64 x.s.day, .int .i64 x.s.depot, .int .i64 x.s.start, .int .i64 x.s.end_, .int .i64 x.s.tare, .slice x.s.A x.s.n x.s.c] 27)).alloc (.cells #[.int .i64 0, .slice none 0 0, .slice none 0 0, .int .i64 0] 30) := ⟨_, rfl⟩
  have b0 : Below w.heap.size w w0 := by rw [hw0]; exact bel (bel ((Below.refl _ _).alloc (Nat.le_refl _) _) ((Below.refl _ _).alloc (Nat.le_refl _) _)) ((Below.refl _ _).alloc (Nat.le_refl _) _)
  have z1 := World.size_alloc w (.cells #[.int .i64 x.nd, .slice x.A x.n x.c] 24)
  have z2 := World.size_alloc (w.alloc (.cells #[.int .i64 x.nd, .slice x.A x.n x.c] 24)) (.cells #[.int .i64 x.s.day, .int .i64 x.s.depot, .int .i64 x.s.start, .int .i64 x.s.end_, .int .i64 x.s.tare, .slice x.s.A x.s.n x.s.c] 27)
  have hR : TrBlk w0 (w.heap.size + 1 + 1) (.slice none 0 0) (.slice none 0 0) 0 := by rw [hw0]; exact heap_alloc_at _ _ _ (by rw [z2, z1])
  have hS : Shf w0 (w.heap.size + 1) x.s := by
    have h := (Shf.new (w.alloc (.cells #[.int .i64 x.nd, .slice x.A x.n x.c] 24)) x.s).below ((Below.refl _ _).alloc (Nat.le_refl _) (.cells #[.int .i64 0, .slice none 0 0, .slice none 0 0, .int .i64 0] 30))
    rw [z1] at h
    rw [hw0]; exact h
  have hN : Net w0 w.heap.size x.nd x.A x.n x.c := by
    rw [hw0]
    exact (Net.new w x.nd x.A x.n x.c).below (bel ((Below.refl _ _).alloc (Nat.le_refl _) _) ((Below.refl _ _).alloc (Nat.le_refl _) _))
  have p0 := hN.c0
  have p1 := hN.c1
  obtain ⟨s0, s1, s2, s3, s4, s5⟩ := hS.cells
  rw [hw0] at p0 p1 s0 s1 s2 s3 s4 s5
  go_enter Try.func28, Try.ntmps28
  go_wp2_with fail
  rw [← hw0]
  refine (right31_any x V vn vc v _ (hx.below b0) (hV.below b0) hvn).mono ?_
  obtain ⟨okb, hokb⟩ : ∃ okb, okb = K.ok31 x.nd x.l x.s x.r v := ⟨_, rfl⟩
  rw [← hokb]
  rintro e w1 ⟨rfl, b1⟩
  have hb := bel b0 b1
  have hsz := b0.size
  have hR0 := lt_of_block hR
  have hR1 := hR.below b1 hR0
  have hS1 := hS.below b1
  have hN1 := hN.below b1
  have hsz1 := b1.size
  clear p0 p1 s0 s1 s2 s3 s4 s5 hw0 z1 z2 hR hS hN b0 b1
  cases okb
  · have HX := Lib.hid (K.bestOut_no hokb.symm)
    clear hokb h4
    obtain ⟨r0, r1, r2, r3⟩ := hR1.cells
    have f0 := hR1.free 0
    have f1 := hR1.free 1
    have f2 := hR1.free 2
    have f3 := hR1.free 3
    go_wp2_with fail
    refine bodyPost_ret_by (v := .tuple #[.agg #[.int .i64 0, .slice none 0 0, .slice none 0 0, .int .i64 0], .int .i64 1]) ?_ rfl ?_
    · obtain ⟨z0, z1, z2, z3⟩ := (hR1.set (.slice none 0 0) (.slice none 0 0) 0).cells
      rw [results_cell_tmp rfl]
      simp [go_sem, z0, z1, z2, z3]
    · exact retBest_zero HX.out (below_set4 hb (by omega) _ _ _ _)
  have hok := hokb.symm
  have hv4 := h4 hok
  have HVN := Lib.hid hV.1
  have hv4n : vn ≤ 4 := by rw [hV.1]; exact hv4
  have HPB := Lib.hid (K.pick_best (nd := x.nd) (l := x.l) (s := x.s) (r := x.r) hok hv4)
  have HFW := Lib.hid (K.orders_few hok hv4)
  have HOK := Lib.hid hok
  clear hok hokb h4 hv4
  obtain ⟨i0, hi, hz0, hz1, hz2⟩ := info_parts Try.info3
  obtain ⟨w2, hw2⟩ : ∃ w2 : World, w2 = w1.alloc (.cells #[.int .i64 0, .slice none 0 0, .slice none 0 0, .int .i64 0] 30) := ⟨_, rfl⟩
  obtain ⟨g, hg⟩ : ∃ g, g = w1.heap.size := ⟨_, rfl⟩
  have b12 : Below w1.heap.size w1 w2 := by rw [hw2]; exact (Below.refl _ _).alloc (Nat.le_refl _) _
  have hB2 : BestIn w2 g none := ⟨none, 0, 0, none, 0, 0, by rw [hw2, hg]; exact heap_alloc_new _ _, ints_nil _, ints_nil _, fun _ e => (nomatch e), fun _ e => (nomatch e)⟩
  have hz2' : w2.heap.size = w1.heap.size + 1 := by rw [hw2]; exact World.size_alloc _ _
  have hlit : (w2.alloc (.cells #[] 3)).ownsRow w2.heap.size 3 1 (.slice (some ⟨w2.heap.size, 0, none⟩) 0 0) 0 [] := own_lit (heap_alloc_new w2 (.cells #[] 3)) (Nat.le_refl _)
  have ba : Below w2.heap.size w2 (w2.alloc (.cells #[] 3)) := (Below.refl _ _).alloc (Nat.le_refl _) _
  have hb2 := bel hb b12
  have hN2 := hN1.below b12
  have hS2 := hS1.below b12
  have hR2 := hR1.below b12 (lt_of_block hR1)
  have hRg : w.heap.size + 1 + 1 < g := by rw [hg]; exact lt_of_block hR1
  have hgw : w.heap.size ≤ g := by omega
  go_upto_region 5 with fail
  rw [← hw2, ← hg]
  have HZ2 := Lib.hid hz2'
  have HG := Lib.hid hg
  clear hw2 b12 hN1 hS1 hR1 hb hz2' hg
  go_wp2_with (at_builtin; refine wp_append_rd rfl (.tmp 25) (.tmp 26) 25 rfl w2.heap.size 3 i0 (.int .i64 0) 1 8 Try.underlying25 hi hz0 hz1 hz2 rfl (by decide) (.slice (some ⟨w2.heap.size, 0, none⟩) 0 0) 0 [] rfl hlit V vn vc (intCells v) rfl (hV.below (bel hb2 ba)).2 (intCells_one v) (by simp only [maxLen]; omega) (by omega) (by first | (simp; done) | (simp; omega)) ?_; intro v' w3 hown3 hgrow3 hat3; rw [Nat.zero_add, List.nil_append] at hown3; obtain ⟨A3, c3, rfl, hI3, hc3, hO3⟩ := own_oi hown3 HVN.out; have b23 : Below w2.heap.size w2 w3 := below_own2 ba hgrow3 (lit_block (Nat.le_refl _)); clear hown3 hgrow3 hat3 hlit ba)
  have HOg3 := Lib.hid (show 0 < vn → ∀ ad, A3 = some ad → g < ad.block from fun h0 ad e => by obtain ⟨ad', e', -, hb'⟩ := hO3 h0; rw [e'] at e; injection e with e; have := HZ2.out; have := HG.out; rw [← e]; omega)
  clear hO3
  have hN3 := hN2.below b23
  have hS3 := hS2.below b23
  have hR3 := hR2.below b23 (by rw [HZ2.out]; omega)
  have hB3 := hB2.below b23
  have hb3 := bel hb2 b23
  have hg3 : g < w3.heap.size := by have := b23.size; have := HZ2.out; have := HG.out; omega
  clear hN2 hS2 hR2 hB2 hb2 b23 hi hz0 hz1 hz2 hsz hsz1
  go_loopw [11, 12, 13] (fun v11 v12 v13 wr => ∃ (b : Option K.Tr) (A : Option Addr) (c : Nat) (o : List Int) (mr : Bool), v11 = .bool b.isSome ∧ v13 = .bool mr ∧ (∃ n, v12 = .slice A n c ∧ (mr = true → Ints wr A n o ∧ n ≤ c ∧ n ≤ 4 ∧ (0 < n → ∀ ad, A = some ad → g < ad.block))) ∧ Hid (mr = true → K.pick x.nd x.l x.s x.r (K.orders 25 v) none = K.pick x.nd x.l x.s x.r (K.orders 25 o) b ∧ (K.orders 25 o).length ≤ 24) ∧ Hid (mr = false → K.pick x.nd x.l x.s x.r (K.orders 25 v) none = b) ∧ BestIn wr g b ∧ w3.grownBy wr (some g)) (fun _ v12 v13 wr => leftOf wr v12 v13)
  case atStart => exact ⟨none, A3, c3, v, true, rfl, rfl, ⟨vn, rfl, fun _ => ⟨hI3, hc3, hv4n, HOg3.out⟩⟩, fun _ => ⟨rfl, HFW.out⟩, fun h => (nomatch h), hB3, grow_refl _ _⟩
  case round =>
    clear hB3
    obtain ⟨b, A, c, o, mr, rfl, rfl, ⟨n, rfl, hIo⟩, hpk, hend, hBr, hgr⟩ := hrel
    have hbr : Below w.heap.size w wr := below_own2 hb3 hgr (fun g' e => by injection e with e; omega)
    have hNr : Net wr w.heap.size x.nd x.A x.n x.c := grow_blk hgr hN3 (fun e => by injection e with e; omega)
    have hSr : Shf wr (w.heap.size + 1) x.s := grow_blk hgr hS3 (fun e => by injection e with e; omega)
    have hRr : TrBlk wr (w.heap.size + 1 + 1) (.slice none 0 0) (.slice none 0 0) 0 := grow_blk hgr hR3 (fun e => by injection e with e; omega)
    have hgr1 : g < wr.heap.size := Nat.lt_of_lt_of_le hg3 hgr.size
    cases mr
    · have HE := Lib.hid (hend.out rfl)
      clear hIo hpk hend hNr hSr
      obtain ⟨A0, n0, c0, A1, n1, c1, hT, hI, hJ, hA, hA'⟩ := hBr
      obtain ⟨r0, r1, r2, r3⟩ := hRr.cells
      have f0 := hRr.free 0
      have f1 := hRr.free 1
      have f2 := hRr.free 2
      have f3 := hRr.free 3
      cases b with
      | none =>
        have HX := Lib.hid (K.bestOut_none HOK.out (HPB.out.symm.trans HE.out))
        go_wp2_with fail
        refine bodyPost_ret_by (v := .tuple #[.agg #[.int .i64 0, .slice none 0 0, .slice none 0 0, .int .i64 0], .int .i64 4]) ?_ rfl ?_
        · obtain ⟨z0, z1, z2, z3⟩ := (hRr.set (.slice none 0 0) (.slice none 0 0) 0).cells
          rw [results_cell_tmp rfl]
          simp [go_sem, z0, z1, z2, z3]
        · exact retBest_zero HX.out (below_set4 hbr (by omega) _ _ _ _)
      | some bt =>
        have HX := Lib.hid (K.bestOut_some HOK.out (HPB.out.symm.trans HE.out))
        have hT : TrBlk wr g (.slice A0 n0 c0) (.slice A1 n1 c1) bt.end_ := hT
        have hI : Ints wr A0 n0 bt.stops := hI
        have hJ : Ints wr A1 n1 bt.times := hJ
        obtain ⟨t0, t1, t2, t3⟩ := hT.cells
        go_wp2_with fail
        refine bodyPost_ret_by (v := .tuple #[.agg #[.int .i64 0, .slice A0 n0 c0, .slice A1 n1 c1, .int .i64 bt.end_], .int .i64 0]) ?_ rfl ?_
        · obtain ⟨z0, z1, z2, z3⟩ := (hRr.set (.slice A0 n0 c0) (.slice A1 n1 c1) bt.end_).cells
          rw [results_cell_tmp rfl]
          simp [go_sem, z0, z1, z2, z3]
        · rw [HX.out]
          have hne1 : ∀ ad, A0 = some ad → ad.block ≠ w.heap.size + 1 + 1 := fun ad e => by have := hA ad e; omega
          have hne2 : ∀ ad, A1 = some ad → ad.block ≠ w.heap.size + 1 + 1 := fun ad e => by have := hA' ad e; omega
          exact ⟨⟨A0, n0, c0, A1, n1, c1, rfl, (((hI.set _ hne1).set _ hne1).set _ hne1).set _ hne1, (((hJ.set _ hne2).set _ hne2).set _ hne2).set _ hne2⟩, below_set4 hbr (by omega) _ _ _ _⟩
    · obtain ⟨hI, hnc, hn4, hOg⟩ := hIo rfl
      have HOg := Lib.hid hOg
      clear hOg
      obtain ⟨hpk, hlen⟩ := hpk.out rfl
      have HPK := Lib.hid hpk
      have HIW := Lib.hid hI
      have HLEN := Lib.hid hlen
      clear hend hIo hpk hlen
      have p0 := hNr.c0
      have p1 := hNr.c1
      obtain ⟨s0, s1, s2, s3, s4, s5⟩ := hSr.cells
      go_wp2_with fail
      clear p0 p1 s0 s1 s2 s3 s4 s5 hRr hNr hSr
      refine (rrun_any x A n c o wr (hx.below hbr) hI hnc (by omega)).mono ?_
      obtain ⟨R, hR⟩ : ∃ R, R = K.run x.nd x.l x.s x.r o := ⟨_, rfl⟩
      rw [← hR]
      have HR := Lib.hid hR
      clear hR
      rintro e w4 ⟨⟨A0, n0, c0, A1, n1, c1, rfl, hI0, hI1, hA0, hA1⟩, b4⟩
      obtain ⟨w5, hw5⟩ : ∃ w5 : World, w5 = w4.alloc (.cells #[.int .i64 0, .slice A0 n0 c0, .slice A1 n1 c1, .int .i64 R.tour.end_] 30) := ⟨_, rfl⟩
      obtain ⟨G, hG⟩ : ∃ G, G = w4.heap.size := ⟨_, rfl⟩
      have b5 : Below wr.heap.size wr w5 := by rw [hw5]; exact bel b4 ((Below.refl _ _).alloc (Nat.le_refl _) _)
      have hT5 : TrBlk w5 G (.slice A0 n0 c0) (.slice A1 n1 c1) R.tour.end_ := by rw [hw5, hG]; exact heap_alloc_new _ _
      have h45 : Below w4.heap.size w4 w5 := by rw [hw5]; exact (Below.refl _ _).alloc (Nat.le_refl _) _
      have hI05 := hI0.below h45
      have hI15 := hI1.below h45
      have hB5 := hBr.below b5
      have hgr5 := grow_below hgr b5
      have hIo5 := hI.below b5
      have hb5 := bel hbr b5
      have hG1 : g < G := by have := b4.size; omega
      have hA0g : ∀ ad, A0 = some ad → g < ad.block := fun ad e => by have := hA0 ad e; omega
      have hA1g : ∀ ad, A1 = some ad → g < ad.block := fun ad e => by have := hA1 ad e; omega
      clear hI0 hI1 hA0 hA1 hBr hgr hI hbr b4 b5 h45
      go_upto_region 9 with fail
      rw [← hw5, ← hG]
      clear hw5 hG
      by_cases he : R.e = 0
      · have heB : (R.e == 0) = true := by rw [he]; rfl
        have heD : decide (R.e = 0) = true := by simp [he]
        cases b with
        | none =>
          have HST := Lib.hid (fun os => K.pick_yes (os := os) (b := none) (HR.out ▸ he) (HR.out ▸ (rfl : K.better none R.tour.end_ = true)))
          rw [← HR.out] at HST
          have b56 : Below w5.heap.size w5 w5 := Below.refl _ _
          have hT6 := hT5.below b56 (lt_of_block hT5)
          obtain ⟨A9, n9, c9, A8, n8, c8, hG6, -⟩ := hB5.below b56
          have hgr6 := grow_below hgr5 b56
          have hI06 := hI05.below b56
          have hI16 := hI15.below b56
          have hIo6 := hIo5.below b56
          clear b56 hB5 hgr5 hIo5 hT5 hI05 hI15
          obtain ⟨t0, t1, t2, t3⟩ := hT6.cells
          obtain ⟨d0, d1, d2, d3⟩ := hG6.cells
          have f0 := hG6.free 0
          have f1 := hG6.free 1
          have f2 := hG6.free 2
          have f3 := hG6.free 3
          obtain ⟨w7, hw7⟩ : ∃ w7 : World, w7 = (((w5.setCell ⟨g, 0, none⟩ (.int .i64 0)).setCell ⟨g, 1, none⟩ (.slice A0 n0 c0)).setCell ⟨g, 2, none⟩ (.slice A1 n1 c1)).setCell ⟨g, 3, none⟩ (.int .i64 R.tour.end_) := ⟨_, rfl⟩
          have hne1 : ∀ ad, A0 = some ad → ad.block ≠ g := fun ad e => by have := hA0g ad e; omega
          have hne2 : ∀ ad, A1 = some ad → ad.block ≠ g := fun ad e => by have := hA1g ad e; omega
          have hB7 : BestIn w7 g (some R.tour) := by
            rw [hw7]
            exact ⟨A0, n0, c0, A1, n1, c1, hG6.set _ _ _, (((hI06.set _ hne1).set _ hne1).set _ hne1).set _ hne1, (((hI16.set _ hne2).set _ hne2).set _ hne2).set _ hne2, hA0g, hA1g⟩
          have hgr7 : w3.grownBy w7 (some g) := by rw [hw7]; exact grow_set (grow_set (grow_set (grow_set hgr6 _ _ _ rfl) _ _ _ rfl) _ _ _ rfl) _ _ _ rfl
          have hIo7 : Ints w7 A n o := by
            rw [hw7]
            have hne3 : 0 < n → ∀ ad, A = some ad → ad.block ≠ g := fun h0 ad e => by have := HOg.out h0 ad e; omega
            exact (((hIo6.set0 _ hne3).set0 _ hne3).set0 _ hne3).set0 _ hne3
          clear hI06 hI16 hne1 hne2 hG6 hgr6 hIo6
          go_upto_region 11 with fail
          rw [← hw7]
          clear hw7 d0 d1 d2 d3 t0 t1 t2 t3 f0 f1 f2 f3 hT6 heB heD
          go_wp2_with fail
          refine (next_any A n c o w7 hIo7 (by omega)).mono ?_
          obtain ⟨nx, hnx⟩ : ∃ nx, nx = K.next o := ⟨_, rfl⟩
          rw [← hnx]
          rintro e w8 ⟨hret, b7⟩
          have B7 := hB7.below b7
          have g7 := grow_below hgr7 b7
          rcases hret with ⟨h1, rfl⟩ | ⟨o', A', n', c', h1, hnc', rfl, hI', hA'⟩
          · have HE := Lib.hid (show K.pick x.nd x.l x.s x.r (K.orders 25 v) none = (some R.tour) by rw [HPK.out, K.orders_last (hnx.symm.trans h1), HST.out]; rfl)
            clear hnx h1 hB7 hgr7
            go_wp2_with fail
            go_roundw
            case rel => exact ⟨(some R.tour), none, 0, [], false, rfl, rfl, ⟨0, rfl, fun h => (nomatch h)⟩, fun h => (nomatch h), fun _ => HE.out, B7, g7⟩
            case measure => rw [leftOf_no, leftOf_yes HIW.out]; omega
          · obtain ⟨k1, k2⟩ := K.orders_next (hnx.symm.trans h1) HLEN.out
            have HPN := Lib.hid (show K.pick x.nd x.l x.s x.r (K.orders 25 v) none = K.pick x.nd x.l x.s x.r (K.orders 25 o') (some R.tour) by rw [HPK.out, k1, HST.out])
            have HGW := Lib.hid (Nat.lt_of_lt_of_le hg3 hgr7.size)
            have HLN := Lib.hid (show (K.orders 25 o').length ≤ 24 by have := HLEN.out; omega)
            have HLT := Lib.hid k2
            have hn' : n' ≤ 4 := by have h2 := K.next_len (hnx.symm.trans h1); have h3 := hI'.1; have h4 := HIW.out.1; omega
            clear hnx h1 k1 k2 hB7 hgr7
            go_wp2_with fail
            go_roundw
            case rel => exact ⟨(some R.tour), A', c', o', true, rfl, rfl, ⟨n', rfl, fun _ => ⟨hI', hnc', hn', fun _ ad e => Nat.lt_of_lt_of_le HGW.out (hA' ad e)⟩⟩, fun _ => ⟨HPN.out, HLN.out⟩, fun h => (nomatch h), B7, g7⟩
            case measure => rw [leftOf_yes hI', leftOf_yes HIW.out]; have := HLT.out; omega
        | some bt =>
          have hB5' := hB5
          obtain ⟨A6, n6, c6, A7, n7, c7, hG5, -⟩ := hB5'
          have hG5 : TrBlk w5 g (.slice A6 n6 c6) (.slice A7 n7 c7) bt.end_ := hG5
          have q3 := hG5.cells.2.2.2
          have r3 := hT5.cells.2.2.2
          by_cases hlt : R.tour.end_ < bt.end_
          · have hd : decide (R.tour.end_ < bt.end_) = true := decide_eq_true hlt
            have HST := Lib.hid (fun os => K.pick_yes (os := os) (b := (some bt)) (HR.out ▸ he) (HR.out ▸ (decide_eq_true hlt : K.better (some bt) R.tour.end_ = true)))
            rw [← HR.out] at HST
            have b56 : Below w5.heap.size w5 w5 := Below.refl _ _
            have hT6 := hT5.below b56 (lt_of_block hT5)
            obtain ⟨A9, n9, c9, A8, n8, c8, hG6, -⟩ := hB5.below b56
            have hgr6 := grow_below hgr5 b56
            have hI06 := hI05.below b56
            have hI16 := hI15.below b56
            have hIo6 := hIo5.below b56
            clear b56 hB5 hgr5 hIo5 hT5 hI05 hI15
            obtain ⟨t0, t1, t2, t3⟩ := hT6.cells
            obtain ⟨d0, d1, d2, d3⟩ := hG6.cells
            have f0 := hG6.free 0
            have f1 := hG6.free 1
            have f2 := hG6.free 2
            have f3 := hG6.free 3
            obtain ⟨w7, hw7⟩ : ∃ w7 : World, w7 = (((w5.setCell ⟨g, 0, none⟩ (.int .i64 0)).setCell ⟨g, 1, none⟩ (.slice A0 n0 c0)).setCell ⟨g, 2, none⟩ (.slice A1 n1 c1)).setCell ⟨g, 3, none⟩ (.int .i64 R.tour.end_) := ⟨_, rfl⟩
            have hne1 : ∀ ad, A0 = some ad → ad.block ≠ g := fun ad e => by have := hA0g ad e; omega
            have hne2 : ∀ ad, A1 = some ad → ad.block ≠ g := fun ad e => by have := hA1g ad e; omega
            have hB7 : BestIn w7 g (some R.tour) := by
              rw [hw7]
              exact ⟨A0, n0, c0, A1, n1, c1, hG6.set _ _ _, (((hI06.set _ hne1).set _ hne1).set _ hne1).set _ hne1, (((hI16.set _ hne2).set _ hne2).set _ hne2).set _ hne2, hA0g, hA1g⟩
            have hgr7 : w3.grownBy w7 (some g) := by rw [hw7]; exact grow_set (grow_set (grow_set (grow_set hgr6 _ _ _ rfl) _ _ _ rfl) _ _ _ rfl) _ _ _ rfl
            have hIo7 : Ints w7 A n o := by
              rw [hw7]
              have hne3 : 0 < n → ∀ ad, A = some ad → ad.block ≠ g := fun h0 ad e => by have := HOg.out h0 ad e; omega
              exact (((hIo6.set0 _ hne3).set0 _ hne3).set0 _ hne3).set0 _ hne3
            clear hI06 hI16 hne1 hne2 hG6 hgr6 hIo6
            go_upto_region 11 with fail
            rw [← hw7]
            clear hw7 d0 d1 d2 d3 t0 t1 t2 t3 f0 f1 f2 f3 hT6 heB heD hd hG5 q3 r3
            go_wp2_with fail
            refine (next_any A n c o w7 hIo7 (by omega)).mono ?_
            obtain ⟨nx, hnx⟩ : ∃ nx, nx = K.next o := ⟨_, rfl⟩
            rw [← hnx]
            rintro e w8 ⟨hret, b7⟩
            have B7 := hB7.below b7
            have g7 := grow_below hgr7 b7
            rcases hret with ⟨h1, rfl⟩ | ⟨o', A', n', c', h1, hnc', rfl, hI', hA'⟩
            · have HE := Lib.hid (show K.pick x.nd x.l x.s x.r (K.orders 25 v) none = (some R.tour) by rw [HPK.out, K.orders_last (hnx.symm.trans h1), HST.out]; rfl)
              clear hnx h1 hB7 hgr7
              go_wp2_with fail
              go_roundw
              case rel => exact ⟨(some R.tour), none, 0, [], false, rfl, rfl, ⟨0, rfl, fun h => (nomatch h)⟩, fun h => (nomatch h), fun _ => HE.out, B7, g7⟩
              case measure => rw [leftOf_no, leftOf_yes HIW.out]; omega
            · obtain ⟨k1, k2⟩ := K.orders_next (hnx.symm.trans h1) HLEN.out
              have HPN := Lib.hid (show K.pick x.nd x.l x.s x.r (K.orders 25 v) none = K.pick x.nd x.l x.s x.r (K.orders 25 o') (some R.tour) by rw [HPK.out, k1, HST.out])
              have HGW := Lib.hid (Nat.lt_of_lt_of_le hg3 hgr7.size)
              have HLN := Lib.hid (show (K.orders 25 o').length ≤ 24 by have := HLEN.out; omega)
              have HLT := Lib.hid k2
              have hn' : n' ≤ 4 := by have h2 := K.next_len (hnx.symm.trans h1); have h3 := hI'.1; have h4 := HIW.out.1; omega
              clear hnx h1 k1 k2 hB7 hgr7
              go_wp2_with fail
              go_roundw
              case rel => exact ⟨(some R.tour), A', c', o', true, rfl, rfl, ⟨n', rfl, fun _ => ⟨hI', hnc', hn', fun _ ad e => Nat.lt_of_lt_of_le HGW.out (hA' ad e)⟩⟩, fun _ => ⟨HPN.out, HLN.out⟩, fun h => (nomatch h), B7, g7⟩
              case measure => rw [leftOf_yes hI', leftOf_yes HIW.out]; have := HLT.out; omega
          · have hd : decide (R.tour.end_ < bt.end_) = false := decide_eq_false hlt
            have HST := Lib.hid (fun os => K.pick_no (os := os) (b := (some bt)) (HR.out ▸ (fun h => hlt (of_decide_eq_true h.2) : ¬ (R.e = 0 ∧ K.better (some bt) R.tour.end_ = true))))
            go_wp2_with fail
            have b56 : Below w5.heap.size w5 w5 := Below.refl _ _
            have hB6 := hB5.below b56
            have hgr6 := grow_below hgr5 b56
            have hIo6 := hIo5.below b56
            clear b56 hB5 hgr5 hIo5 hT5 hI05 hI15 heB heD hd hG5 q3 r3
            go_wp2_with fail
            refine (next_any A n c o w5 hIo6 (by omega)).mono ?_
            obtain ⟨nx, hnx⟩ : ∃ nx, nx = K.next o := ⟨_, rfl⟩
            rw [← hnx]
            rintro e w7 ⟨hret, b7⟩
            have B7 := hB6.below b7
            have g7 := grow_below hgr6 b7
            rcases hret with ⟨h1, rfl⟩ | ⟨o', A', n', c', h1, hnc', rfl, hI', hA'⟩
            · have HE := Lib.hid (show K.pick x.nd x.l x.s x.r (K.orders 25 v) none = (some bt) by rw [HPK.out, K.orders_last (hnx.symm.trans h1), HST.out]; rfl)
              clear hnx h1 hB6 hgr6
              go_wp2_with fail
              go_roundw
              case rel => exact ⟨(some bt), none, 0, [], false, rfl, rfl, ⟨0, rfl, fun h => (nomatch h)⟩, fun h => (nomatch h), fun _ => HE.out, B7, g7⟩
              case measure => rw [leftOf_no, leftOf_yes HIW.out]; omega
            · obtain ⟨k1, k2⟩ := K.orders_next (hnx.symm.trans h1) HLEN.out
              have HPN := Lib.hid (show K.pick x.nd x.l x.s x.r (K.orders 25 v) none = K.pick x.nd x.l x.s x.r (K.orders 25 o') (some bt) by rw [HPK.out, k1, HST.out])
              have HGW := Lib.hid (Nat.lt_of_lt_of_le hg3 hgr6.size)
              have HLN := Lib.hid (show (K.orders 25 o').length ≤ 24 by have := HLEN.out; omega)
              have HLT := Lib.hid k2
              have hn' : n' ≤ 4 := by have h2 := K.next_len (hnx.symm.trans h1); have h3 := hI'.1; have h4 := HIW.out.1; omega
              clear hnx h1 k1 k2 hB6 hgr6
              go_wp2_with fail
              go_roundw
              case rel => exact ⟨(some bt), A', c', o', true, rfl, rfl, ⟨n', rfl, fun _ => ⟨hI', hnc', hn', fun _ ad e => Nat.lt_of_lt_of_le HGW.out (hA' ad e)⟩⟩, fun _ => ⟨HPN.out, HLN.out⟩, fun h => (nomatch h), B7, g7⟩
              case measure => rw [leftOf_yes hI', leftOf_yes HIW.out]; have := HLT.out; omega
      · have heB : (R.e == 0) = false := by simp [he]
        have heD : decide (R.e = 0) = false := by simp [he]
        have HST := Lib.hid (fun os => K.pick_no (os := os) (b := b) (HR.out ▸ (fun h => he h.1 : ¬ (R.e = 0 ∧ K.better b R.tour.end_ = true))))
        go_wp2_with fail
        have b56 : Below w5.heap.size w5 w5 := Below.refl _ _
        have hB6 := hB5.below b56
        have hgr6 := grow_below hgr5 b56
        have hIo6 := hIo5.below b56
        clear b56 hB5 hgr5 hIo5 hT5 hI05 hI15 heB heD
        go_wp2_with fail
        refine (next_any A n c o w5 hIo6 (by omega)).mono ?_
        obtain ⟨nx, hnx⟩ : ∃ nx, nx = K.next o := ⟨_, rfl⟩
        rw [← hnx]
        rintro e w7 ⟨hret, b7⟩
        have B7 := hB6.below b7
        have g7 := grow_below hgr6 b7
        rcases hret with ⟨h1, rfl⟩ | ⟨o', A', n', c', h1, hnc', rfl, hI', hA'⟩
        · have HE := Lib.hid (show K.pick x.nd x.l x.s x.r (K.orders 25 v) none = b by rw [HPK.out, K.orders_last (hnx.symm.trans h1), HST.out]; rfl)
          clear hnx h1 hB6 hgr6
          go_wp2_with fail
          go_roundw
          case rel => exact ⟨b, none, 0, [], false, rfl, rfl, ⟨0, rfl, fun h => (nomatch h)⟩, fun h => (nomatch h), fun _ => HE.out, B7, g7⟩
          case measure => rw [leftOf_no, leftOf_yes HIW.out]; omega
        · obtain ⟨k1, k2⟩ := K.orders_next (hnx.symm.trans h1) HLEN.out
          have HPN := Lib.hid (show K.pick x.nd x.l x.s x.r (K.orders 25 v) none = K.pick x.nd x.l x.s x.r (K.orders 25 o') b by rw [HPK.out, k1, HST.out])
          have HGW := Lib.hid (Nat.lt_of_lt_of_le hg3 hgr6.size)
          have HLN := Lib.hid (show (K.orders 25 o').length ≤ 24 by have := HLEN.out; omega)
          have HLT := Lib.hid k2
          have hn' : n' ≤ 4 := by have h2 := K.next_len (hnx.symm.trans h1); have h3 := hI'.1; have h4 := HIW.out.1; omega
          clear hnx h1 k1 k2 hB6 hgr6
          go_wp2_with fail
          go_roundw
          case rel => exact ⟨b, A', c', o', true, rfl, rfl, ⟨n', rfl, fun _ => ⟨hI', hnc', hn', fun _ ad e => Nat.lt_of_lt_of_le HGW.out (hA' ad e)⟩⟩, fun _ => ⟨HPN.out, HLN.out⟩, fun h => (nomatch h), B7, g7⟩
          case measure => rw [leftOf_yes hI', leftOf_yes HIW.out]; have := HLT.out; omega
end Go.Proofs.Ytjcdpfpdjcannaa
