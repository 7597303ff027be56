/-
Routes: the contract of route.Best.
-/
import Derived.Test.YtippdjmpkafifaaPO
import Derived.Laws.ResultCell
namespace Go.Proofs.Ytippdjmpkafifaa
open Go.RowKit

namespace K
/-- What route.Best hands back: a tour, and an error. -/
def bestOut (nd : Int) (l : List Ro) (s : S) (r : List Q) (v : List Int) : Tr × Int :=
  if ok31 nd l s r v = true then (match best nd l s r v with | some t => (t, 0) | none => (Tr.zero, 4)) else (Tr.zero, 1)
theorem bestOut_no {nd : Int} {l : List Ro} {s : S} {r : List Q} {v : List Int} (h : ok31 nd l s r v = false) : bestOut nd l s r v = (Tr.zero, 1) := by unfold bestOut; rw [h]; rfl
theorem bestOut_none {nd : Int} {l : List Ro} {s : S} {r : List Q} {v : List Int} (h : ok31 nd l s r v = true) (h2 : best nd l s r v = none) : bestOut nd l s r v = (Tr.zero, 4) := by unfold bestOut; rw [if_pos h, h2]
theorem bestOut_some {nd : Int} {l : List Ro} {s : S} {r : List Q} {v : List Int} {t : Tr} (h : ok31 nd l s r v = true) (h2 : best nd l s r v = some t) : bestOut nd l s r v = (t, 0) := by unfold bestOut; rw [if_pos h, h2]
end K

/-- A tour and an error are handed back. -/
def RetBest (w w' : World) (y : K.Tr × Int) (e : Ending) : Prop :=
  (∃ A n c A' n' c', e = .returned (.tuple #[.agg #[.int .i64 0, .slice A n c, .slice A' n' c', .int .i64 y.1.end_], .int .i64 y.2]) ∧ Ints w' A n y.1.stops ∧ Ints w' A' n' y.1.times ∧ (∀ ad, A = some ad → w.heap.size ≤ ad.block) ∧ ∀ ad, A' = some ad → w.heap.size ≤ ad.block) ∧ Below w.heap.size w w'
theorem retBest_zero {w w' : World} {er : Int} {y : K.Tr × Int} (h : y = (K.Tr.zero, er)) (hb : Below w.heap.size w w') : RetBest w w' y (.returned (.tuple #[.agg #[.int .i64 0, .slice none 0 0, .slice none 0 0, .int .i64 0], .int .i64 er])) := by
  subst h
  exact ⟨⟨none, 0, 0, none, 0, 0, rfl, ints_nil _, ints_nil _, fun ad e => (nomatch e), fun ad e => (nomatch e)⟩, hb⟩

theorem But3.below_of {w w1 w2 : World} {mb gb gf : Nat} (h : Below w.heap.size w w1) (h2 : But3 w1 w2 mb gb gf) (h3 : w.heap.size ≤ mb) (h4 : w.heap.size ≤ gb) (h5 : w.heap.size ≤ gf) : Below w.heap.size w w2 :=
  ⟨h2.os.trans h.os, h2.tape.trans h.tape, h2.output.trans h.output, Nat.le_trans h.size h2.size, fun k hk => (h2.block k (Nat.lt_of_lt_of_le hk h.size) (by omega) (by omega) (by omega)).trans (h.block k hk)⟩

set_option maxRecDepth 100000 in
set_option maxHeartbeats 16000000 in
theorem best_any (x : C) (V : Option Addr) (vn vc : Nat) (v : List Int) (w : World) (hx : At w x) (hV : Ints w V vn v) (hvc : vn ≤ vc) (hvn : vn ≤ 1000000000) :
    Calls Try.prog 23 #[.agg #[.int .i64 x.nd, .slice x.A x.n x.c], .agg #[.int .i64 x.s.day, .int .i64 x.s.depot, .int .i64 x.s.start, .int .i64 x.s.end_, .int .i64 x.s.tare, .slice x.s.A x.s.n x.s.c], .slice x.B x.m x.d, .slice V vn vc] w fun e w' => RetBest w w' (K.bestOut x.nd x.l x.s x.r v) e := by
  obtain ⟨w0, hw0⟩ : ∃ w0 : World, w0 = ((w.alloc (.cells #[.int .i64 x.nd, .slice x.A x.n x.c] 24)).alloc (.cells #[.int .i64 x.s.day, .int .i64 x.s.depot, .int .i64 x.s.start, .int .i64 x.s.end_, .int .i64 x.s.tare, .slice x.s.A x.s.n x.s.c] 43)).alloc (.cells #[.int .i64 0, .slice none 0 0, .slice none 0 0, .int .i64 0] 51) := ⟨_, rfl⟩
  have b0 : Below w.heap.size w w0 := by rw [hw0]; exact bel (bel ((Below.refl _ _).alloc (Nat.le_refl _) _) ((Below.refl _ _).alloc (Nat.le_refl _) _)) ((Below.refl _ _).alloc (Nat.le_refl _) _)
  have z1 := World.size_alloc w (.cells #[.int .i64 x.nd, .slice x.A x.n x.c] 24)
  have z2 := World.size_alloc (w.alloc (.cells #[.int .i64 x.nd, .slice x.A x.n x.c] 24)) (.cells #[.int .i64 x.s.day, .int .i64 x.s.depot, .int .i64 x.s.start, .int .i64 x.s.end_, .int .i64 x.s.tare, .slice x.s.A x.s.n x.s.c] 43)
  have hR : TrBlk w0 (w.heap.size + 1 + 1) (.slice none 0 0) (.slice none 0 0) 0 := by rw [hw0]; exact heap_alloc_at _ _ _ (by rw [z2, z1])
  have hS : Shf w0 (w.heap.size + 1) x.s := by
    have h := (Shf.new (w.alloc (.cells #[.int .i64 x.nd, .slice x.A x.n x.c] 24)) x.s).below ((Below.refl _ _).alloc (Nat.le_refl _) (.cells #[.int .i64 0, .slice none 0 0, .slice none 0 0, .int .i64 0] 51))
    rw [z1] at h
    rw [hw0]; exact h
  have hN : Net w0 w.heap.size x.nd x.A x.n x.c := by
    rw [hw0]
    exact (Net.new w x.nd x.A x.n x.c).below (bel ((Below.refl _ _).alloc (Nat.le_refl _) _) ((Below.refl _ _).alloc (Nat.le_refl _) _))
  have p0 := hN.c0
  have p1 := hN.c1
  obtain ⟨s0, s1, s2, s3, s4, s5⟩ := hS.cells
  rw [hw0] at p0 p1 s0 s1 s2 s3 s4 s5
  go_enter Try.func23, Try.ntmps23
  go_wp2_with fail
  rw [← hw0]
  refine (planned_any x V vn vc v _ (hx.below b0) (hV.below b0) hvc hvn).mono ?_
  rintro e w1 ⟨hret, b1⟩
  have hb := bel b0 b1
  have hsz := b0.size
  have hR0 := lt_of_block hR
  have hR1 := hR.below b1 hR0
  have hS1 := hS.below b1
  clear p0 p1 s0 s1 s2 s3 s4 s5 hw0 z1 z2 hR hS hN
  rcases hret with ⟨hok, rfl⟩ | ⟨b, mb, rfl, hbb, hbm, hP⟩
  · have HX := Lib.hid (K.bestOut_no hok)
    clear hok
    obtain ⟨r0, r1, r2, r3⟩ := hR1.cells
    have f0 := hR1.free 0
    have f1 := hR1.free 1
    have f2 := hR1.free 2
    have f3 := hR1.free 3
    go_wp2_with fail
    refine bodyPost_ret_by (v := .tuple #[.agg #[.int .i64 0, .slice none 0 0, .slice none 0 0, .int .i64 0], .int .i64 1]) ?_ rfl ?_
    · obtain ⟨z0, z1, z2, z3⟩ := (hR1.set (.slice none 0 0) (.slice none 0 0) 0).cells
      rw [results_cell_tmp rfl]
      simp [go_sem, z0, z1, z2, z3]
    · exact retBest_zero HX.out (below_set4 hb (by omega) _ _ _ _)
  · obtain ⟨gb, hgb⟩ : ∃ gb, gb = w1.heap.size := ⟨_, rfl⟩
    obtain ⟨gf, hgf⟩ : ∃ gf, gf = w1.heap.size + 1 := ⟨_, rfl⟩
    have hpp := hP (fun g => g = gb ∨ g = gf)
    clear hP
    have hok : K.ok31 x.nd x.l x.s x.r v = true := hpp.ok
    obtain ⟨hne, hck, hdp, hrq, hl6, hgo⟩ := K.ok31_parts hok
    obtain ⟨-, ⟨d0, d1⟩, st0, st1, en1⟩ := K.check_parts hck
    obtain ⟨w2, hw2⟩ : ∃ w2, w2 = (w1.alloc (.cells #[.int .i64 0, .slice none 0 0, .slice none 0 0, .int .i64 0] 51)).alloc (.cells #[.bool false] 4) := ⟨_, rfl⟩
    have hza := World.size_alloc w1 (.cells #[.int .i64 0, .slice none 0 0, .slice none 0 0, .int .i64 0] 51)
    have b12 : Below w1.heap.size w1 w2 := by rw [hw2]; exact bel ((Below.refl _ _).alloc (Nat.le_refl _) _) ((Below.refl _ _).alloc (Nat.le_refl _) _)
    have hB2 : BestAt w2 gb gf none := ⟨by rw [hw2, hgf]; exact heap_alloc_at _ _ _ hza.symm, none, 0, 0, none, 0, 0, 0, by rw [hw2, hgb]; exact blk_alloc (heap_alloc_new _ _) _, fun b e => (nomatch e)⟩
    have hz2 : w2.heap.size = w1.heap.size + 1 + 1 := by rw [hw2, World.size_alloc, hza]
    have hSA : SAt w1 w2 mb gb gf ⟨x, V, vn, vc, v⟩ (fun g => g = gb ∨ g = gf) none := ⟨Ext.below b12, hpp.memo.below b12, hB2⟩
    have CT : Calls Try.prog 52 #[.pointer (some ⟨b, 0, none⟩), .agg #[.int .i64 0, .int .i64 x.s.depot, .int .i64 x.s.start, .slice none 0 0, .slice none 0 0], .pointer (some ⟨gb, 0, none⟩), .pointer (some ⟨gf, 0, none⟩)] w2
        fun e w' => Sought w2 w' mb gb gf ⟨x, V, vn, vc, v⟩ (fun g => g = gb ∨ g = gf) (K.best x.nd x.l x.s x.r v) e :=
      try_any b mb gb gf ⟨x, V, vn, vc, v⟩ w1 hpp (by omega) (by omega) (.inl rfl) (.inr rfl) (2 ^ v.length) ⟨0, x.s.depot, x.s.start, [], []⟩ none none 0 0 none 0 0 w2 hSA (fun g hg => by omega)
        ⟨ints_nil _, ints_nil _, fun ad e => (nomatch e), fun ad e => (nomatch e), Nat.two_pow_pos _, Nat.le_refl _, rfl, ⟨d0, hdp⟩, ⟨st0, by show x.s.start ≤ 1000000; omega⟩⟩ (by
          have h9 : (⟨x, V, vn, vc, v⟩ : PS).n = v.length := hV.1
          rw [h9]; exact Nat.le_add_left _ _)
    have hR2 := hR1.below b12 (lt_of_block hR1)
    have hS2 := hS1.below b12
    obtain ⟨s0, s1, s2, s3, s4, s5⟩ := hS2.cells
    have HOK := Lib.hid hok
    have hRl := lt_of_block hR1
    have hgbl : w.heap.size + 1 + 1 < gb := by omega
    clear hok hne hck hdp hrq hl6 hgo d0 d1 st0 st1 en1 hB2 hza hR1 hS1
    rw [hw2, hgb, hgf] at CT
    rw [hw2] at s0 s1 s2 s3 s4 s5
    go_wp2_with fail
    refine CT.mono ?_
    rw [← hw2, ← hgf, ← hgb]
    rintro e w3 ⟨rfl, hB3, hM3, hT3⟩
    have hR3 : TrBlk w3 (w.heap.size + 1 + 1) (.slice none 0 0) (.slice none 0 0) 0 := (hB3.block _ (by omega) (by omega) (by omega) (by omega)).trans hR2
    have hb3 : Below w.heap.size w w3 := But3.below_of (bel hb b12) hB3 (by omega) (by omega) (by omega)
    clear CT s0 s1 s2 s3 s4 s5 hS2 hR2 hw2 hgb hgf hSA hpp
    obtain ⟨A0, n0, c0, A1, n1, c1, e0, hT, hTb⟩ := hT3.blk
    have ff := blk_cell hT3.found 0 _ rfl
    obtain ⟨r0, r1, r2, r3⟩ := hR3.cells
    have f0 := hR3.free 0
    have f1 := hR3.free 1
    have f2 := hR3.free 2
    have f3 := hR3.free 3
    cases hbst : K.best x.nd x.l x.s x.r v with
    | none =>
      have HX := Lib.hid (K.bestOut_none HOK.out hbst)
      rw [hbst] at ff
      clear hTb hbst
      go_wp2_with fail
      refine bodyPost_ret_by (v := .tuple #[.agg #[.int .i64 0, .slice none 0 0, .slice none 0 0, .int .i64 0], .int .i64 4]) ?_ rfl ?_
      · obtain ⟨z0, z1, z2, z3⟩ := (hR3.set (.slice none 0 0) (.slice none 0 0) 0).cells
        rw [results_cell_tmp rfl]
        simp [go_sem, z0, z1, z2, z3]
      · exact retBest_zero HX.out (below_set4 hb3 (by omega) _ _ _ _)
    | some bt =>
      have HX := Lib.hid (K.bestOut_some HOK.out hbst)
      obtain ⟨hI, hJ, he, hA, hA'⟩ := hTb bt hbst
      subst he
      rw [hbst] at ff
      clear hTb hbst
      obtain ⟨t0, t1, t2, t3⟩ := hT.cells
      go_wp2_with fail
      refine bodyPost_ret_by (v := .tuple #[.agg #[.int .i64 0, .slice A0 n0 c0, .slice A1 n1 c1, .int .i64 bt.end_], .int .i64 0]) ?_ rfl ?_
      · obtain ⟨z0, z1, z2, z3⟩ := (hR3.set (.slice A0 n0 c0) (.slice A1 n1 c1) bt.end_).cells
        rw [results_cell_tmp rfl]
        simp [go_sem, z0, z1, z2, z3]
      · rw [HX.out]
        have hne1 : ∀ ad, A0 = some ad → ad.block ≠ w.heap.size + 1 + 1 := fun ad e => by have := hA ad e; omega
        have hne2 : ∀ ad, A1 = some ad → ad.block ≠ w.heap.size + 1 + 1 := fun ad e => by have := hA' ad e; omega
        exact ⟨⟨A0, n0, c0, A1, n1, c1, rfl, (((hI.set _ hne1).set _ hne1).set _ hne1).set _ hne1, (((hJ.set _ hne2).set _ hne2).set _ hne2).set _ hne2, fun ad e => (by have := hA ad e; omega), fun ad e => (by have := hA' ad e; omega)⟩, below_set4 hb3 (by omega) _ _ _ _⟩
end Go.Proofs.Ytippdjmpkafifaa
