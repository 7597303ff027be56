/-
The walk of the law RouteProves.
-/
import Derived.Test.YtjcdpfpdjcannaaPS
import Derived.Test.YtjcdpfpdjcannaaV3
namespace Go.Proofs.Ytjcdpfpdjcannaa
open Go.RowKit

set_option maxRecDepth 100000 in
set_option maxHeartbeats 16000000 in
theorem proves_any (x : C) (V : Option Addr) (vn vc : Nat) (v : List Int) (LA : Option Addr) (ln lc : Nat) (lo : List Lb) (which : Int) (w : World) (hN : Roads w x.A x.n x.l) (hS0 : Ints w x.s.A x.s.n x.s.l) (hQ : Reqs w x.B x.m x.r) (hV : Ints w V vn v) (hvc : vn ≤ vc) (hL : Labs w LA ln lo) :
    Calls Try.prog 9 #[.agg #[.int .i64 x.nd, .slice x.A x.n x.c], .agg #[.int .i64 x.s.day, .int .i64 x.s.depot, .int .i64 x.s.start, .int .i64 x.s.end_, .int .i64 x.s.tare, .slice x.s.A x.s.n x.s.c], .slice x.B x.m x.d, .slice V vn vc, .slice LA ln lc, .int .i64 which] w fun e w' => e = .returned (.bool true) ∧ Below w.heap.size w w' := by
  obtain ⟨w1, hw1⟩ : ∃ w1 : World, w1 = w.alloc (.cells #[.int .i64 x.nd, .slice x.A x.n x.c] 24) := ⟨_, rfl⟩
  obtain ⟨w2, hw2⟩ : ∃ w2 : World, w2 = w1.alloc (.cells #[.int .i64 x.s.day, .int .i64 x.s.depot, .int .i64 x.s.start, .int .i64 x.s.end_, .int .i64 x.s.tare, .slice x.s.A x.s.n x.s.c] 27) := ⟨_, rfl⟩
  have z1 : w1.heap.size = w.heap.size + 1 := by rw [hw1]; exact World.size_alloc _ _
  have b01 : Below w.heap.size w w1 := by rw [hw1]; exact (Below.refl _ _).alloc (Nat.le_refl _) _
  have b12 : Below w1.heap.size w1 w2 := by rw [hw2]; exact (Below.refl _ _).alloc (Nat.le_refl _) _
  have hP : Net w2 w.heap.size x.nd x.A x.n x.c := by
    have h1 : Net w1 w.heap.size x.nd x.A x.n x.c := by rw [hw1]; exact Net.new _ _ _ _ _
    exact h1.below b12
  have hS : Shf w2 (w.heap.size + 1) x.s := by rw [← z1, hw2]; exact Shf.new _ _
  have hb := bel b01 b12
  go_enter Try.func9, Try.ntmps9
  go_wp2_with fail
  rw [← hw1, ← hw2]
  clear hw1 hw2 z1 b01 b12
  refine (sane31_any _).mono ?_
  rintro e w3 ⟨rfl, b3⟩
  have hP := hP.below b3
  have hS := hS.below b3
  have hb := bel hb b3
  clear b3
  have p0 := hP.c0
  have p1 := hP.c1
  obtain ⟨s0, s1, s2, s3, s4, s5⟩ := hS.cells
  go_wp2_with fail
  refine (few31_any x V vn vc _ (hQ.below hb)).mono ?_
  rintro e w4 ⟨rfl, b4⟩
  have hP := hP.below b4
  have hS := hS.below b4
  have hb := bel hb b4
  clear b4 p0 p1 s0 s1 s2 s3 s4 s5
  have p0 := hP.c0
  have p1 := hP.c1
  obtain ⟨s0, s1, s2, s3, s4, s5⟩ := hS.cells
  cases hf : K.few31 x.nd x.n x.s x.r vn
  · clear hf
    go_wp2_with fail
    go_ret
    exact ⟨rfl, hb⟩
  obtain ⟨hf0, hvs⟩ : K.few30 x.nd x.n x.s x.r = true ∧ K.size31 vn = true := by simpa [K.few31] using hf
  obtain ⟨hf1, hf2, hf3, hf4⟩ := K.few_parts hf0
  have hx : At w x := ⟨hN, hS0, hQ, by omega, by omega, by rw [hQ.1]; omega, fun q hq => by have := hf4 q hq; omega⟩
  have hm6 : x.m ≤ 6 := by rw [hQ.1]; exact hf3
  have hv20 : vn ≤ 20 := by simp only [K.size31, Bool.or_eq_true, Bool.and_eq_true, decide_eq_true_eq] at hvs; omega
  clear hf1 hf2 hf3 hf4 hf hf0 hvs
  by_cases hl6 : 60 < ln
  · go_wp2_with fail
    go_ret
    exact ⟨rfl, hb⟩
  have hl6' : decide ((60 : Int) < (ln : Int)) = false := by simp; omega
  by_cases hv0 : vn = 0
  · have hv0' : ((vn : Int) == 0) = true := by simp [hv0]
    go_wp2_with fail
    go_ret
    exact ⟨rfl, hb⟩
  have hv0' : ((vn : Int) == 0) = false := by simp; omega
  go_wp2_with fail
  refine (right31_any x V vn vc v _ (hx.below hb) (hV.below hb) (by omega)).mono ?_
  rintro e w5 ⟨rfl, b5⟩
  have hP := hP.below b5
  have hS := hS.below b5
  have hb := bel hb b5
  clear b5 p0 p1 s0 s1 s2 s3 s4 s5
  have p0 := hP.c0
  have p1 := hP.c1
  obtain ⟨s0, s1, s2, s3, s4, s5⟩ := hS.cells
  cases hok : K.ok31 x.nd x.l x.s x.r v
  · clear hok
    go_wp2_with fail
    go_ret
    exact ⟨rfl, hb⟩
  have HOK := Lib.hid hok
  clear hok
  have hvne : v ≠ [] := fun h => hv0 (by rw [hV.1, h]; rfl)
  have HLAW := Lib.hid (K.proves_law HOK.out hvne)
  clear hvne
  go_wp2_with fail
  refine (best_any x V vn vc v _ (hx.below hb) (hV.below hb) hvc (by omega)).mono ?_
  rintro e w6 ⟨⟨A0, n0, c0, B0, m0, d0, rfl, -, -⟩, b6⟩
  obtain ⟨Y, hY⟩ : ∃ Y, Y = K.bestOut x.nd x.l x.s x.r v := ⟨_, rfl⟩
  have HY := Lib.hid (show (Y.2 == 4) = (K.best x.nd x.l x.s x.r v).isNone by
    rw [hY]
    cases hbs : K.best x.nd x.l x.s x.r v with
    | none => rw [K.bestOut_none HOK.out hbs]; rfl
    | some t => rw [K.bestOut_some HOK.out hbs]; rfl)
  rw [← hY]
  clear hY
  obtain ⟨w7, hw7⟩ : ∃ w7 : World, w7 = w6.alloc (.cells #[.int .i64 0, .slice A0 n0 c0, .slice B0 m0 d0, .int .i64 Y.1.end_] 30) := ⟨_, rfl⟩
  have b67 : Below w6.heap.size w6 w7 := by rw [hw7]; exact (Below.refl _ _).alloc (Nat.le_refl _) _
  have hP := hP.below (bel b6 b67)
  have hS := hS.below (bel b6 b67)
  have hb := bel hb (bel b6 b67)
  clear b6 b67 p0 p1 s0 s1 s2 s3 s4 s5
  have p0 := hP.c0
  have p1 := hP.c1
  obtain ⟨s0, s1, s2, s3, s4, s5⟩ := hS.cells
  have HP := Lib.hid hP
  have HS := Lib.hid hS
  have HB := Lib.hid hb
  rw [hw7] at p0 p1 s0 s1 s2 s3 s4 s5
  clear hP hS hb
  go_wp2_with fail
  rw [← hw7]
  refine (labels30_any x V vn vc v _ (hx.below HB.out) (hV.below HB.out) hvc (by omega)).mono ?_
  rintro e w8 ⟨⟨KA, kn, kc, rfl, hK⟩, b8⟩
  clear p0 p1 s0 s1 s2 s3 s4 s5 hw7
  have hgU : w.heap.size + 1 < w8.heap.size := Nat.lt_of_lt_of_le (lt_of_block HS.out) b8.size
  have hkl : kn ≤ 1000 := by rw [hK.1]; exact K.labs_len _ _ _ _ _
  obtain ⟨w9, hw9⟩ : ∃ w9 : World, w9 = w8.alloc (.cells #[.int .i64 which, .slice V vn vc, .slice KA kn kc] 51) := ⟨_, rfl⟩
  have b89 : Below w8.heap.size w8 w9 := by rw [hw9]; exact (Below.refl _ _).alloc (Nat.le_refl _) _
  have hU : w9.heap[w8.heap.size]? = some (.cells #[.int .i64 which, .slice V vn vc, .slice KA kn kc] 51 (0, 0)) := by rw [hw9]; exact heap_alloc_new _ _
  have hP := HP.out.below (bel b8 b89)
  have hS := HS.out.below (bel b8 b89)
  have hb := bel HB.out (bel b8 b89)
  have HK8 := Lib.hid hK
  have HB89 := Lib.hid b89
  have hK := Lst.below hK b89
  clear HP HS HB b8 b89
  have p0 := hP.c0
  have p1 := hP.c1
  obtain ⟨s0, s1, s2, s3, s4, s5⟩ := hS.cells
  have u0 := blk_cell hU 0 _ rfl
  have u1 := blk_cell hU 1 _ rfl
  have u2 := blk_cell hU 2 _ rfl
  have HP := Lib.hid hP
  have HS := Lib.hid hS
  have HB := Lib.hid hb
  have HU := Lib.hid hU
  have HK := Lib.hid hK
  rw [hw9] at p0 p1 s0 s1 s2 s3 s4 s5 u0 u1 u2
  clear hP hS hb hU hK
  go_wp2_with fail
  rw [← hw9]
  refine (blocks_any x which V vn vc v KA kn kc (K.labs x.nd x.l x.s x.r v) _ (hx.below HB.out) (hV.below HB.out) hvc (by omega) HK.out (by omega)).mono ?_
  rw [HLAW.out, ← HY.out]
  rintro e wa ⟨rfl, ba⟩
  clear p0 p1 s0 s1 s2 s3 s4 s5 u0 u1 u2 hw9
  have hU := blk_below ba HU.out
  have hP := HP.out.below ba
  have hS := HS.out.below ba
  have hb := bel HB.out ba
  have hK := Lst.below HK.out ba
  have HB8A := Lib.hid (bel HB89.out ba)
  clear HU HP HS HB HK ba HB89
  have HNX := Lib.hid (show K.blocks x.nd x.l x.s x.r v lo = true → K.labs x.nd x.l x.s x.r v = lo ∧ (Y.2 == 4) = true from fun h => by
    have h2 := h
    simp only [K.blocks, Bool.and_eq_true, decide_eq_true_eq] at h2
    refine ⟨h2.2.2.1.symm, ?_⟩
    rw [h2.2.2.1, HLAW.out, ← HY.out] at h
    exact h)
  clear HLAW HY
  obtain ⟨wb, hwb⟩ : ∃ wb : World, wb = wa.setCell ⟨w8.heap.size, 2, none⟩ (.slice LA ln lc) := ⟨_, rfl⟩
  have hPb : Net wb w.heap.size x.nd x.A x.n x.c := by rw [hwb]; exact blk_other hP _ (by omega)
  have hSb : Shf wb (w.heap.size + 1) x.s := by rw [hwb]; exact blk_other hS _ (by omega)
  have hbb : Below w.heap.size w wb := by rw [hwb]; exact hb.setCell (show w.heap.size ≤ w8.heap.size by omega) _
  have hUb : wb.heap[w8.heap.size]? = some (.cells #[.int .i64 which, .slice V vn vc, .slice LA ln lc] 51 (0, 0)) := by rw [hwb]; exact blk_set hU 2 _
  have hLb := Lst.below hL hbb
  have hKb : Labs wb KA kn (K.labs x.nd x.l x.s x.r v) := Lst.below HK8.out (by rw [hwb]; exact HB8A.out.setCell (Nat.le_refl _) _)
  have HKB := Lib.hid hKb
  clear hKb
  have u2 := blk_cell hU 2 _ rfl
  have uf := blk_free hU
  have p0 := hPb.c0
  have p1 := hPb.c1
  obtain ⟨s0, s1, s2, s3, s4, s5⟩ := hSb.cells
  have v0 := blk_cell hUb 0 _ rfl
  have v1 := blk_cell hUb 1 _ rfl
  have v2 := blk_cell hUb 2 _ rfl
  have HXB := Lib.hid (hx.below hbb)
  have HVB := Lib.hid (hV.below hbb)
  have HLB := Lib.hid hLb
  have HBB := Lib.hid hbb
  rw [hwb] at p0 p1 s0 s1 s2 s3 s4 s5 v0 v1 v2
  clear hP hS hb hK hU hPb hSb hbb hUb hLb
  obtain ⟨z, hz⟩ : ∃ z, (Y.2 == 4) = z := ⟨_, rfl⟩
  rw [hz] at HNX ⊢
  have q1 : (z != z) = false := by simp
  go_wp2_with fail
  rw [← hwb]
  refine (blocks_any x which V vn vc v LA ln lc lo _ HXB.out HVB.out hvc (by omega) HLB.out (by omega)).mono ?_
  obtain ⟨bl, hbl⟩ : ∃ bl, bl = K.blocks x.nd x.l x.s x.r v lo := ⟨_, rfl⟩
  rw [← hbl] at HNX ⊢
  rintro e wc ⟨rfl, bc⟩
  clear p0 p1 s0 s1 s2 s3 s4 s5 u2 uf v0 v1 v2 hwb hbl
  cases bl
  · go_wp2_with fail
    go_ret
    exact ⟨rfl, bel HBB.out bc⟩
  · obtain ⟨hlo, hz1⟩ := HNX.out rfl
    have HLO := Lib.hid hlo
    subst hz1
    clear hlo
    go_wp2_with fail
    refine (samelab_any KA LA kn ln kc lc _ lo _ (Lst.below HKB.out bc) (Lst.below HLB.out bc) (by omega) (by omega)).mono ?_
    rw [decide_eq_true HLO.out]
    rintro e wd ⟨rfl, bd⟩
    go_wp2_with fail
    go_ret
    exact ⟨rfl, bel (bel HBB.out bc) bd⟩
end Go.Proofs.Ytjcdpfpdjcannaa
