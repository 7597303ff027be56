/-
The walk of the law RouteTells.
-/
import Derived.Test.YtjcdpfpdjcannaaPS
import Derived.Test.YtjcdpfpdjcannaaW10
import Derived.Test.YtjcdpfpdjcannaaW11
namespace Go.Proofs.Ytjcdpfpdjcannaa
open Go.RowKit

theorem K.bestOut_len (nd : Int) (l : List Ro) (s : S) (r : List Q) (v : List Int) : (K.bestOut nd l s r v).1.stops.length ≤ 6 ∧ (K.bestOut nd l s r v).1.times.length ≤ 6 := by
  cases hok : K.ok31 nd l s r v
  · rw [K.bestOut_no hok]; exact ⟨Nat.zero_le _, Nat.zero_le _⟩
  cases hb : K.best nd l s r v with
  | none => rw [K.bestOut_none hok hb]; exact ⟨Nat.zero_le _, Nat.zero_le _⟩
  | some t =>
    obtain ⟨h1, -, h3⟩ := K.best_tour hok hb
    have h4 := (K.ok31_parts hok).2.2.2.2.1
    have h5 := h1.length_eq
    rw [K.bestOut_some hok hb]
    exact ⟨by dsimp only; omega, by dsimp only; omega⟩

set_option maxRecDepth 100000 in
set_option maxHeartbeats 16000000 in
theorem rtells_any (x : C) (V : Option Addr) (vn vc : Nat) (v : List Int) (sh : Int) (U : Option Addr) (un uc : Nat) (u : List Int) (LA : Option Addr) (ln lc : Nat) (lb : List Lb) (w : World) (hN : Roads w x.A x.n x.l) (hS0 : Ints w x.s.A x.s.n x.s.l) (hQ : Reqs w x.B x.m x.r) (hV : Ints w V vn v) (hvc : vn ≤ vc) (hU : Ints w U un u) (huc : un ≤ uc) (hL : Labs w LA ln lb) :
    Calls Try.prog 8 #[.agg #[.int .i64 x.nd, .slice x.A x.n x.c], .agg #[.int .i64 x.s.day, .int .i64 x.s.depot, .int .i64 x.s.start, .int .i64 x.s.end_, .int .i64 x.s.tare, .slice x.s.A x.s.n x.s.c], .slice x.B x.m x.d, .slice V vn vc, .agg #[.int .i64 sh, .slice U un uc, .slice LA ln lc]] w fun e w' => e = .returned (.bool true) ∧ Below w.heap.size w w' := by
  obtain ⟨w1, hw1⟩ : ∃ w1 : World, w1 = w.alloc (.cells #[.int .i64 x.nd, .slice x.A x.n x.c] 24) := ⟨_, rfl⟩
  obtain ⟨w2, hw2⟩ : ∃ w2 : World, w2 = w1.alloc (.cells #[.int .i64 x.s.day, .int .i64 x.s.depot, .int .i64 x.s.start, .int .i64 x.s.end_, .int .i64 x.s.tare, .slice x.s.A x.s.n x.s.c] 27) := ⟨_, rfl⟩
  obtain ⟨w3, hw3⟩ : ∃ w3 : World, w3 = w2.alloc (.cells #[.int .i64 sh, .slice U un uc, .slice LA ln lc] 51) := ⟨_, rfl⟩
  have z1 : w1.heap.size = w.heap.size + 1 := by rw [hw1]; exact World.size_alloc _ _
  have z2 : w2.heap.size = w.heap.size + 1 + 1 := by rw [hw2, World.size_alloc, z1]
  have b01 : Below w.heap.size w w1 := by rw [hw1]; exact (Below.refl _ _).alloc (Nat.le_refl _) _
  have b12 : Below w1.heap.size w1 w2 := by rw [hw2]; exact (Below.refl _ _).alloc (Nat.le_refl _) _
  have b23 : Below w2.heap.size w2 w3 := by rw [hw3]; exact (Below.refl _ _).alloc (Nat.le_refl _) _
  have hP : Net w3 w.heap.size x.nd x.A x.n x.c := by
    have h1 : Net w1 w.heap.size x.nd x.A x.n x.c := by rw [hw1]; exact Net.new _ _ _ _ _
    exact (h1.below b12).below b23
  have hS : Shf w3 (w.heap.size + 1) x.s := by
    have h1 : Shf w2 (w.heap.size + 1) x.s := by rw [← z1, hw2]; exact Shf.new _ _
    exact h1.below b23
  have hG : w3.heap[w.heap.size + 1 + 1]? = some (.cells #[.int .i64 sh, .slice U un uc, .slice LA ln lc] 51 (0, 0)) := by rw [← z2, hw3]; exact heap_alloc_new _ _
  have hb := bel (bel b01 b12) b23
  go_enter Try.func8, Try.ntmps8
  go_wp2_with fail
  rw [← hw1, ← hw2, ← hw3]
  clear hw1 hw2 hw3 z1 z2 b01 b12 b23
  refine (sane31_any _).mono ?_
  rintro e w4 ⟨rfl, b3⟩
  have p0 := hP.c0
  have p1 := hP.c1
  obtain ⟨s0, s1, s2, s3, s4, s5⟩ := hS.cells
  have g0 := blk_cell hG 0 _ rfl
  have g1 := blk_cell hG 1 _ rfl
  have g2 := blk_cell hG 2 _ rfl
  have hP := hP.below b3
  have hS := hS.below b3
  have hG := blk_below b3 hG
  have hb := bel hb b3
  clear b3 p0 p1 s0 s1 s2 s3 s4 s5 g0 g1 g2
  have p0 := hP.c0
  have p1 := hP.c1
  obtain ⟨s0, s1, s2, s3, s4, s5⟩ := hS.cells
  have g0 := blk_cell hG 0 _ rfl
  have g1 := blk_cell hG 1 _ rfl
  have g2 := blk_cell hG 2 _ rfl
  go_wp2_with fail
  refine (few31_any x V vn vc _ (hQ.below hb)).mono ?_
  rintro e w5 ⟨rfl, b4⟩
  have hP := hP.below b4
  have hS := hS.below b4
  have hG := blk_below b4 hG
  have hb := bel hb b4
  clear b4 p0 p1 s0 s1 s2 s3 s4 s5 g0 g1 g2
  have p0 := hP.c0
  have p1 := hP.c1
  obtain ⟨s0, s1, s2, s3, s4, s5⟩ := hS.cells
  have g0 := blk_cell hG 0 _ rfl
  have g1 := blk_cell hG 1 _ rfl
  have g2 := blk_cell hG 2 _ rfl
  cases hf : K.few31 x.nd x.n x.s x.r vn
  · clear hf
    go_wp2_with fail
    go_ret
    exact ⟨rfl, hb⟩
  obtain ⟨hf0, hvs⟩ : K.few30 x.nd x.n x.s x.r = true ∧ K.size31 vn = true := by simpa [K.few31] using hf
  obtain ⟨hf1, hf2, hf3, hf4⟩ := K.few_parts hf0
  have hx : At w x := ⟨hN, hS0, hQ, by omega, by omega, by rw [hQ.1]; omega, fun q hq => by have := hf4 q hq; omega⟩
  have hv20 : vn ≤ 4 ∨ (6 < vn ∧ vn ≤ 20) := by simpa [K.size31] using hvs
  have hvn9 : vn ≤ 1000000000 := by omega
  have HV4 := Lib.hid (show K.ok31 x.nd x.l x.s x.r v = true → v.length ≤ 4 from fun h => by have h1 := (K.ok31_parts h).2.2.2.2.1; have h2 := hV.1; omega)
  clear hf1 hf2 hf3 hf4 hf hf0 hvs hv20
  go_wp2_with fail
  refine (fewBlock_any x sh U un uc LA ln lc _ (hQ.below hb)).mono ?_
  obtain ⟨fb, hfb⟩ : ∃ fb, fb = (K.few31 x.nd x.n x.s x.r un && decide (ln ≤ 60)) := ⟨_, rfl⟩
  rw [← hfb]
  rintro e w6 ⟨rfl, b5⟩
  have hP := hP.below b5
  have hS := hS.below b5
  have hG := blk_below b5 hG
  have hb := bel hb b5
  clear b5 p0 p1 s0 s1 s2 s3 s4 s5 g0 g1 g2
  have p0 := hP.c0
  have p1 := hP.c1
  obtain ⟨s0, s1, s2, s3, s4, s5⟩ := hS.cells
  have g0 := blk_cell hG 0 _ rfl
  have g1 := blk_cell hG 1 _ rfl
  have g2 := blk_cell hG 2 _ rfl
  cases fb
  · clear hfb
    go_wp2_with fail
    go_ret
    exact ⟨rfl, hb⟩
  obtain ⟨hun, hln⟩ : K.few31 x.nd x.n x.s x.r un = true ∧ ln ≤ 60 := by simpa using hfb.symm
  have hun9 : un ≤ 1000000000 := by
    have h2 : K.size31 un = true := by have h := hun; simp only [K.few31, Bool.and_eq_true] at h; exact h.2
    have : un ≤ 4 ∨ (6 < un ∧ un ≤ 20) := by simpa [K.size31] using h2
    omega
  have hln9 : ln ≤ 1000000000 := by omega
  clear hun hln hfb
  go_wp2_with fail
  refine (best_any x V vn vc v _ (hx.below hb) (hV.below hb) hvc hvn9).mono ?_
  rintro e w7 ⟨⟨A0, n0, c0, B0, m0, d0, rfl, i0, j0⟩, b7⟩
  obtain ⟨Y, hY⟩ : ∃ Y, Y = K.bestOut x.nd x.l x.s x.r v := ⟨_, rfl⟩
  rw [← hY] at i0 j0 ⊢
  have HY := Lib.hid hY
  clear hY
  obtain ⟨w8, hw8⟩ : ∃ w8 : World, w8 = w7.alloc (.cells #[.int .i64 0, .slice A0 n0 c0, .slice B0 m0 d0, .int .i64 Y.1.end_] 30) := ⟨_, rfl⟩
  obtain ⟨H0, hH0⟩ : ∃ H0, H0 = w7.heap.size := ⟨_, rfl⟩
  have b78 : Below w7.heap.size w7 w8 := by rw [hw8]; exact (Below.refl _ _).alloc (Nat.le_refl _) _
  have hT : TBlk w8 H0 0 (.slice A0 n0 c0) (.slice B0 m0 d0) Y.1.end_ := by rw [hw8, hH0]; exact heap_alloc_new _ _
  have i0 := i0.below b78
  have j0 := j0.below b78
  have b8 := bel b7 b78
  have hP := hP.below b8
  have hS := hS.below b8
  have hG := blk_below b8 hG
  have hb := bel hb b8
  clear b8 p0 p1 s0 s1 s2 s3 s4 s5 g0 g1 g2 b7 b78
  have p0 := hP.c0
  have p1 := hP.c1
  obtain ⟨s0, s1, s2, s3, s4, s5⟩ := hS.cells
  have g0 := blk_cell hG 0 _ rfl
  have g1 := blk_cell hG 1 _ rfl
  have g2 := blk_cell hG 2 _ rfl
  go_upto_region 5 with fail
  rw [← hw8, ← hH0]
  clear hw8 hH0
  go_wp2_with fail
  refine (best31_any x V vn vc v _ (hx.below hb) (hV.below hb) hvn9 HV4.out).mono ?_
  rw [← HY.out]
  rintro e w9 ⟨⟨A1, n1, c1, B1, m1, d1, rfl, i1, j1⟩, b9⟩
  obtain ⟨wa, hwa⟩ : ∃ wa : World, wa = w9.alloc (.cells #[.int .i64 0, .slice A1 n1 c1, .slice B1 m1 d1, .int .i64 Y.1.end_] 30) := ⟨_, rfl⟩
  obtain ⟨H1, hH1⟩ : ∃ H1, H1 = w9.heap.size := ⟨_, rfl⟩
  have b9a : Below w9.heap.size w9 wa := by rw [hwa]; exact (Below.refl _ _).alloc (Nat.le_refl _) _
  have hU1 : TBlk wa H1 0 (.slice A1 n1 c1) (.slice B1 m1 d1) Y.1.end_ := by rw [hwa, hH1]; exact heap_alloc_new _ _
  have i1 := i1.below b9a
  have j1 := j1.below b9a
  have ba := bel b9 b9a
  have i0 := i0.below ba
  have j0 := j0.below ba
  have hT := hT.below ba
  have hP := hP.below ba
  have hS := hS.below ba
  have hG := blk_below ba hG
  have hb := bel hb ba
  clear ba p0 p1 s0 s1 s2 s3 s4 s5 g0 g1 g2 b9 b9a
  have p0 := hP.c0
  have p1 := hP.c1
  obtain ⟨s0, s1, s2, s3, s4, s5⟩ := hS.cells
  have g0 := blk_cell hG 0 _ rfl
  have g1 := blk_cell hG 1 _ rfl
  have g2 := blk_cell hG 2 _ rfl
  go_upto_region 6 with fail
  rw [← hwa, ← hH1]
  clear hwa hH1
  obtain ⟨t0, t1, t2, t3⟩ := hT.cells
  obtain ⟨u0, u1, u2, u3⟩ := hU1.cells
  have hYs : Y.1.stops.length ≤ 6 ∧ Y.1.times.length ≤ 6 := by rw [HY.out]; exact K.bestOut_len _ _ _ _ _
  have kn0 : n0 ≤ 1000000000 := by rw [i0.1]; omega
  have km0 : m0 ≤ 1000000000 := by rw [j0.1]; omega
  have kn1 : n1 ≤ 1000000000 := by rw [i1.1]; omega
  have km1 : m1 ≤ 1000000000 := by rw [j1.1]; omega
  have hee : (Y.2 != Y.2) = false := by simp
  go_wp2_with fail
  refine (sameTour_any ⟨0, A0, n0, c0, B0, m0, d0, Y.1⟩ ⟨0, A1, n1, c1, B1, m1, d1, Y.1⟩ _ ⟨i0, j0, kn0, km0⟩ ⟨i1, j1, kn1, km1⟩).mono ?_
  rw [show K.same Y.1 Y.1 = true by simp [K.same]]
  rintro e wb ⟨rfl, bb⟩
  have hT := hT.below bb
  clear t0 t1 t2 t3 u0 u1 u2 u3 i0 j0 i1 j1 hU1 kn0 km0 kn1 km1 hYs
  obtain ⟨t0, t1, t2, t3⟩ := hT.cells
  have hP := hP.below bb
  have hS := hS.below bb
  have hG := blk_below bb hG
  have hb := bel hb bb
  clear bb p0 p1 s0 s1 s2 s3 s4 s5 g0 g1 g2
  have p0 := hP.c0
  have p1 := hP.c1
  obtain ⟨s0, s1, s2, s3, s4, s5⟩ := hS.cells
  have g0 := blk_cell hG 0 _ rfl
  have g1 := blk_cell hG 1 _ rfl
  have g2 := blk_cell hG 2 _ rfl
  go_upto_region 8 with fail
  clear t0 t1 t2 t3 hT
  have HP := Lib.hid hP
  have HS := Lib.hid hS
  have HG := Lib.hid hG
  have HB := Lib.hid hb
  clear hP hS hG hb p0 p1 s0 s1 s2 s3 s4 s5 g0 g1 g2
  have hlb : (K.labs x.nd x.l x.s x.r v).length ≤ 1000000000 := by have := K.labs_len x.nd x.l x.s x.r v; omega
  have hmk : ∀ w', Below wb.heap.size wb w' → (fun (w' : World) => w'.cell? ⟨w.heap.size, 0, none⟩ = some (.int .i64 x.nd) ∧ w'.cell? ⟨w.heap.size, 1, none⟩ = some (.slice x.A x.n x.c) ∧ w'.cell? ⟨w.heap.size + 1, 0, none⟩ = some (.int .i64 x.s.day) ∧ w'.cell? ⟨w.heap.size + 1, 1, none⟩ = some (.int .i64 x.s.depot) ∧ w'.cell? ⟨w.heap.size + 1, 2, none⟩ = some (.int .i64 x.s.start) ∧ w'.cell? ⟨w.heap.size + 1, 3, none⟩ = some (.int .i64 x.s.end_) ∧ w'.cell? ⟨w.heap.size + 1, 4, none⟩ = some (.int .i64 x.s.tare) ∧ w'.cell? ⟨w.heap.size + 1, 5, none⟩ = some (.slice x.s.A x.s.n x.s.c) ∧ w'.cell? ⟨w.heap.size + 1 + 1, 0, none⟩ = some (.int .i64 sh) ∧ w'.cell? ⟨w.heap.size + 1 + 1, 1, none⟩ = some (.slice U un uc) ∧ w'.cell? ⟨w.heap.size + 1 + 1, 2, none⟩ = some (.slice LA ln lc)) w' := fun w' h => ⟨(HP.out.below h).c0, (HP.out.below h).c1, (HS.out.below h).cells.1, (HS.out.below h).cells.2.1, (HS.out.below h).cells.2.2.1, (HS.out.below h).cells.2.2.2.1, (HS.out.below h).cells.2.2.2.2.1, (HS.out.below h).cells.2.2.2.2.2, blk_cell (blk_below h HG.out) 0 _ rfl, blk_cell (blk_below h HG.out) 1 _ rfl, blk_cell (blk_below h HG.out) 2 _ rfl⟩
  have hbd : Below wb.heap.size wb wb.drew := (Below.refl _ _).drew
  have S0 := hmk _ (Below.refl _ _)
  have S0d := hmk _ hbd
  obtain ⟨lbs, hlbs⟩ : ∃ lbs, lbs = K.labs x.nd x.l x.s x.r v := ⟨_, rfl⟩
  rw [← hlbs] at hlb
  have HLBS := Lib.hid hlbs
  obtain ⟨zb, hzb⟩ : ∃ zb, zb = K.blocks x.nd x.l x.s x.r u lb := ⟨_, rfl⟩
  have HZB := Lib.hid hzb
  have hzz : (zb == zb) = true := by simp
  clear hlbs hzb
  go_region_held3 (fun (w' : World) => w'.cell? ⟨w.heap.size, 0, none⟩ = some (.int .i64 x.nd) ∧ w'.cell? ⟨w.heap.size, 1, none⟩ = some (.slice x.A x.n x.c) ∧ w'.cell? ⟨w.heap.size + 1, 0, none⟩ = some (.int .i64 x.s.day) ∧ w'.cell? ⟨w.heap.size + 1, 1, none⟩ = some (.int .i64 x.s.depot) ∧ w'.cell? ⟨w.heap.size + 1, 2, none⟩ = some (.int .i64 x.s.start) ∧ w'.cell? ⟨w.heap.size + 1, 3, none⟩ = some (.int .i64 x.s.end_) ∧ w'.cell? ⟨w.heap.size + 1, 4, none⟩ = some (.int .i64 x.s.tare) ∧ w'.cell? ⟨w.heap.size + 1, 5, none⟩ = some (.slice x.s.A x.s.n x.s.c) ∧ w'.cell? ⟨w.heap.size + 1 + 1, 0, none⟩ = some (.int .i64 sh) ∧ w'.cell? ⟨w.heap.size + 1 + 1, 1, none⟩ = some (.slice U un uc) ∧ w'.cell? ⟨w.heap.size + 1 + 1, 2, none⟩ = some (.slice LA ln lc))
      (first | with_reducible exact S5 | with_reducible exact S4 | with_reducible exact S3 | with_reducible exact S2 | with_reducible exact S1 | with_reducible exact S0d | with_reducible exact S0 | fail)
      (first
        | (go_at_call 30; refine (labels30_any x V vn vc v _ (hx.below (bel HB.out hbd)) (hV.below (bel HB.out hbd)) hvc hvn9).mono ?_; rw [← HLBS.out]; rintro e wc ⟨⟨LA1, ln1, lc1, rfl, hL1⟩, bc⟩; have bc2 := bel hbd bc; have S1 := hmk _ bc2; have hll1 : ln1 ≤ 1000000000 := by (rw [hL1.1]; exact hlb))
        | (go_at_call 31; refine (labels31_any x V vn vc v _ (hx.below (bel HB.out bc2)) (hV.below (bel HB.out bc2)) hvn9).mono ?_; rw [← HLBS.out]; rintro e wd ⟨⟨LA2, ln2, lc2, rfl, hL2⟩, bd⟩; have bd2 := bel bc2 bd; have S2 := hmk _ bd2; have hL1d := Lst.below hL1 bd; have hll2 : ln2 ≤ 1000000000 := by (rw [hL2.1]; exact hlb))
        | (go_at_call 29; refine (samelab_any LA1 LA2 ln1 ln2 lc1 lc2 lbs lbs _ hL1d hL2 hll1 hll2).mono ?_; rintro e we ⟨rfl, be⟩; have be2 := bel bd2 be; have S3 := hmk _ be2)
        | (go_at_call 32; refine (blocks_any x sh U un uc u LA ln lc lb _ (hx.below (bel HB.out be2)) (hU.below (bel HB.out be2)) huc hun9 (Lst.below hL (bel HB.out be2)) hln9).mono ?_; rw [← HZB.out]; rintro e wf ⟨rfl, bf⟩; have bf2 := bel be2 bf; have S4 := hmk _ bf2)
        | (go_at_call 33; refine (blocks31_any x sh U un uc u LA ln lc lb _ (hx.below (bel HB.out bf2)) (hU.below (bel HB.out bf2)) hun9 (Lst.below hL (bel HB.out bf2)) hln9).mono ?_; rw [← HZB.out]; rintro e wg ⟨rfl, bg⟩; have bg2 := bel bf2 bg; have S5 := hmk _ bg2)
        | fail)
  go_wp2_with fail
  go_ret
  exact ⟨by simp, bel HB.out bg2⟩
end Go.Proofs.Ytjcdpfpdjcannaa
