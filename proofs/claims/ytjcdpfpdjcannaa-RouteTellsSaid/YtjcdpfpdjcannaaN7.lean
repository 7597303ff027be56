/-
The reference's contracts for tours: right rounds, and ways.
-/
import Derived.Test.YtjcdpfpdjcannaaL5
namespace Go.Proofs.Ytjcdpfpdjcannaa
open Go.RowKit

set_option maxRecDepth 100000 in
set_option maxHeartbeats 8000000 in
theorem rright30_any (x : C) (V : Option Addr) (vn vc : Nat) (v : List Int) (w : World) (hx : At w x) (hV : Ints w V vn v) (hvn : vn ≤ 1000000000) :
    Calls Try.prog 49 #[.agg #[.int .i64 x.nd, .slice x.A x.n x.c], .agg #[.int .i64 x.s.day, .int .i64 x.s.depot, .int .i64 x.s.start, .int .i64 x.s.end_, .int .i64 x.s.tare, .slice x.s.A x.s.n x.s.c], .slice x.B x.m x.d, .slice V vn vc] w fun e w' => e = .returned (.bool (K.right x.nd x.l x.s x.r v)) ∧ Below w.heap.size w w' := by
  have b0 := ((Below.refl w.heap.size w).alloc (Nat.le_refl _) (.cells #[.int .i64 x.nd, .slice x.A x.n x.c] 24)).alloc (by rw [World.size_alloc]; omega) (.cells #[.int .i64 x.s.day, .int .i64 x.s.depot, .int .i64 x.s.start, .int .i64 x.s.end_, .int .i64 x.s.tare, .slice x.s.A x.s.n x.s.c] 27)
  have SZ := World.size_alloc w (.cells #[.int .i64 x.nd, .slice x.A x.n x.c] 24)
  have hP := (Net.new w x.nd x.A x.n x.c).below ((Below.refl _ _).alloc (Nat.le_refl _) (.cells #[.int .i64 x.s.day, .int .i64 x.s.depot, .int .i64 x.s.start, .int .i64 x.s.end_, .int .i64 x.s.tare, .slice x.s.A x.s.n x.s.c] 27))
  have hS := Shf.new (w.alloc (.cells #[.int .i64 x.nd, .slice x.A x.n x.c] 24)) x.s
  rw [SZ] at hS
  have p0 := hP.c0
  have p1 := hP.c1
  go_enter Try.func49, Try.ntmps49
  go_wp2_with fail
  obtain ⟨w0, hw0⟩ : ∃ w0 : World, w0 = (w.alloc (.cells #[.int .i64 x.nd, .slice x.A x.n x.c] 24)).alloc (.cells #[.int .i64 x.s.day, .int .i64 x.s.depot, .int .i64 x.s.start, .int .i64 x.s.end_, .int .i64 x.s.tare, .slice x.s.A x.s.n x.s.c] 27) := ⟨_, rfl⟩
  rw [← hw0] at b0 hP hS ⊢
  clear hw0 p0 p1 SZ
  refine (rnetcheck_any x.nd x.A x.n x.c x.l _ (Lst.below hx.net b0) hx.b1).mono ?_
  rintro e w1 ⟨rfl, b1⟩
  have hP := hP.below b1
  have hS := hS.below b1
  have hb := bel b0 b1
  clear b0 b1
  have p0 := hP.c0
  have p1 := hP.c1
  obtain ⟨s0, s1, s2, s3, s4, s5⟩ := hS.cells
  cases h1 : (K.netErr x.nd x.l == 0)
  · have HX := Lib.hid (show K.right x.nd x.l x.s x.r v = false by simp [K.right, h1])
    have h1' : (K.netErr x.nd x.l != 0) = true := by simp [bne, h1]
    clear h1
    go_wp2_with fail
    go_ret
    exact ⟨ret_b HX.out.symm, hb⟩
  have h1' : (K.netErr x.nd x.l != 0) = false := by simp [bne, h1]
  have HE := Lib.hid h1
  clear h1
  go_wp2_with fail
  refine (load_any x.s x.B x.m x.d x.r V vn vc v _ (hx.below hb).rooms hx.b2 (hx.below hb).reqs hx.b3 hx.b4 (hV.below hb) hvn).mono ?_
  rintro e w2 ⟨rfl, b2⟩
  have hP := hP.below b2
  have hS := hS.below b2
  have hb := bel hb b2
  clear b2 p0 p1 s0 s1 s2 s3 s4 s5
  have p0 := hP.c0
  have p1 := hP.c1
  obtain ⟨s0, s1, s2, s3, s4, s5⟩ := hS.cells
  cases h2 : T.load x.s x.r v
  · have HX := Lib.hid (show K.right x.nd x.l x.s x.r v = false by simp [K.right, h2])
    clear h2
    go_wp2_with fail
    go_ret
    exact ⟨ret_b HX.out.symm, hb⟩
  have HL := Lib.hid h2
  clear h2
  by_cases h3 : x.s.depot < x.nd
  · have HX := Lib.hid (show K.right x.nd x.l x.s x.r v = v.all fun i => decide ((K.req x.r i).node < x.nd) by simp only [K.right]; rw [HE.out, HL.out]; simp [h3])
    have hset := Lib.hid (T.isSetFrom_mem (T.load_parts HL.out).2.1)
    go_wp2_with fail
    go_loopw [9] (fun vi wr => ∃ k : Nat, vi = .int .i64 k ∧ k ≤ vn ∧ Hid (K.right x.nd x.l x.s x.r v = (v.drop k).all fun i => decide ((K.req x.r i).node < x.nd)) ∧ Below w2.heap.size w2 wr) (fun vi _ => vn - (intOf vi).toNat)
    case atStart => exact ⟨0, rfl, by omega, HX.out, Below.refl _ _⟩
    case round =>
      obtain ⟨k, rfl, hk, hr, hbr⟩ := hrel
      by_cases hlt : k < vn
      · obtain ⟨adv, i, rfl, hi, ci⟩ := (hV.below (bel hb hbr)).at_ hlt
        have HS := Lib.hid (K.all_drop (nd := x.nd) (r := x.r) hi)
        obtain ⟨hi0, hi1⟩ := hset.out i (List.mem_of_getElem? hi)
        obtain ⟨j, rfl⟩ : ∃ j : Nat, i = (j : Int) := ⟨i.toNat, by omega⟩
        have hjm : j < x.m := by rw [hx.reqs.1]; omega
        obtain ⟨ad, q, hB, hgq, hwq, e0, e1, e2, e3, e4, e5, e6⟩ := (hx.reqs.below (bel hb hbr)).at_ hjm
        have HRQ := Lib.hid (K.req_get hgq)
        have hP3 := hP.below hbr
        have p0 := hP3.c0
        have j0 : (0 : Int) ≤ (j : Int) := by omega
        have j1 : (j : Int) < (x.m : Int) := by omega
        clear hi hgq
        by_cases hn : q.node < x.nd
        · have HN := Lib.hid (show K.right x.nd x.l x.s x.r v = (v.drop (k + 1)).all fun i => decide ((K.req x.r i).node < x.nd) by rw [hr.out, HS.out, HRQ.out]; simp [hn])
          rw [hB]
          go_wp2_with fail
          go_quiet (fail)
          go_wp2_with fail
          go_roundw
          case rel => exact ⟨k + 1, by go_num, by omega, HN.out, below_drewN hbr _⟩
          case measure => simp [intOf]; omega
        · have HN := Lib.hid (show K.right x.nd x.l x.s x.r v = false by rw [hr.out, HS.out, HRQ.out]; simp [hn])
          rw [hB]
          go_wp2_with fail
          go_quiet (fail)
          go_wp2_with fail
          go_ret
          exact ⟨ret_b HN.out.symm, below_drewN (bel hb hbr) _⟩
      · have HN := Lib.hid (show K.right x.nd x.l x.s x.r v = true by rw [hr.out, List.drop_eq_nil_of_le (by rw [← hV.1]; omega)]; rfl)
        go_wp2_with fail
        go_ret
        exact ⟨ret_b HN.out.symm, bel hb hbr⟩
  · have HX := Lib.hid (show K.right x.nd x.l x.s x.r v = false by simp [K.right, h3])
    go_wp2_with fail
    go_ret
    exact ⟨ret_b HX.out.symm, hb⟩

set_option maxRecDepth 100000 in
set_option maxHeartbeats 4000000 in
theorem rway_any (nd : Int) (A : Option Addr) (n c : Nat) (l : List Ro) (a : Int) (v : Nat) (k : Int) (w : World) (hl : Roads w A n l) (hn : n ≤ 1000000000) (hne : K.netErr nd l = 0) (ha : 0 ≤ a ∧ a < nd) (hv : (v : Int) < nd) :
    Calls Try.prog 51 #[.agg #[.int .i64 nd, .slice A n c], .int .i64 a, .int .i64 v, .int .i64 k] w fun e w' => e = .returned (.int .i64 (K.way nd l a k v)) ∧ Below w.heap.size w w' := by
  have b0 := (Below.refl w.heap.size w).alloc (Nat.le_refl _) (.cells #[.int .i64 nd, .slice A n c] 24)
  have hP := Net.new w nd A n c
  have p0 := hP.c0
  have p1 := hP.c1
  go_enter Try.func51, Try.ntmps51
  go_wp2_with fail
  refine (rtimes_any nd A n c l a k _ (Lst.below hl b0) hn).mono ?_
  rintro e w1 ⟨⟨A1, n1, c1, rfl, hI⟩, b1⟩
  have hlen := K.times_len (k := k) hne ha
  obtain ⟨ad, y, rfl, hy, cy⟩ := hI.at_ (k := v) (by rw [hI.1, hlen]; omega)
  have hwy : K.way nd l a k v = y := by unfold K.way; rw [G.at_get hy]
  have k0 : (0 : Int) ≤ (v : Int) := by omega
  have k1 : (v : Int) < (n1 : Int) := by rw [hI.1, hlen]; omega
  have HW := Lib.hid hwy
  clear hlen hy hwy hI p0 p1
  go_wp2_with fail
  go_ret
  exact ⟨by rw [HW.out]; rfl, bel b0 b1⟩
end Go.Proofs.Ytjcdpfpdjcannaa
