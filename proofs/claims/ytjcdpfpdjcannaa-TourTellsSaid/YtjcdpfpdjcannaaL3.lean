/-
The walk of the law TourTells, and the reference's check.
-/
import Derived.Test.YtjcdpfpdjcannaaN9
namespace Go.Proofs.Ytjcdpfpdjcannaa
open Go.RowKit

set_option maxRecDepth 100000 in
set_option maxHeartbeats 8000000 in
theorem rtcheck_any (x : C) (y : TV) (w : World) (hx : At w x) (hy : TVAt w y) (hn : y.n ≤ 100000) (hyc : y.n ≤ y.c) :
    Calls Try.prog 20 #[.agg #[.int .i64 x.nd, .slice x.A x.n x.c], .agg #[.int .i64 x.s.day, .int .i64 x.s.depot, .int .i64 x.s.start, .int .i64 x.s.end_, .int .i64 x.s.tare, .slice x.s.A x.s.n x.s.c], .slice x.B x.m x.d, .agg #[.int .i64 y.sh, .slice y.A y.n y.c, .slice y.A' y.n' y.c', .int .i64 y.t.end_]] w fun e w' => e = .returned (.bool (K.check x.nd x.l x.s x.r y.t)) ∧ Below w.heap.size w w' := by
  obtain ⟨w1, hw1⟩ : ∃ w1 : World, w1 = w.alloc (.cells #[.int .i64 x.nd, .slice x.A x.n x.c] 24) := ⟨_, rfl⟩
  obtain ⟨w2, hw2⟩ : ∃ w2 : World, w2 = w1.alloc (.cells #[.int .i64 x.s.day, .int .i64 x.s.depot, .int .i64 x.s.start, .int .i64 x.s.end_, .int .i64 x.s.tare, .slice x.s.A x.s.n x.s.c] 27) := ⟨_, rfl⟩
  obtain ⟨w3, hw3⟩ : ∃ w3 : World, w3 = w2.alloc (.cells #[.int .i64 y.sh, .slice y.A y.n y.c, .slice y.A' y.n' y.c', .int .i64 y.t.end_] 30) := ⟨_, rfl⟩
  have z1 : w1.heap.size = w.heap.size + 1 := by rw [hw1]; exact World.size_alloc _ _
  have z2 : w2.heap.size = w.heap.size + 1 + 1 := by rw [hw2, World.size_alloc, z1]
  have b01 : Below w.heap.size w w1 := by rw [hw1]; exact (Below.refl _ _).alloc (Nat.le_refl _) _
  have b12 : Below w1.heap.size w1 w2 := by rw [hw2]; exact (Below.refl _ _).alloc (Nat.le_refl _) _
  have b23 : Below w2.heap.size w2 w3 := by rw [hw3]; exact (Below.refl _ _).alloc (Nat.le_refl _) _
  have hP : Net w3 w.heap.size x.nd x.A x.n x.c := by
    have h1 : Net w1 w.heap.size x.nd x.A x.n x.c := by rw [hw1]; exact Net.new _ _ _ _ _
    exact (h1.below b12).below b23
  have hS : Shf w3 (w.heap.size + 1) x.s := by
    have h1 : Shf w2 (w.heap.size + 1) x.s := by rw [← z1, hw2]; exact Shf.new _ _
    exact h1.below b23
  have hT : TBlk w3 (w.heap.size + 1 + 1) y.sh (.slice y.A y.n y.c) (.slice y.A' y.n' y.c') y.t.end_ := by rw [← z2, hw3]; exact heap_alloc_new _ _
  have b3 := bel (bel b01 b12) b23
  have p0 := hP.c0
  have p1 := hP.c1
  obtain ⟨s0, s1, s2, s3, s4, s5⟩ := hS.cells
  obtain ⟨t0, t1, t2, t3⟩ := hT.cells
  rw [hw3, hw2, hw1] at p0 p1 s0 s1 s2 s3 s4 s5 t0 t1 t2 t3
  go_enter Try.func20, Try.ntmps20
  go_wp2_with fail
  rw [← hw1, ← hw2, ← hw3]
  clear hw1 hw2 hw3 z1 z2 b01 b12 b23 p0 p1 s0 s1 s2 s3 s4 s5 t0 t1 t2 t3
  refine (rrun_any x y.A y.n y.c y.t.stops _ (hx.below b3) (hy.below b3).stops hyc hn).mono ?_
  rintro e w4 ⟨⟨A1, n1, c1, A2, n2, c2, rfl, hI1, hI2, -⟩, b34⟩
  have hlen := K.run_len x.nd x.l x.s x.r y.t.stops
  obtain ⟨R, hR⟩ : ∃ R, R = K.run x.nd x.l x.s x.r y.t.stops := ⟨_, rfl⟩
  rw [← hR] at hI1 hI2 hlen ⊢
  have HR := Lib.hid (show K.check x.nd x.l x.s x.r y.t = ((R.e == 0) && (decide (R.tour.times = y.t.times) && (R.tour.end_ == y.t.end_))) by rw [hR]; rfl)
  have hn1 : n1 ≤ 1000000000 := by rw [hI1.1]; have := hlen.1; have := hy.stops.1; omega
  have hn2 : n2 ≤ 1000000000 := by rw [hI2.1]; have := hlen.2; have := hy.stops.1; omega
  have HRR := Lib.hid hR
  clear hR hlen
  have hT := hT.below b34
  have hb := bel b3 b34
  have ba : Below w4.heap.size w4 (w4.alloc (.cells #[.int .i64 0, .slice A1 n1 c1, .slice A2 n2 c2, .int .i64 R.tour.end_] 30)) := (Below.refl _ _).alloc (Nat.le_refl _) _
  have hT2 : TBlk (w4.alloc (.cells #[.int .i64 0, .slice A1 n1 c1, .slice A2 n2 c2, .int .i64 R.tour.end_] 30)) w4.heap.size 0 (.slice A1 n1 c1) (.slice A2 n2 c2) R.tour.end_ := heap_alloc_new _ _
  have hT1 := hT.below ba
  obtain ⟨w5, hw5⟩ : ∃ w5 : World, w5 = w4.alloc (.cells #[.int .i64 0, .slice A1 n1 c1, .slice A2 n2 c2, .int .i64 R.tour.end_] 30) := ⟨_, rfl⟩
  obtain ⟨q0, q1, q2, q3⟩ := hT1.cells
  obtain ⟨r0, r1, r2, r3⟩ := hT2.cells
  cases k0 : (R.e == 0)
  · have HX := Lib.hid (show K.check x.nd x.l x.s x.r y.t = false by rw [HR.out, k0]; rfl)
    clear hw5
    go_wp2_with fail
    go_ret
    exact ⟨ret_b HX.out.symm, bel hb ba⟩
  have HX := Lib.hid (show K.check x.nd x.l x.s x.r y.t = K.same R.tour y.t by
    have hst : R.tour.stops = y.t.stops := by
      have h0 : (K.run x.nd x.l x.s x.r y.t.stops).e = 0 := by rw [← HRR.out]; simpa using k0
      rw [HRR.out, (K.run_ok h0).2.2.2]
    rw [HR.out, k0]
    simp [K.same, hst])
  rw [← hw5] at ba hT1 hT2
  have hb5 := bel hb ba
  have hI15 := hI1.below ba
  have hI25 := hI2.below ba
  go_wp2_with fail
  rw [← hw5]
  clear hw5 q0 q1 q2 q3 r0 r1 r2 r3 k0 HR
  refine (sameTour_any ⟨0, A1, n1, c1, A2, n2, c2, R.tour⟩ y _ ⟨hI15, hI25, hn1, hn2⟩ (hy.below hb5)).mono ?_
  rintro e w6 ⟨rfl, b56⟩
  have hb6 := bel hb5 b56
  go_wp2_with fail
  go_ret
  exact ⟨ret_b HX.out.symm, hb6⟩


set_option maxRecDepth 100000 in
set_option maxHeartbeats 16000000 in
theorem tells_any (x : C) (V : Option Addr) (vn vc : Nat) (o : List Int) (y : TV) (w : World) (hN : Roads w x.A x.n x.l) (hS0 : Ints w x.s.A x.s.n x.s.l) (hQ : Reqs w x.B x.m x.r) (hV : Ints w V vn o) (hvc : vn ≤ vc) (hY1 : Ints w y.A y.n y.t.stops) (hY2 : Ints w y.A' y.n' y.t.times) (hyc : y.n ≤ y.c) :
    Calls Try.prog 3 #[.agg #[.int .i64 x.nd, .slice x.A x.n x.c], .agg #[.int .i64 x.s.day, .int .i64 x.s.depot, .int .i64 x.s.start, .int .i64 x.s.end_, .int .i64 x.s.tare, .slice x.s.A x.s.n x.s.c], .slice x.B x.m x.d, .slice V vn vc, .agg #[.int .i64 y.sh, .slice y.A y.n y.c, .slice y.A' y.n' y.c', .int .i64 y.t.end_]] w fun e w' => e = .returned (.bool true) ∧ Below w.heap.size w w' := by
  obtain ⟨w1, hw1⟩ : ∃ w1 : World, w1 = w.alloc (.cells #[.int .i64 x.nd, .slice x.A x.n x.c] 24) := ⟨_, rfl⟩
  obtain ⟨w2, hw2⟩ : ∃ w2 : World, w2 = w1.alloc (.cells #[.int .i64 x.s.day, .int .i64 x.s.depot, .int .i64 x.s.start, .int .i64 x.s.end_, .int .i64 x.s.tare, .slice x.s.A x.s.n x.s.c] 27) := ⟨_, rfl⟩
  obtain ⟨w3, hw3⟩ : ∃ w3 : World, w3 = w2.alloc (.cells #[.int .i64 y.sh, .slice y.A y.n y.c, .slice y.A' y.n' y.c', .int .i64 y.t.end_] 30) := ⟨_, rfl⟩
  have z1 : w1.heap.size = w.heap.size + 1 := by rw [hw1]; exact World.size_alloc _ _
  have z2 : w2.heap.size = w.heap.size + 1 + 1 := by rw [hw2, World.size_alloc, z1]
  have b01 : Below w.heap.size w w1 := by rw [hw1]; exact (Below.refl _ _).alloc (Nat.le_refl _) _
  have b12 : Below w1.heap.size w1 w2 := by rw [hw2]; exact (Below.refl _ _).alloc (Nat.le_refl _) _
  have b23 : Below w2.heap.size w2 w3 := by rw [hw3]; exact (Below.refl _ _).alloc (Nat.le_refl _) _
  have hP : Net w3 w.heap.size x.nd x.A x.n x.c := by
    have h1 : Net w1 w.heap.size x.nd x.A x.n x.c := by rw [hw1]; exact Net.new _ _ _ _ _
    exact (h1.below b12).below b23
  have hS : Shf w3 (w.heap.size + 1) x.s := by
    have h1 : Shf w2 (w.heap.size + 1) x.s := by rw [← z1, hw2]; exact Shf.new _ _
    exact h1.below b23
  have hT : TBlk w3 (w.heap.size + 1 + 1) y.sh (.slice y.A y.n y.c) (.slice y.A' y.n' y.c') y.t.end_ := by rw [← z2, hw3]; exact heap_alloc_new _ _
  have hb := bel (bel b01 b12) b23
  go_enter Try.func3, Try.ntmps3
  go_wp2_with fail
  rw [← hw1, ← hw2, ← hw3]
  clear hw1 hw2 hw3 z1 z2 b01 b12 b23
  refine (small_any _).mono ?_
  rintro e w4 ⟨rfl, b3⟩
  have hP := hP.below b3
  have hS := hS.below b3
  have hT := hT.below b3
  have hb := bel hb b3
  clear b3
  have p0 := hP.c0
  have p1 := hP.c1
  obtain ⟨s0, s1, s2, s3, s4, s5⟩ := hS.cells
  go_wp2_with fail
  refine (few30_any x _ (hQ.below hb)).mono ?_
  rintro e w5 ⟨rfl, b4⟩
  have hP := hP.below b4
  have hS := hS.below b4
  have hT := hT.below b4
  have hb := bel hb b4
  clear b4 p0 p1 s0 s1 s2 s3 s4 s5
  have p0 := hP.c0
  have p1 := hP.c1
  obtain ⟨s0, s1, s2, s3, s4, s5⟩ := hS.cells
  obtain ⟨t0, t1, t2, t3⟩ := hT.cells
  cases hf : K.few30 x.nd x.n x.s x.r
  · clear hf
    go_wp2_with fail
    go_ret
    exact ⟨rfl, hb⟩
  obtain ⟨hf1, hf2, hf3, hf4⟩ := K.few_parts hf
  have hx : At w x := ⟨hN, hS0, hQ, by omega, by omega, by rw [hQ.1]; omega, fun q hq => by have := hf4 q hq; omega⟩
  clear hf1 hf2 hf3 hf4 hf
  cases c1 : decide ((10 : Int) < (vn : Int))
  rotate_left
  · go_wp2_with fail
    go_ret
    exact ⟨rfl, hb⟩
  cases c2 : decide ((10 : Int) < (y.n : Int))
  rotate_left
  · go_wp2_with fail
    go_ret
    exact ⟨rfl, hb⟩
  cases c3 : decide ((10 : Int) < (y.n' : Int))
  rotate_left
  · go_wp2_with fail
    go_ret
    exact ⟨rfl, hb⟩
  have h10 : vn ≤ 10 := by simp at c1; omega
  have h11 : y.n ≤ 10 := by simp at c2; omega
  have h12 : y.n' ≤ 10 := by simp at c3; omega
  have hlen := K.run_len x.nd x.l x.s x.r o
  have hy : TVAt w y := ⟨hY1, hY2, by omega, by omega⟩
  go_wp2_with fail
  refine (run_any x V vn vc o _ (hx.below hb) (hV.below hb) (by omega)).mono ?_
  rintro e w6 ⟨⟨A1, n1, d1, A2, n2, d2, rfl, hI1, hI2, -⟩, b6⟩
  have hP := hP.below b6
  have hS := hS.below b6
  have hT := hT.below b6
  have hb := bel hb b6
  clear b6 p0 p1 s0 s1 s2 s3 s4 s5 t0 t1 t2 t3 c1 c2 c3
  obtain ⟨R, hR⟩ : ∃ R, R = K.run x.nd x.l x.s x.r o := ⟨_, rfl⟩
  rw [← hR] at hI1 hI2 hlen ⊢
  have HR := Lib.hid hR
  clear hR
  obtain ⟨w7, hw7⟩ : ∃ w7 : World, w7 = w6.alloc (.cells #[.int .i64 0, .slice A1 n1 d1, .slice A2 n2 d2, .int .i64 R.tour.end_] 30) := ⟨_, rfl⟩
  have b7 : Below w6.heap.size w6 w7 := by rw [hw7]; exact (Below.refl _ _).alloc (Nat.le_refl _) _
  have hA : TBlk w7 w6.heap.size 0 (.slice A1 n1 d1) (.slice A2 n2 d2) R.tour.end_ := by rw [hw7]; exact heap_alloc_new _ _
  have hP := hP.below b7
  have hS := hS.below b7
  have hT := hT.below b7
  have hb := bel hb b7
  have hI1 := hI1.below b7
  have hI2 := hI2.below b7
  clear b7
  have p0 := hP.c0
  have p1 := hP.c1
  obtain ⟨s0, s1, s2, s3, s4, s5⟩ := hS.cells
  rw [hw7] at p0 p1 s0 s1 s2 s3 s4 s5
  go_wp2_with fail
  rw [← hw7]
  clear hw7 p0 p1 s0 s1 s2 s3 s4 s5
  refine (rrun_any x V vn vc o _ (hx.below hb) (hV.below hb) hvc (by omega)).mono ?_
  rintro e w8 ⟨⟨A3, n3, d3, A4, n4, d4, rfl, hI3, hI4, -⟩, b8⟩
  rw [← HR.out] at hI3 hI4 ⊢
  have hP := hP.below b8
  have hS := hS.below b8
  have hT := hT.below b8
  have hA := hA.below b8
  have hb := bel hb b8
  have hI1 := hI1.below b8
  have hI2 := hI2.below b8
  clear b8
  obtain ⟨w9, hw9⟩ : ∃ w9 : World, w9 = w8.alloc (.cells #[.int .i64 0, .slice A3 n3 d3, .slice A4 n4 d4, .int .i64 R.tour.end_] 30) := ⟨_, rfl⟩
  have b9 : Below w8.heap.size w8 w9 := by rw [hw9]; exact (Below.refl _ _).alloc (Nat.le_refl _) _
  have hB : TBlk w9 w8.heap.size 0 (.slice A3 n3 d3) (.slice A4 n4 d4) R.tour.end_ := by rw [hw9]; exact heap_alloc_new _ _
  have hP := hP.below b9
  have hS := hS.below b9
  have hT := hT.below b9
  have hA := hA.below b9
  have hb := bel hb b9
  have hI1 := hI1.below b9
  have hI2 := hI2.below b9
  have hI3 := hI3.below b9
  have hI4 := hI4.below b9
  clear b9
  have m1 : n1 ≤ 1000000000 := by rw [hI1.1]; have := hlen.1; have := hV.1; omega
  have m2 : n2 ≤ 1000000000 := by rw [hI2.1]; have := hlen.2; have := hV.1; omega
  have m3 : n3 ≤ 1000000000 := by rw [hI3.1]; have := hlen.1; have := hV.1; omega
  have m4 : n4 ≤ 1000000000 := by rw [hI4.1]; have := hlen.2; have := hV.1; omega
  go_wp2_with fail
  rw [← hw9]
  clear hw9 hlen
  have hxb := hx.below hb
  have hyb := hy.below hb
  obtain ⟨ck, hck⟩ : ∃ ck, ck = K.check x.nd x.l x.s x.r y.t := ⟨_, rfl⟩
  have hss : K.same R.tour R.tour = true := by simp [K.same]
  have CS := fun i : Beh w9 => sameTour_any ⟨0, A1, n1, d1, A2, n2, d2, R.tour⟩ ⟨0, A3, n3, d3, A4, n4, d4, R.tour⟩ i.val (TVAt.below ⟨hI1, hI2, m1, m2⟩ i.property) (TVAt.below ⟨hI3, hI4, m3, m4⟩ i.property)
  have CC := fun i : Beh w9 => tcheck_any x y i.val (hxb.below i.property) (hyb.below i.property) (by omega)
  have CD := fun i : Beh w9 => rtcheck_any x y i.val (hxb.below i.property) (hyb.below i.property) (by omega) hyc
  simp only [hss] at CS
  simp only [← hck] at CC CD
  clear hck hss
  obtain ⟨s0, s1, s2, s3, s4, s5⟩ := hS.cells
  obtain ⟨t0, t1, t2, t3⟩ := hT.cells
  obtain ⟨a0, a1, a2, a3⟩ := hA.cells
  obtain ⟨b0, b1, b2, b3⟩ := hB.cells
  have g0 := Beh.cell hP.c0
  have g1 := Beh.cell hP.c1
  have f0 := Beh.cell s0
  have f1 := Beh.cell s1
  have f2 := Beh.cell s2
  have f3 := Beh.cell s3
  have f4 := Beh.cell s4
  have f5 := Beh.cell s5
  have k0 := Beh.cell t0
  have k1 := Beh.cell t1
  have k2 := Beh.cell t2
  have k3 := Beh.cell t3
  have l0 := Beh.cell a0
  have l1 := Beh.cell a1
  have l2 := Beh.cell a2
  have l3 := Beh.cell a3
  have n0 := Beh.cell b0
  have n1' := Beh.cell b1
  have n2' := Beh.cell b2
  have n3' := Beh.cell b3
  have e1 : (R.e == R.e) = true := by simp
  have e2 : ((R.n : Int) == (R.n : Int)) = true := by simp
  have e3 : (ck == ck) = true := by simp
  clear s0 s1 s2 s3 s4 s5 t0 t1 t2 t3 a0 a1 a2 a3 b0 b1 b2 b3
  refine reg_beh (by kernel_rfl) (by kernel_rfl) ?_
  repeat (go_big_quiet_step ((first | (go_at_call 18; exact Beh.calls (CS _)) | (go_at_call 19; exact Beh.calls (CC _)) | (go_at_call 20; exact Beh.calls (CD _)))))
  refine wpQuiet_nil ?_
  rintro wa ⟨⟨_, ba⟩, rfl⟩
  go_wp2_with fail
  go_ret
  exact ⟨rfl, bel hb ba⟩
end Go.Proofs.Ytjcdpfpdjcannaa
