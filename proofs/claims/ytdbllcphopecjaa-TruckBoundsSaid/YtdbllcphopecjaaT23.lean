/-
The walk of small: the examples of Truck.
-/
import Derived.Test.YtdbllcphopecjaaT22
import Derived.Test.YtdbllcphopecjaaT5
namespace Go.Proofs.Ytdbllcphopecjaa
open Go.RowKit Go.Maps
theorem T.e1 (A : Option Addr) (c : Nat) : T.load (T.s0 A c) T.r0 [2, 0] = true := by kernel_rfl
theorem T.e2 (A : Option Addr) (c : Nat) : T.check (T.s0 A c) = 0 := by kernel_rfl
theorem T.e3 (A : Option Addr) (c : Nat) : T.weight (T.s0 A c) T.r0 [2, 0] = 10900 := by kernel_rfl
theorem T.e4 (A : Option Addr) (c : Nat) : T.fits (T.s0 A c) T.r0 [0, 2] = true := by kernel_rfl
theorem T.e5 (A : Option Addr) (c : Nat) : T.fits (T.s0 A c) T.r0 [0, 1] = false := by kernel_rfl
theorem T.e6 (A : Option Addr) (c : Nat) : T.fits (T.s0 A c) T.r0 [3] = false := by kernel_rfl
theorem T.e7 (A : Option Addr) (c : Nat) : T.weight (T.s0 A c) T.r0 [] = 8000 := by kernel_rfl
theorem T.e8 (A : Option Addr) (c : Nat) : T.weight (T.s0 A c) T.r0 [0, 0] = -1 := by kernel_rfl
theorem T.e9 : T.right (T.q0 0 2000) = true := by kernel_rfl
theorem T.e10 : T.right (T.q0 0 0) = false := by kernel_rfl
theorem T.e11 : T.loads T.r0 [2, 0] = [2000, 900, 0] := by kernel_rfl
theorem T.e12 : decide (([2000, 900, 0] : List Int) = [2000, 900, 0]) = true := by kernel_rfl
theorem ints_nil (w : World) : Ints w none 0 [] := ⟨rfl, rfl, fun h => absurd h (by omega)⟩

set_option maxRecDepth 100000 in
set_option maxHeartbeats 40000000 in
theorem tsmall_any (w : World) : Calls Try.prog 11 #[] w fun e w' => e = .returned (.bool true) ∧ Below w.heap.size w w' := by
  go_enter Try.func11, Try.ntmps11
  go_wp2_with fail
  refine (texample_any _).mono ?_
  rintro e w1 ⟨⟨A, c, B, d, rfl, hs, hq⟩, hb1⟩
  have hqn : ∀ q ∈ T.r0, q.n ≤ 1000000000 := by
    intro q hq
    simp [T.r0, T.q0] at hq
    rcases hq with rfl | rfl | rfl | rfl <;> simp
  have b0 := (Below.refl w1.heap.size w1).alloc (Nat.le_refl _) (.cells #[.int .i64 0, .int .i64 0, .int .i64 0, .int .i64 600, .int .i64 8000, .slice A 2 c] 24)
  have hP0 : Shf (w1.alloc (.cells #[.int .i64 0, .int .i64 0, .int .i64 0, .int .i64 600, .int .i64 8000, .slice A 2 c] 24)) w1.heap.size (T.s0 A c) := Shf.new w1 (T.s0 A c)
  have SZ := World.size_alloc w1 (.cells #[.int .i64 0, .int .i64 0, .int .i64 0, .int .i64 600, .int .i64 8000, .slice A 2 c] 24)
  have L0 := ints_lit (w1.alloc (.cells #[.int .i64 0, .int .i64 0, .int .i64 0, .int .i64 600, .int .i64 8000, .slice A 2 c] 24)) [2, 0]
  rw [SZ] at L0
  have b1 : Below w1.heap.size w1 ((w1.alloc (.cells #[.int .i64 0, .int .i64 0, .int .i64 0, .int .i64 600, .int .i64 8000, .slice A 2 c] 24)).alloc (.cells #[.int .i64 2, .int .i64 0] 3)) := b0.alloc b0.size _
  have hP1 := hP0.below ((Below.refl _ _).alloc (Nat.le_refl _) (.cells #[.int .i64 2, .int .i64 0] 3))
  go_wp2_with fail
  refine (loads_any (T.s0 A c) B 4 d T.r0 _ 2 2 [2, 0] _ (hs.below b1) (by simp [T.s0]) (hq.below b1) (by omega) hqn L0 (by omega)).mono ?_
  rintro e w2 ⟨hb2', hok⟩
  rcases hok with ⟨_, g, rfl, hg, hT⟩ | ⟨hno, _⟩
  rotate_left
  · rw [T.e1] at hno; simp at hno
  have hP := hP1.below hb2'
  have hb := bel b1 hb2'
  clear b0 b1 hP0 hP1 SZ L0 hb2' hg
  obtain ⟨p0, p1, p2, p3, p4, p5⟩ := hP.cells
  simp only [T.s0] at p0 p1 p2 p3 p4 p5
  have hI : Ints w2 (some ⟨g, 0, none⟩) 3 [2000, 900, 0] := hT.ints
  go_wp2_with fail

  refine (check_any (T.s0 A c) _ (hs.below hb) (by simp [T.s0])).mono ?_
  rw [T.e2]; rintro e w3 ⟨rfl, hbn⟩
  have hP := hP.below hbn
  have hI := hI.below hbn
  have hb := bel hb hbn
  clear hbn p0 p1 p2 p3 p4 p5
  obtain ⟨p0, p1, p2, p3, p4, p5⟩ := hP.cells
  simp only [T.s0] at p0 p1 p2 p3 p4 p5
  obtain ⟨ad, q, rfl, hgq, hwq, z0, z1, z2, z3, z4, z5, z6⟩ := (hq.below hb).at_ (show 0 < 4 by omega)
  simp [T.r0] at hgq
  subst hgq
  have za : ad.add 0 = ad := Addr.add_zero' ad
  simp only [T.q0, Nat.zero_mul, za] at z0 z1 z2 z3 z4 z5 z6
  go_wp2_with fail

  refine (tright_any (T.q0 0 2000) _ (wins_nil _) (by simp [T.q0])).mono ?_
  rw [T.e9]; rintro e w4 ⟨rfl, hbn⟩
  have hP := hP.below hbn
  have hI := hI.below hbn
  have hb := bel hb hbn
  clear hbn p0 p1 p2 p3 p4 p5
  obtain ⟨p0, p1, p2, p3, p4, p5⟩ := hP.cells
  simp only [T.s0] at p0 p1 p2 p3 p4 p5
  clear z0 z1 z2 z3 z4 z5 z6 hwq
  go_wp2_with fail
  refine (tright_any (T.q0 0 0) _ (wins_nil _) (by simp [T.q0])).mono ?_
  rw [T.e10]; rintro e w5 ⟨rfl, hbn⟩
  have hP := hP.below hbn
  have hI := hI.below hbn
  have hb := bel hb hbn
  clear hbn p0 p1 p2 p3 p4 p5
  obtain ⟨p0, p1, p2, p3, p4, p5⟩ := hP.cells
  simp only [T.s0] at p0 p1 p2 p3 p4 p5
  go_wp2_with fail
  have L0 := ints_lit w5 [2000, 900, 0]
  have b1 := (Below.refl w5.heap.size w5).alloc (Nat.le_refl _) (.cells (intCells [2000, 900, 0]).toArray 3)
  have hP := hP.below b1
  have hI := hI.below b1
  have hb := bel hb b1
  refine (sameInts_any (some ⟨g, 0, none⟩) _ 3 3 3 3 [2000, 900, 0] [2000, 900, 0] _ hI L0 (by omega) (by simp)).mono ?_
  rw [T.e12]; rintro e w6 ⟨rfl, hbn⟩
  have hP := hP.below hbn
  have hI := hI.below hbn
  have hb := bel hb hbn
  clear b1 L0
  clear hbn p0 p1 p2 p3 p4 p5
  obtain ⟨p0, p1, p2, p3, p4, p5⟩ := hP.cells
  simp only [T.s0] at p0 p1 p2 p3 p4 p5
  go_wp2_with fail
  have L0 := ints_lit w6 [2, 0]
  have b1 := (Below.refl w6.heap.size w6).alloc (Nat.le_refl _) (.cells (intCells [2, 0]).toArray 3)
  have hP := hP.below b1
  have hI := hI.below b1
  have hb := bel hb b1
  refine (weight_any (T.s0 A c) _ 4 d T.r0 _ 2 2 [2, 0] _ (hs.below hb) (by simp [T.s0]) (hq.below hb) (by omega) hqn L0 (by simp)).mono ?_
  rw [T.e3]; rintro e w7 ⟨rfl, hbn⟩
  have hP := hP.below hbn
  have hI := hI.below hbn
  have hb := bel hb hbn
  clear b1 L0
  clear hbn p0 p1 p2 p3 p4 p5
  obtain ⟨p0, p1, p2, p3, p4, p5⟩ := hP.cells
  simp only [T.s0] at p0 p1 p2 p3 p4 p5
  go_wp2_with fail
  have L0 := ints_lit w7 [0, 2]
  have b1 := (Below.refl w7.heap.size w7).alloc (Nat.le_refl _) (.cells (intCells [0, 2]).toArray 3)
  have hP := hP.below b1
  have hI := hI.below b1
  have hb := bel hb b1
  refine (fits_any (T.s0 A c) _ 4 d T.r0 _ 2 2 [0, 2] _ (hs.below hb) (by simp [T.s0]) (hq.below hb) (by omega) hqn L0 (by simp)).mono ?_
  rw [T.e4]; rintro e w8 ⟨rfl, hbn⟩
  have hP := hP.below hbn
  have hI := hI.below hbn
  have hb := bel hb hbn
  clear b1 L0
  clear hbn p0 p1 p2 p3 p4 p5
  obtain ⟨p0, p1, p2, p3, p4, p5⟩ := hP.cells
  simp only [T.s0] at p0 p1 p2 p3 p4 p5
  go_wp2_with fail
  have L0 := ints_lit w8 [0, 1]
  have b1 := (Below.refl w8.heap.size w8).alloc (Nat.le_refl _) (.cells (intCells [0, 1]).toArray 3)
  have hP := hP.below b1
  have hI := hI.below b1
  have hb := bel hb b1
  refine (fits_any (T.s0 A c) _ 4 d T.r0 _ 2 2 [0, 1] _ (hs.below hb) (by simp [T.s0]) (hq.below hb) (by omega) hqn L0 (by simp)).mono ?_
  rw [T.e5]; rintro e w9 ⟨rfl, hbn⟩
  have hP := hP.below hbn
  have hI := hI.below hbn
  have hb := bel hb hbn
  clear b1 L0
  clear hbn p0 p1 p2 p3 p4 p5
  obtain ⟨p0, p1, p2, p3, p4, p5⟩ := hP.cells
  simp only [T.s0] at p0 p1 p2 p3 p4 p5
  go_wp2_with fail
  have L0 := ints_lit w9 [3]
  have b1 := (Below.refl w9.heap.size w9).alloc (Nat.le_refl _) (.cells (intCells [3]).toArray 3)
  have hP := hP.below b1
  have hI := hI.below b1
  have hb := bel hb b1
  refine (fits_any (T.s0 A c) _ 4 d T.r0 _ 1 1 [3] _ (hs.below hb) (by simp [T.s0]) (hq.below hb) (by omega) hqn L0 (by simp)).mono ?_
  rw [T.e6]; rintro e w10 ⟨rfl, hbn⟩
  have hP := hP.below hbn
  have hI := hI.below hbn
  have hb := bel hb hbn
  clear b1 L0
  clear hbn p0 p1 p2 p3 p4 p5
  obtain ⟨p0, p1, p2, p3, p4, p5⟩ := hP.cells
  simp only [T.s0] at p0 p1 p2 p3 p4 p5
  go_wp2_with fail
  have L0 := ints_nil w10
  refine (weight_any (T.s0 A c) _ 4 d T.r0 none 0 0 [] _ (hs.below hb) (by simp [T.s0]) (hq.below hb) (by omega) hqn L0 (by simp)).mono ?_
  rw [T.e7]; rintro e w11 ⟨rfl, hbn⟩
  have hP := hP.below hbn
  have hI := hI.below hbn
  have hb := bel hb hbn
  clear hbn p0 p1 p2 p3 p4 p5
  obtain ⟨p0, p1, p2, p3, p4, p5⟩ := hP.cells
  simp only [T.s0] at p0 p1 p2 p3 p4 p5
  clear L0
  go_wp2_with fail
  have L0 := ints_lit w11 [0, 0]
  have b1 := (Below.refl w11.heap.size w11).alloc (Nat.le_refl _) (.cells (intCells [0, 0]).toArray 3)
  have hP := hP.below b1
  have hI := hI.below b1
  have hb := bel hb b1
  refine (weight_any (T.s0 A c) _ 4 d T.r0 _ 2 2 [0, 0] _ (hs.below hb) (by simp [T.s0]) (hq.below hb) (by omega) hqn L0 (by simp)).mono ?_
  rw [T.e8]; rintro e w12 ⟨rfl, hbn⟩
  have hP := hP.below hbn
  have hI := hI.below hbn
  have hb := bel hb hbn
  clear b1 L0
  clear hbn p0 p1 p2 p3 p4 p5
  obtain ⟨p0, p1, p2, p3, p4, p5⟩ := hP.cells
  simp only [T.s0] at p0 p1 p2 p3 p4 p5
  go_wp2_with fail
  go_ret
  exact ⟨rfl, bel hb1 hb⟩
end Go.Proofs.Ytdbllcphopecjaa
