/-
Routes: the walk of sane: small examples.
-/
import Derived.Test.YtjcdpfpdjcannaaPQ
import Derived.Test.YtjcdpfpdjcannaaPR
import Derived.Test.YtjcdpfpdjcannaaPG
namespace Go.Proofs.Ytjcdpfpdjcannaa
open Go.RowKit

theorem K.x31_1 (x : C) (h : IsEx31 x) : K.bestOut x.nd x.l x.s x.r [0, 1] = (⟨[1, 0], [10, 35], 50⟩, 0) := by
  obtain ⟨A, c, A2, c2, A3, c3, A4, c4, B, d, rfl⟩ := h
  kernel_rfl
theorem K.x31_2 (x : C) (h : IsEx31 x) : K.bestOut x.nd x.l x.s x.r [0] = (⟨[0], [10], 25⟩, 0) := by
  obtain ⟨A, c, A2, c2, A3, c3, A4, c4, B, d, rfl⟩ := h
  kernel_rfl
theorem K.x31_3 (x : C) (h : IsEx31 x) : K.bestOut x.nd x.l x.s x.r [] = (⟨[], [], 0⟩, 0) := by
  obtain ⟨A, c, A2, c2, A3, c3, A4, c4, B, d, rfl⟩ := h
  kernel_rfl
theorem K.x31_4 (x : C) (h : IsEx31 x) : K.bestOut x.nd x.l x.s x.r [2] = (⟨[], [], 0⟩, 4) := by
  obtain ⟨A, c, A2, c2, A3, c3, A4, c4, B, d, rfl⟩ := h
  kernel_rfl
theorem K.x31_5 (x : C) (h : IsEx31 x) : K.bestOut x.nd x.l x.s x.r [1, 0] = (⟨[], [], 0⟩, 1) := by
  obtain ⟨A, c, A2, c2, A3, c3, A4, c4, B, d, rfl⟩ := h
  kernel_rfl
theorem K.x31_6 (x : C) (h : IsEx31 x) : K.labs x.nd x.l x.s x.r [0, 1] = [⟨1, 0, 15⟩, ⟨2, 1, 15⟩, ⟨3, 0, 40⟩, ⟨3, 1, -1⟩] := by
  obtain ⟨A, c, A2, c2, A3, c3, A4, c4, B, d, rfl⟩ := h
  kernel_rfl
theorem K.x31_7 (x : C) (h : IsEx31 x) : K.labs x.nd x.l x.s x.r [2] = [⟨1, 0, 45⟩] := by
  obtain ⟨A, c, A2, c2, A3, c3, A4, c4, B, d, rfl⟩ := h
  kernel_rfl
theorem K.x31_8 (x : C) (h : IsEx31 x) : K.blocks x.nd x.l x.s x.r [2] [⟨1, 0, 45⟩] = true := by
  obtain ⟨A, c, A2, c2, A3, c3, A4, c4, B, d, rfl⟩ := h
  kernel_rfl
theorem K.x31_9 (x : C) (h : IsEx31 x) : K.blocks x.nd x.l x.s x.r [0, 1] [⟨1, 0, 15⟩, ⟨2, 1, 15⟩, ⟨3, 0, 40⟩, ⟨3, 1, -1⟩] = false := by
  obtain ⟨A, c, A2, c2, A3, c3, A4, c4, B, d, rfl⟩ := h
  kernel_rfl

theorem labs_lit (w : World) (l : List Lb) : Labs (w.alloc (.cells (l.flatMap labCells).toArray 62)) (some ⟨w.heap.size, 0, none⟩) l.length l :=
  ⟨rfl, by have h := Rd.new w (l.flatMap labCells).toArray 62 3 l.length (by simpa using flat_len labCells 3 (fun _ => rfl) l); simpa using h⟩

set_option maxRecDepth 100000 in
set_option maxHeartbeats 32000000 in
theorem sane31_any (w : World) : Calls Try.prog 24 #[] w fun e w' => e = .returned (.bool true) ∧ Below w.heap.size w w' := by
  go_enter Try.func24, Try.ntmps24
  go_wp2_with fail
  refine (example31_any _).mono ?_
  rintro e w1 ⟨x, hx, hA, rfl, b1⟩
  have HX := Lib.hid hx
  clear hx
  obtain ⟨w2, hw2⟩ : ∃ w2 : World, w2 = w1.alloc (.cells #[.int .i64 x.nd, .slice x.A x.n x.c] 24) := ⟨_, rfl⟩
  obtain ⟨w3, hw3⟩ : ∃ w3 : World, w3 = w2.alloc (.cells #[.int .i64 x.s.day, .int .i64 x.s.depot, .int .i64 x.s.start, .int .i64 x.s.end_, .int .i64 x.s.tare, .slice x.s.A x.s.n x.s.c] 27) := ⟨_, rfl⟩
  have z2 : w2.heap.size = w1.heap.size + 1 := by rw [hw2]; exact World.size_alloc _ _
  have b12 : Below w1.heap.size w1 w2 := by rw [hw2]; exact (Below.refl _ _).alloc (Nat.le_refl _) _
  have b23 : Below w2.heap.size w2 w3 := by rw [hw3]; exact (Below.refl _ _).alloc (Nat.le_refl _) _
  have hP : Net w3 w1.heap.size x.nd x.A x.n x.c := by
    have h1 : Net w2 w1.heap.size x.nd x.A x.n x.c := by rw [hw2]; exact Net.new _ _ _ _ _
    exact h1.below b23
  have hS : Shf w3 (w1.heap.size + 1) x.s := by rw [← z2, hw3]; exact Shf.new _ _
  have z3 : w3.heap.size = w1.heap.size + 1 + 1 := by rw [hw3, World.size_alloc, z2]
  have hb := bel (bel b1 b12) b23
  have hA := hA.below (bel b12 b23)
  clear b12 b23 b1 z2
  have p0 := hP.c0
  have p1 := hP.c1
  obtain ⟨s0, s1, s2, s3, s4, s5⟩ := hS.cells
  have L0 := ints_lit w3 [0, 1]
  have bl : Below w3.heap.size w3 (w3.alloc (.cells (intCells [0, 1]).toArray 3)) := (Below.refl _ _).alloc (Nat.le_refl _) _
  rw [z3] at L0
  have HP := Lib.hid hP
  have HS := Lib.hid hS
  have HA := Lib.hid hA
  have HB := Lib.hid hb
  rw [hw3, hw2] at p0 p1 s0 s1 s2 s3 s4 s5 HP HS HA HB L0 bl
  clear hP hS hA hb z3 hw3 hw2
  go_wp2_with fail
  refine (best_any x _ 2 2 [0, 1] _ (HA.out.below bl) L0 (Nat.le_refl _) (by decide)).mono ?_
  rw [K.x31_1 x HX.out]
  rintro e w4 ⟨⟨A0, n0, c0, B0, m0, d0, rfl, hI0, hJ0⟩, bx⟩
  dsimp only at hI0 hJ0 ⊢
  obtain ⟨w5, hw5⟩ : ∃ w5 : World, w5 = w4.alloc (.cells #[.int .i64 0, .slice A0 n0 c0, .slice B0 m0 d0, .int .i64 50] 30) := ⟨_, rfl⟩
  have z5 : w5.heap.size = w4.heap.size + 1 := by rw [hw5]; exact World.size_alloc _ _
  have by_ : Below w4.heap.size w4 w5 := by rw [hw5]; exact (Below.refl _ _).alloc (Nat.le_refl _) _
  have bz := bel (bel bl bx) by_
  have hP := HP.out.below bz
  have hS := HS.out.below bz
  have hA := HA.out.below bz
  have hb := bel HB.out bz
  have hT0 : TBlk w5 w4.heap.size 0 (.slice A0 n0 c0) (.slice B0 m0 d0) 50 := by rw [hw5]; exact heap_alloc_new _ _
  have hI0 := hI0.below by_
  have hJ0 := hJ0.below by_
  clear p0 p1 s0 s1 s2 s3 s4 s5 HP HS HA HB bl L0 bx by_ bz
  have p0 := hP.c0
  have p1 := hP.c1
  obtain ⟨s0, s1, s2, s3, s4, s5⟩ := hS.cells
  obtain ⟨t00, t01, t02, t03⟩ := hT0.cells
  have L0 := ints_lit w5 [0]
  have bl : Below w5.heap.size w5 (w5.alloc (.cells (intCells [0]).toArray 3)) := (Below.refl _ _).alloc (Nat.le_refl _) _
  rw [z5] at L0
  have HP := Lib.hid hP
  have HS := Lib.hid hS
  have HA := Lib.hid hA
  have HB := Lib.hid hb
  have HT0 := Lib.hid hT0
  have HI0 := Lib.hid hI0
  have HJ0 := Lib.hid hJ0
  rw [hw5] at p0 p1 s0 s1 s2 s3 s4 s5 t00 t01 t02 t03 HP HS HA HB HT0 HI0 HJ0 L0 bl
  clear hP hS hA hb hT0 hI0 hJ0 z5 hw5
  go_wp2_with fail
  refine (best_any x _ 1 1 [0] _ (HA.out.below bl) L0 (Nat.le_refl _) (by decide)).mono ?_
  rw [K.x31_2 x HX.out]
  rintro e w6 ⟨⟨A1, n1, c1, B1, m1, d1, rfl, hI1, hJ1⟩, bx⟩
  dsimp only at hI1 hJ1 ⊢
  obtain ⟨w7, hw7⟩ : ∃ w7 : World, w7 = w6.alloc (.cells #[.int .i64 0, .slice A1 n1 c1, .slice B1 m1 d1, .int .i64 25] 30) := ⟨_, rfl⟩
  have z7 : w7.heap.size = w6.heap.size + 1 := by rw [hw7]; exact World.size_alloc _ _
  have by_ : Below w6.heap.size w6 w7 := by rw [hw7]; exact (Below.refl _ _).alloc (Nat.le_refl _) _
  have bz := bel (bel bl bx) by_
  have hP := HP.out.below bz
  have hS := HS.out.below bz
  have hA := HA.out.below bz
  have hb := bel HB.out bz
  have hT0 := HT0.out.below bz
  have hI0 := HI0.out.below bz
  have hJ0 := HJ0.out.below bz
  have hT1 : TBlk w7 w6.heap.size 0 (.slice A1 n1 c1) (.slice B1 m1 d1) 25 := by rw [hw7]; exact heap_alloc_new _ _
  clear p0 p1 s0 s1 s2 s3 s4 s5 t00 t01 t02 t03 HP HS HA HB HT0 HI0 HJ0 bl L0 bx by_ bz hI1 hJ1
  have p0 := hP.c0
  have p1 := hP.c1
  obtain ⟨s0, s1, s2, s3, s4, s5⟩ := hS.cells
  obtain ⟨t00, t01, t02, t03⟩ := hT0.cells
  obtain ⟨t10, t11, t12, t13⟩ := hT1.cells
  have HP := Lib.hid hP
  have HS := Lib.hid hS
  have HA := Lib.hid hA
  have HB := Lib.hid hb
  have HT0 := Lib.hid hT0
  have HI0 := Lib.hid hI0
  have HJ0 := Lib.hid hJ0
  have HT1 := Lib.hid hT1
  rw [hw7] at p0 p1 s0 s1 s2 s3 s4 s5 t00 t01 t02 t03 t10 t11 t12 t13 HP HS HA HB HT0 HI0 HJ0 HT1
  clear hP hS hA hb hT0 hI0 hJ0 hT1 z7 hw7
  go_wp2_with fail
  refine (best_any x none 0 0 [] _ HA.out (ints_nil _) (Nat.le_refl _) (by decide)).mono ?_
  rw [K.x31_3 x HX.out]
  rintro e w8 ⟨⟨A2, n2, c2, B2, m2, d2, rfl, hI2, hJ2⟩, bx⟩
  dsimp only at hI2 hJ2 ⊢
  obtain ⟨w9, hw9⟩ : ∃ w9 : World, w9 = w8.alloc (.cells #[.int .i64 0, .slice A2 n2 c2, .slice B2 m2 d2, .int .i64 0] 30) := ⟨_, rfl⟩
  have z9 : w9.heap.size = w8.heap.size + 1 := by rw [hw9]; exact World.size_alloc _ _
  have by_ : Below w8.heap.size w8 w9 := by rw [hw9]; exact (Below.refl _ _).alloc (Nat.le_refl _) _
  have bz := bel bx by_
  have hP := HP.out.below bz
  have hS := HS.out.below bz
  have hA := HA.out.below bz
  have hb := bel HB.out bz
  have hT0 := HT0.out.below bz
  have hI0 := HI0.out.below bz
  have hJ0 := HJ0.out.below bz
  have hT1 := HT1.out.below bz
  have hT2 : TBlk w9 w8.heap.size 0 (.slice A2 n2 c2) (.slice B2 m2 d2) 0 := by rw [hw9]; exact heap_alloc_new _ _
  clear p0 p1 s0 s1 s2 s3 s4 s5 t00 t01 t02 t03 t10 t11 t12 t13 HP HS HA HB HT0 HI0 HJ0 HT1 bx by_ bz hI2 hJ2
  have p0 := hP.c0
  have p1 := hP.c1
  obtain ⟨s0, s1, s2, s3, s4, s5⟩ := hS.cells
  obtain ⟨t00, t01, t02, t03⟩ := hT0.cells
  obtain ⟨t10, t11, t12, t13⟩ := hT1.cells
  obtain ⟨t20, t21, t22, t23⟩ := hT2.cells
  have L0 := ints_lit w9 [2]
  have bl : Below w9.heap.size w9 (w9.alloc (.cells (intCells [2]).toArray 3)) := (Below.refl _ _).alloc (Nat.le_refl _) _
  rw [z9] at L0
  have HP := Lib.hid hP
  have HS := Lib.hid hS
  have HA := Lib.hid hA
  have HB := Lib.hid hb
  have HT0 := Lib.hid hT0
  have HI0 := Lib.hid hI0
  have HJ0 := Lib.hid hJ0
  have HT1 := Lib.hid hT1
  have HT2 := Lib.hid hT2
  rw [hw9] at p0 p1 s0 s1 s2 s3 s4 s5 t00 t01 t02 t03 t10 t11 t12 t13 t20 t21 t22 t23 HP HS HA HB HT0 HI0 HJ0 HT1 HT2 L0 bl
  clear hP hS hA hb hT0 hI0 hJ0 hT1 hT2 z9 hw9
  go_wp2_with fail
  refine (best_any x _ 1 1 [2] _ (HA.out.below bl) L0 (Nat.le_refl _) (by decide)).mono ?_
  rw [K.x31_4 x HX.out]
  rintro e w10 ⟨⟨A3, n3, c3, B3, m3, d3, rfl, hI3, hJ3⟩, bx⟩
  dsimp only at hI3 hJ3 ⊢
  obtain ⟨w11, hw11⟩ : ∃ w11 : World, w11 = w10.alloc (.cells #[.int .i64 0, .slice A3 n3 c3, .slice B3 m3 d3, .int .i64 0] 30) := ⟨_, rfl⟩
  have z11 : w11.heap.size = w10.heap.size + 1 := by rw [hw11]; exact World.size_alloc _ _
  have by_ : Below w10.heap.size w10 w11 := by rw [hw11]; exact (Below.refl _ _).alloc (Nat.le_refl _) _
  have bz := bel (bel bl bx) by_
  have hP := HP.out.below bz
  have hS := HS.out.below bz
  have hA := HA.out.below bz
  have hb := bel HB.out bz
  have hT0 := HT0.out.below bz
  have hI0 := HI0.out.below bz
  have hJ0 := HJ0.out.below bz
  have hT1 := HT1.out.below bz
  have hT2 := HT2.out.below bz
  clear p0 p1 s0 s1 s2 s3 s4 s5 t00 t01 t02 t03 t10 t11 t12 t13 t20 t21 t22 t23 HP HS HA HB HT0 HI0 HJ0 HT1 HT2 bl L0 bx by_ bz hI3 hJ3
  have p0 := hP.c0
  have p1 := hP.c1
  obtain ⟨s0, s1, s2, s3, s4, s5⟩ := hS.cells
  obtain ⟨t00, t01, t02, t03⟩ := hT0.cells
  obtain ⟨t10, t11, t12, t13⟩ := hT1.cells
  obtain ⟨t20, t21, t22, t23⟩ := hT2.cells
  have L0 := ints_lit w11 [1, 0]
  have bl : Below w11.heap.size w11 (w11.alloc (.cells (intCells [1, 0]).toArray 3)) := (Below.refl _ _).alloc (Nat.le_refl _) _
  rw [z11] at L0
  have HP := Lib.hid hP
  have HS := Lib.hid hS
  have HA := Lib.hid hA
  have HB := Lib.hid hb
  have HT0 := Lib.hid hT0
  have HI0 := Lib.hid hI0
  have HJ0 := Lib.hid hJ0
  have HT1 := Lib.hid hT1
  have HT2 := Lib.hid hT2
  rw [hw11] at p0 p1 s0 s1 s2 s3 s4 s5 t00 t01 t02 t03 t10 t11 t12 t13 t20 t21 t22 t23 HP HS HA HB HT0 HI0 HJ0 HT1 HT2 L0 bl
  clear hP hS hA hb hT0 hI0 hJ0 hT1 hT2 z11 hw11
  go_wp2_with fail
  refine (best_any x _ 2 2 [1, 0] _ (HA.out.below bl) L0 (Nat.le_refl _) (by decide)).mono ?_
  rw [K.x31_5 x HX.out]
  rintro e w12 ⟨⟨A4, n4, c4, B4, m4, d4, rfl, hI4, hJ4⟩, bx⟩
  dsimp only at hI4 hJ4 ⊢
  obtain ⟨w13, hw13⟩ : ∃ w13 : World, w13 = w12.alloc (.cells #[.int .i64 0, .slice A4 n4 c4, .slice B4 m4 d4, .int .i64 0] 30) := ⟨_, rfl⟩
  have z13 : w13.heap.size = w12.heap.size + 1 := by rw [hw13]; exact World.size_alloc _ _
  have by_ : Below w12.heap.size w12 w13 := by rw [hw13]; exact (Below.refl _ _).alloc (Nat.le_refl _) _
  have bz := bel (bel bl bx) by_
  have hP := HP.out.below bz
  have hS := HS.out.below bz
  have hA := HA.out.below bz
  have hb := bel HB.out bz
  have hT0 := HT0.out.below bz
  have hI0 := HI0.out.below bz
  have hJ0 := HJ0.out.below bz
  have hT1 := HT1.out.below bz
  have hT2 := HT2.out.below bz
  clear p0 p1 s0 s1 s2 s3 s4 s5 t00 t01 t02 t03 t10 t11 t12 t13 t20 t21 t22 t23 HP HS HA HB HT0 HI0 HJ0 HT1 HT2 bl L0 bx by_ bz hI4 hJ4
  have p0 := hP.c0
  have p1 := hP.c1
  obtain ⟨s0, s1, s2, s3, s4, s5⟩ := hS.cells
  obtain ⟨t00, t01, t02, t03⟩ := hT0.cells
  obtain ⟨t10, t11, t12, t13⟩ := hT1.cells
  obtain ⟨t20, t21, t22, t23⟩ := hT2.cells
  have L0 := ints_lit w13 [0, 1]
  have bl : Below w13.heap.size w13 (w13.alloc (.cells (intCells [0, 1]).toArray 3)) := (Below.refl _ _).alloc (Nat.le_refl _) _
  rw [z13] at L0
  have HP := Lib.hid hP
  have HS := Lib.hid hS
  have HA := Lib.hid hA
  have HB := Lib.hid hb
  have HT0 := Lib.hid hT0
  have HI0 := Lib.hid hI0
  have HJ0 := Lib.hid hJ0
  have HT1 := Lib.hid hT1
  have HT2 := Lib.hid hT2
  rw [hw13] at p0 p1 s0 s1 s2 s3 s4 s5 t00 t01 t02 t03 t10 t11 t12 t13 t20 t21 t22 t23 HP HS HA HB HT0 HI0 HJ0 HT1 HT2 L0 bl
  clear hP hS hA hb hT0 hI0 hJ0 hT1 hT2 z13 hw13
  go_wp2_with fail
  refine (labels30_any x _ 2 2 [0, 1] _ (HA.out.below bl) L0 (Nat.le_refl _) (by decide)).mono ?_
  rw [K.x31_6 x HX.out]
  rintro e w14 ⟨⟨LA, ln, lc, rfl, hL⟩, bx⟩
  have bz := bel bl bx
  have hP := HP.out.below bz
  have hS := HS.out.below bz
  have hA := HA.out.below bz
  have hb := bel HB.out bz
  have hT0 := HT0.out.below bz
  have hI0 := HI0.out.below bz
  have hJ0 := HJ0.out.below bz
  have hT1 := HT1.out.below bz
  have hT2 := HT2.out.below bz
  clear p0 p1 s0 s1 s2 s3 s4 s5 t00 t01 t02 t03 t10 t11 t12 t13 t20 t21 t22 t23 HP HS HA HB HT0 HI0 HJ0 HT1 HT2 bl L0 bx bz
  clear hT1 hT2
  have W0 : Labs (w14.alloc (.cells #[.int .i64 1, .int .i64 0, .int .i64 15, .int .i64 2, .int .i64 1, .int .i64 15, .int .i64 3, .int .i64 0, .int .i64 40, .int .i64 3, .int .i64 1, .int .i64 (-1)] 62)) (some ⟨w14.heap.size, 0, none⟩) 4 ([⟨1, 0, 15⟩, ⟨2, 1, 15⟩, ⟨3, 0, 40⟩, ⟨3, 1, -1⟩] : List Lb) := labs_lit w14 ([⟨1, 0, 15⟩, ⟨2, 1, 15⟩, ⟨3, 0, 40⟩, ⟨3, 1, -1⟩] : List Lb)
  obtain ⟨w15, hw15⟩ : ∃ w15 : World, w15 = w14.alloc (.cells #[.int .i64 1, .int .i64 0, .int .i64 15, .int .i64 2, .int .i64 1, .int .i64 15, .int .i64 3, .int .i64 0, .int .i64 40, .int .i64 3, .int .i64 1, .int .i64 (-1)] 62) := ⟨_, rfl⟩
  obtain ⟨w16, hw16⟩ : ∃ w16 : World, w16 = w15.alloc (.cells #[.int .i64 2] 3) := ⟨_, rfl⟩
  obtain ⟨w17, hw17⟩ : ∃ w17 : World, w17 = w16.alloc (.cells #[.int .i64 2] 3) := ⟨_, rfl⟩
  have z15 : w15.heap.size = w14.heap.size + 1 := by rw [hw15]; exact World.size_alloc _ _
  have z16 : w16.heap.size = w14.heap.size + 1 + 1 := by rw [hw16, World.size_alloc, z15]
  have b45 : Below w14.heap.size w14 w15 := by rw [hw15]; exact (Below.refl _ _).alloc (Nat.le_refl _) _
  have b56 : Below w15.heap.size w15 w16 := by rw [hw16]; exact (Below.refl _ _).alloc (Nat.le_refl _) _
  have b67 : Below w16.heap.size w16 w17 := by rw [hw17]; exact (Below.refl _ _).alloc (Nat.le_refl _) _
  have I1 : Ints (w15.alloc (.cells #[.int .i64 2] 3)) (some ⟨w15.heap.size, 0, none⟩) 1 [2] := ints_lit w15 [2]
  have I2 : Ints (w16.alloc (.cells #[.int .i64 2] 3)) (some ⟨w16.heap.size, 0, none⟩) 1 [2] := ints_lit w16 [2]
  rw [← hw15] at W0
  rw [← hw16, z15] at I1
  rw [← hw17, z16] at I2
  have hW := Lst.below W0 (bel b56 b67)
  have hV := I1.below b67
  have hK := I2
  have hP6 := hP.below (bel b45 b56)
  have hS6 := hS.below (bel b45 b56)
  have p60 := hP6.c0
  have p61 := hP6.c1
  obtain ⟨s60, s61, s62, s63, s64, s65⟩ := hS6.cells
  rw [hw16, hw15] at p60 p61 s60 s61 s62 s63 s64 s65
  clear hP6 hS6
  have bz := bel (bel b45 b56) b67
  have hP := hP.below bz
  have hS := hS.below bz
  have hA := hA.below bz
  have hb := bel hb bz
  have hT0 := hT0.below bz
  have hI0 := hI0.below bz
  have hJ0 := hJ0.below bz
  have hL := Lst.below hL bz
  clear W0 I1 I2 bz b45 b56 b67 z15 z16
  have p0 := hP.c0
  have p1 := hP.c1
  obtain ⟨s0, s1, s2, s3, s4, s5⟩ := hS.cells
  obtain ⟨t00, t01, t02, t03⟩ := hT0.cells
  have HP := Lib.hid hP
  have HS := Lib.hid hS
  have HA := Lib.hid hA
  have HB := Lib.hid hb
  have HT0 := Lib.hid hT0
  have HI0 := Lib.hid hI0
  have HJ0 := Lib.hid hJ0
  have HL := Lib.hid hL
  have HW := Lib.hid hW
  have HV := Lib.hid hV
  have HK := Lib.hid hK
  rw [hw17, hw16, hw15] at p0 p1 s0 s1 s2 s3 s4 s5 t00 t01 t02 t03 HP HS HA HB HT0 HI0 HJ0 HL HW HV HK
  clear hP hS hA hb hT0 hI0 hJ0 hL hW hV hK hw17 hw16 hw15
  go_wp2_with fail
  refine (labels30_any x _ 1 1 [2] _ HA.out HK.out (Nat.le_refl _) (by decide)).mono ?_
  rw [K.x31_7 x HX.out]
  rintro e w18 ⟨⟨LB, lm, ld, rfl, hM⟩, bx⟩
  clear p60 p61 s60 s61 s62 s63 s64 s65
  obtain ⟨w19, hw19⟩ : ∃ w19 : World, w19 = w18.alloc (.cells #[.int .i64 0, .slice (some ⟨w14.heap.size + 1, 0, none⟩) 1 1, .slice LB lm ld] 51) := ⟨_, rfl⟩
  have z19 : w19.heap.size = w18.heap.size + 1 := by rw [hw19]; exact World.size_alloc _ _
  have by_ : Below w18.heap.size w18 w19 := by rw [hw19]; exact (Below.refl _ _).alloc (Nat.le_refl _) _
  have hU : w19.heap[w18.heap.size]? = some (.cells #[.int .i64 0, .slice (some ⟨w14.heap.size + 1, 0, none⟩) 1 1, .slice LB lm ld] 51 (0, 0)) := by rw [hw19]; exact heap_alloc_new _ _
  have hM := Lst.below hM by_
  have bz := bel bx by_
  have hP := HP.out.below bz
  have hS := HS.out.below bz
  have hA := HA.out.below bz
  have hb := bel HB.out bz
  have hT0 := HT0.out.below bz
  have hI0 := HI0.out.below bz
  have hJ0 := HJ0.out.below bz
  have hL := Lst.below HL.out bz
  have hW := Lst.below HW.out bz
  have hV := HV.out.below bz
  have hK := HK.out.below bz
  clear p0 p1 s0 s1 s2 s3 s4 s5 t00 t01 t02 t03 HP HS HA HB HT0 HI0 HJ0 HL HW HV HK bx by_ bz
  clear hK
  obtain rfl : lm = 1 := hM.1
  obtain rfl : ln = 4 := hL.1
  have hq2 : n0 = 2 := hI0.1
  have hq3 : m0 = 2 := hJ0.1
  subst hq2
  subst hq3
  have p0 := hP.c0
  have p1 := hP.c1
  obtain ⟨s0, s1, s2, s3, s4, s5⟩ := hS.cells
  obtain ⟨t00, t01, t02, t03⟩ := hT0.cells
  have u1 := blk_cell hU 1 _ rfl
  have u2 := blk_cell hU 2 _ rfl
  have u0 := blk_cell hU 0 _ rfl
  have L0 := ints_lit w19 [1, 0]
  have bl : Below w19.heap.size w19 (w19.alloc (.cells (intCells [1, 0]).toArray 3)) := (Below.refl _ _).alloc (Nat.le_refl _) _
  rw [z19] at L0
  have HP := Lib.hid hP
  have HS := Lib.hid hS
  have HA := Lib.hid hA
  have HB := Lib.hid hb
  have HT0 := Lib.hid hT0
  have HI0 := Lib.hid hI0
  have HJ0 := Lib.hid hJ0
  have HL := Lib.hid hL
  have HW := Lib.hid hW
  have HV := Lib.hid hV
  have HU := Lib.hid hU
  have HM := Lib.hid hM
  rw [hw19] at p0 p1 s0 s1 s2 s3 s4 s5 t00 t01 t02 t03 u0 u1 u2 HP HS HA HB HT0 HI0 HJ0 HL HW HV HU HM L0 bl
  clear hP hS hA hb hT0 hI0 hJ0 hL hW hV hU hM z19 hw19
  go_wp2_with fail
  refine (sameInts_any A0 _ 2 2 c0 2 [1, 0] [1, 0] _ (HI0.out.below bl) L0 (by decide) (by decide)).mono ?_
  rw [show decide (([1, 0] : List Int) = [1, 0]) = true from rfl]
  rintro e w20 ⟨rfl, bx⟩
  have bz := bel bl bx
  have hP := HP.out.below bz
  have hS := HS.out.below bz
  have hA := HA.out.below bz
  have hb := bel HB.out bz
  have hT0 := HT0.out.below bz
  have hI0 := HI0.out.below bz
  have hJ0 := HJ0.out.below bz
  have hL := Lst.below HL.out bz
  have hW := Lst.below HW.out bz
  have hV := HV.out.below bz
  have hU := blk_below bz HU.out
  have hM := Lst.below HM.out bz
  clear p0 p1 s0 s1 s2 s3 s4 s5 t00 t01 t02 t03 u0 u1 u2 HP HS HA HB HT0 HI0 HJ0 HL HW HV HU HM bl L0 bx bz
  have p0 := hP.c0
  have p1 := hP.c1
  obtain ⟨s0, s1, s2, s3, s4, s5⟩ := hS.cells
  obtain ⟨t00, t01, t02, t03⟩ := hT0.cells
  have u1 := blk_cell hU 1 _ rfl
  have u2 := blk_cell hU 2 _ rfl
  have u0 := blk_cell hU 0 _ rfl
  have L0 := ints_lit w20 [10, 35]
  have bl : Below w20.heap.size w20 (w20.alloc (.cells (intCells [10, 35]).toArray 3)) := (Below.refl _ _).alloc (Nat.le_refl _) _
  have HP := Lib.hid hP
  have HS := Lib.hid hS
  have HA := Lib.hid hA
  have HB := Lib.hid hb
  have HT0 := Lib.hid hT0
  have HI0 := Lib.hid hI0
  have HJ0 := Lib.hid hJ0
  have HL := Lib.hid hL
  have HW := Lib.hid hW
  have HV := Lib.hid hV
  have HU := Lib.hid hU
  have HM := Lib.hid hM
  clear hP hS hA hb hT0 hI0 hJ0 hL hW hV hU hM
  go_wp2_with fail
  refine (sameInts_any B0 _ 2 2 d0 2 [10, 35] [10, 35] _ (HJ0.out.below bl) L0 (by decide) (by decide)).mono ?_
  rw [show decide (([10, 35] : List Int) = [10, 35]) = true from rfl]
  rintro e w21 ⟨rfl, bx⟩
  have bz := bel bl bx
  have hP := HP.out.below bz
  have hS := HS.out.below bz
  have hA := HA.out.below bz
  have hb := bel HB.out bz
  have hT0 := HT0.out.below bz
  have hI0 := HI0.out.below bz
  have hJ0 := HJ0.out.below bz
  have hL := Lst.below HL.out bz
  have hW := Lst.below HW.out bz
  have hV := HV.out.below bz
  have hU := blk_below bz HU.out
  have hM := Lst.below HM.out bz
  clear p0 p1 s0 s1 s2 s3 s4 s5 t00 t01 t02 t03 u0 u1 u2 HP HS HA HB HT0 HI0 HJ0 HL HW HV HU HM bl L0 bx bz
  have p0 := hP.c0
  have p1 := hP.c1
  obtain ⟨s0, s1, s2, s3, s4, s5⟩ := hS.cells
  obtain ⟨t00, t01, t02, t03⟩ := hT0.cells
  have u1 := blk_cell hU 1 _ rfl
  have u2 := blk_cell hU 2 _ rfl
  have u0 := blk_cell hU 0 _ rfl
  have HP := Lib.hid hP
  have HS := Lib.hid hS
  have HA := Lib.hid hA
  have HB := Lib.hid hb
  have HT0 := Lib.hid hT0
  have HI0 := Lib.hid hI0
  have HJ0 := Lib.hid hJ0
  have HL := Lib.hid hL
  have HW := Lib.hid hW
  have HV := Lib.hid hV
  have HU := Lib.hid hU
  have HM := Lib.hid hM
  clear hP hS hA hb hT0 hI0 hJ0 hL hW hV hU hM
  go_wp2_with fail
  refine (samelab_any LA _ 4 4 lc 4 _ _ _ HL.out HW.out (by decide) (by decide)).mono ?_
  rw [decide_eq_true rfl]
  rintro e w22 ⟨rfl, bz⟩
  have hP := HP.out.below bz
  have hS := HS.out.below bz
  have hA := HA.out.below bz
  have hb := bel HB.out bz
  have hT0 := HT0.out.below bz
  have hI0 := HI0.out.below bz
  have hJ0 := HJ0.out.below bz
  have hL := Lst.below HL.out bz
  have hW := Lst.below HW.out bz
  have hV := HV.out.below bz
  have hU := blk_below bz HU.out
  have hM := Lst.below HM.out bz
  clear p0 p1 s0 s1 s2 s3 s4 s5 t00 t01 t02 t03 u0 u1 u2 HP HS HA HB HT0 HI0 HJ0 HL HW HV HU HM bz
  have p0 := hP.c0
  have p1 := hP.c1
  obtain ⟨s0, s1, s2, s3, s4, s5⟩ := hS.cells
  obtain ⟨t00, t01, t02, t03⟩ := hT0.cells
  have u1 := blk_cell hU 1 _ rfl
  have u2 := blk_cell hU 2 _ rfl
  have u0 := blk_cell hU 0 _ rfl
  have HP := Lib.hid hP
  have HS := Lib.hid hS
  have HA := Lib.hid hA
  have HB := Lib.hid hb
  have HT0 := Lib.hid hT0
  have HI0 := Lib.hid hI0
  have HJ0 := Lib.hid hJ0
  have HL := Lib.hid hL
  have HW := Lib.hid hW
  have HV := Lib.hid hV
  have HU := Lib.hid hU
  have HM := Lib.hid hM
  clear hP hS hA hb hT0 hI0 hJ0 hL hW hV hU hM
  go_wp2_with fail
  refine (blocks_any x 0 _ 1 1 [2] LB 1 ld _ _ HA.out HV.out (Nat.le_refl _) (by decide) HM.out (by decide)).mono ?_
  rw [K.x31_8 x HX.out]
  rintro e w23 ⟨rfl, bz⟩
  have hP := HP.out.below bz
  have hS := HS.out.below bz
  have hA := HA.out.below bz
  have hb := bel HB.out bz
  have hT0 := HT0.out.below bz
  have hI0 := HI0.out.below bz
  have hJ0 := HJ0.out.below bz
  have hL := Lst.below HL.out bz
  have hW := Lst.below HW.out bz
  have hV := HV.out.below bz
  have hU := blk_below bz HU.out
  have hM := Lst.below HM.out bz
  clear p0 p1 s0 s1 s2 s3 s4 s5 t00 t01 t02 t03 u0 u1 u2 HP HS HA HB HT0 HI0 HJ0 HL HW HV HU HM bz
  have p0 := hP.c0
  have p1 := hP.c1
  obtain ⟨s0, s1, s2, s3, s4, s5⟩ := hS.cells
  obtain ⟨t00, t01, t02, t03⟩ := hT0.cells
  have u1 := blk_cell hU 1 _ rfl
  have u2 := blk_cell hU 2 _ rfl
  have u0 := blk_cell hU 0 _ rfl
  have L0 := ints_lit w23 [0, 1]
  have bl : Below w23.heap.size w23 (w23.alloc (.cells (intCells [0, 1]).toArray 3)) := (Below.refl _ _).alloc (Nat.le_refl _) _
  have HP := Lib.hid hP
  have HS := Lib.hid hS
  have HA := Lib.hid hA
  have HB := Lib.hid hb
  have HT0 := Lib.hid hT0
  have HI0 := Lib.hid hI0
  have HJ0 := Lib.hid hJ0
  have HL := Lib.hid hL
  have HW := Lib.hid hW
  have HV := Lib.hid hV
  have HU := Lib.hid hU
  have HM := Lib.hid hM
  clear hP hS hA hb hT0 hI0 hJ0 hL hW hV hU hM
  go_wp2_with fail
  refine (blocks_any x 0 _ 2 2 [0, 1] LA 4 lc _ _ (HA.out.below bl) L0 (Nat.le_refl _) (by decide) (Lst.below HL.out bl) (by decide)).mono ?_
  rw [K.x31_9 x HX.out]
  rintro e w24 ⟨rfl, bz⟩
  go_wp2_with fail
  go_ret
  exact ⟨rfl, bel (bel HB.out bl) bz⟩
end Go.Proofs.Ytjcdpfpdjcannaa
