/-
The walk of the law TourEarliest.
-/
import Derived.Test.YtjcdpfpdjcannaaBE
import Derived.Test.YtjcdpfpdjcannaaK13
import Derived.Test.YtjcdpfpdjcannaaL1
namespace Go.Proofs.Ytjcdpfpdjcannaa
open Go.RowKit

theorem ecells {w : World} {b qb tb : Nat} {nd : Int} {A : Option Addr} {n c : Nat} {s : S} {q : Q} {h en : Int} {S0 T0 : Value} (hP : Net w b nd A n c) (hS : Shf w (b + 1) s) (hQ : QBlk w qb q) (hT : TBlk w tb h S0 T0 en) :
    w.cell? ⟨b, 0, none⟩ = some (.int .i64 nd) ∧ w.cell? ⟨b, 1, none⟩ = some (.slice A n c) ∧
    w.cell? ⟨b + 1, 0, none⟩ = some (.int .i64 s.day) ∧ w.cell? ⟨b + 1, 1, none⟩ = some (.int .i64 s.depot) ∧ w.cell? ⟨b + 1, 2, none⟩ = some (.int .i64 s.start) ∧ w.cell? ⟨b + 1, 3, none⟩ = some (.int .i64 s.end_) ∧ w.cell? ⟨b + 1, 4, none⟩ = some (.int .i64 s.tare) ∧ w.cell? ⟨b + 1, 5, none⟩ = some (.slice s.A s.n s.c) ∧
    w.cell? ⟨qb, 0, none⟩ = some (.int .i64 q.node) ∧ w.cell? ⟨qb, 1, none⟩ = some (.int .i64 q.room) ∧ w.cell? ⟨qb, 2, none⟩ = some (.int .i64 q.kilos) ∧ w.cell? ⟨qb, 3, none⟩ = some (.int .i64 q.service) ∧ w.cell? ⟨qb, 4, none⟩ = some (.int .i64 q.frm) ∧ w.cell? ⟨qb, 5, none⟩ = some (.int .i64 q.by_) ∧ w.cell? ⟨qb, 6, none⟩ = some (.slice q.A q.n q.c) ∧
    w.cell? ⟨tb, 0, none⟩ = some (.int .i64 h) ∧ w.cell? ⟨tb, 1, none⟩ = some S0 ∧ w.cell? ⟨tb, 2, none⟩ = some T0 ∧ w.cell? ⟨tb, 3, none⟩ = some (.int .i64 en) := by
  obtain ⟨s0, s1, s2, s3, s4, s5⟩ := hS.cells
  obtain ⟨q0, q1, q2, q3, q4, q5, q6⟩ := hQ.cells
  obtain ⟨t0, t1, t2, t3⟩ := hT.cells
  exact ⟨hP.c0, hP.c1, s0, s1, s2, s3, s4, s5, q0, q1, q2, q3, q4, q5, q6, t0, t1, t2, t3⟩

set_option maxRecDepth 100000 in
set_option maxHeartbeats 16000000 in
theorem earliest_any (x : C) (V : Option Addr) (vn vc : Nat) (o : List Int) (U : Option Addr) (un uc : Nat) (bg : List Int) (w : World) (hN : Roads w x.A x.n x.l) (hS0 : Ints w x.s.A x.s.n x.s.l) (hQ : Reqs w x.B x.m x.r) (hV : Ints w V vn o) (hvc : vn ≤ vc) (hU : Ints w U un bg) :
    Calls Try.prog 4 #[.agg #[.int .i64 x.nd, .slice x.A x.n x.c], .agg #[.int .i64 x.s.day, .int .i64 x.s.depot, .int .i64 x.s.start, .int .i64 x.s.end_, .int .i64 x.s.tare, .slice x.s.A x.s.n x.s.c], .slice x.B x.m x.d, .slice V vn vc, .slice U un uc] w fun e w' => e = .returned (.bool true) ∧ Below w.heap.size w w' := by
  obtain ⟨w1, hw1⟩ : ∃ w1 : World, w1 = w.alloc (.cells #[.int .i64 x.nd, .slice x.A x.n x.c] 24) := ⟨_, rfl⟩
  obtain ⟨w2, hw2⟩ : ∃ w2 : World, w2 = w1.alloc (.cells #[.int .i64 x.s.day, .int .i64 x.s.depot, .int .i64 x.s.start, .int .i64 x.s.end_, .int .i64 x.s.tare, .slice x.s.A x.s.n x.s.c] 27) := ⟨_, rfl⟩
  have z1 : w1.heap.size = w.heap.size + 1 := by rw [hw1]; exact World.size_alloc _ _
  have b01 : Below w.heap.size w w1 := by rw [hw1]; exact (Below.refl _ _).alloc (Nat.le_refl _) _
  have b12 : Below w1.heap.size w1 w2 := by rw [hw2]; exact (Below.refl _ _).alloc (Nat.le_refl _) _
  have hP : Net w2 w.heap.size x.nd x.A x.n x.c := by
    have h1 : Net w1 w.heap.size x.nd x.A x.n x.c := by rw [hw1]; exact Net.new _ _ _ _ _
    exact h1.below b12
  have hS : Shf w2 (w.heap.size + 1) x.s := by rw [← z1, hw2]; exact Shf.new _ _
  have hb := bel b01 b12
  go_enter Try.func4, Try.ntmps4
  go_wp2_with fail
  rw [← hw1, ← hw2]
  clear hw1 hw2 z1 b01 b12
  refine (small_any _).mono ?_
  rintro e w3 ⟨rfl, b3⟩
  have hP := hP.below b3
  have hS := hS.below b3
  have hb := bel hb b3
  clear b3
  have p0 := hP.c0
  have p1 := hP.c1
  obtain ⟨s0, s1, s2, s3, s4, s5⟩ := hS.cells
  go_wp2_with fail
  refine (few30_any x _ (hQ.below hb)).mono ?_
  rintro e w4 ⟨rfl, b4⟩
  have hP := hP.below b4
  have hS := hS.below b4
  have hb := bel hb b4
  clear b4 p0 p1 s0 s1 s2 s3 s4 s5
  have p0 := hP.c0
  have p1 := hP.c1
  obtain ⟨s0, s1, s2, s3, s4, s5⟩ := hS.cells
  cases hf : K.few30 x.nd x.n x.s x.r
  · clear hf
    go_wp2_with fail
    go_ret
    exact ⟨rfl, hb⟩
  obtain ⟨hf1, hf2, hf3, hf4⟩ := K.few_parts hf
  have hx : At w x := ⟨hN, hS0, hQ, by omega, by omega, by rw [hQ.1]; omega, fun q hq => by have := hf4 q hq; omega⟩
  have hm6 : x.m ≤ 6 := by rw [hQ.1]; exact hf3
  clear hf1 hf2 hf3 hf4 hf
  by_cases hv6 : 6 < vn
  · go_wp2_with fail
    go_ret
    exact ⟨rfl, hb⟩
  have hv6' : decide ((6 : Int) < (vn : Int)) = false := by simp; omega
  by_cases hun : un = vn
  rotate_left
  · have hq : ((un : Int) != (vn : Int)) = true := by simp; omega
    go_wp2_with fail
    go_ret
    exact ⟨rfl, hb⟩
  have hq : ((un : Int) != (vn : Int)) = false := by simp [hun]
  go_wp2_with fail
  refine (run_any x V vn vc o _ (hx.below hb) (hV.below hb) (by omega)).mono ?_
  rintro e w5 ⟨⟨A1, n1, c1, A2, n2, c2, rfl, hI1, hI2, -⟩, b5⟩
  have hP := hP.below b5
  have hS := hS.below b5
  have hb := bel hb b5
  clear b5 p0 p1 s0 s1 s2 s3 s4 s5
  obtain ⟨R, hR⟩ : ∃ R, R = K.run x.nd x.l x.s x.r o := ⟨_, rfl⟩
  rw [← hR] at hI1 hI2 ⊢
  have HR := Lib.hid hR
  clear hR
  obtain ⟨w6, hw6⟩ : ∃ w6 : World, w6 = w5.alloc (.cells #[.int .i64 0, .slice A1 n1 c1, .slice A2 n2 c2, .int .i64 R.tour.end_] 30) := ⟨_, rfl⟩
  have b6 : Below w5.heap.size w5 w6 := by rw [hw6]; exact (Below.refl _ _).alloc (Nat.le_refl _) _
  have hT : TBlk w6 w5.heap.size 0 (.slice A1 n1 c1) (.slice A2 n2 c2) R.tour.end_ := by rw [hw6]; exact heap_alloc_new _ _
  have hP := hP.below b6
  have hS := hS.below b6
  have hb := bel hb b6
  have hI1 := hI1.below b6
  have hI2 := hI2.below b6
  clear b6
  have hoL : vn = o.length := hV.1
  obtain ⟨t0, t1, t2, t3⟩ := hT.cells
  cases e1 : (R.e == 0)
  · have e1' : (R.e != 0) = true := by simp [bne, e1]
    go_wp2_with fail
    go_ret
    exact ⟨rfl, by rw [← hw6]; exact hb⟩
  have e1' : (R.e != 0) = false := by simp [bne, e1]
  have hR0 : (K.run x.nd x.l x.s x.r o).e = 0 := by rw [← HR.out]; simpa using e1
  have hRk := K.run_ok hR0
  have HR0 := Lib.hid hR0
  have hn2 : n2 = vn := by rw [hI2.1, HR.out, hRk.2.2.2]; exact ((K.legs_full o [] x.s.depot x.s.start).1 hRk.2.1).trans hoL.symm
  have hn2' : ((n2 : Int) != (vn : Int)) = false := by simp [hn2]
  obtain ⟨hne, hld, hdp, hno⟩ := K.right_parts hRk.1
  obtain ⟨hck, hset, hall⟩ := T.load_parts hld
  obtain ⟨-, ⟨d0, d1⟩, st0, st1, en1⟩ := K.check_parts hck
  have HSET := Lib.hid (T.isSetFrom_mem hset)
  have HALL := Lib.hid hall
  have HOL := Lib.hid hoL
  have HN2 := Lib.hid hn2
  have HUN := Lib.hid hun
  have hu0 := K.upto_first hR0 (K.run x.nd x.l x.s x.r o).tour.times
  rw [← HR.out] at hu0
  clear hne hld hno hck hset hall hRk hR0 hoL hn2 hun e1
  obtain ⟨s0, s1, s2, s3, s4, s5⟩ := hS.cells
  rw [hw6] at s1 s2
  clear s0 s3 s4 s5
  go_wp2_with fail
  rw [← hw6]
  clear hw6 t0 t1 t2 t3 s1 s2
  go_loopw [15, 16, 17, 18, 19] (fun v15 v16 v17 v18 v19 wr => ∃ (k : Nat) (a t own : Int) (p : Bool), v19 = .int .i64 k ∧ v15 = .int .i64 a ∧ v16 = .int .i64 t ∧ v17 = .int .i64 own ∧ v18 = .bool p ∧ k ≤ vn ∧ K.Upto x.nd x.l x.s x.r o R.tour.times k a own ∧ (p = true → own ≤ t) ∧ (0 ≤ t ∧ t ≤ 2000000) ∧ Below w6.heap.size w6 wr) (fun _ _ _ _ v19 _ => vn - (intOf v19).toNat)
  case atStart => exact ⟨0, _, _, _, true, rfl, rfl, rfl, rfl, rfl, by omega, hu0, fun _ => Int.le_refl _, by omega, Below.refl _ _⟩
  case round =>
    clear hu0
    obtain ⟨k, a, t, own, p, rfl, rfl, rfl, rfl, rfl, hk, hup, hpt, ⟨tb0, tb1⟩, hbk⟩ := hrel
    have hP := hP.below hbk
    have hS := hS.below hbk
    have hT := hT.below hbk
    have hI2 := hI2.below hbk
    have HUP := Lib.hid hup
    obtain ⟨-, ha0, ho0, ho1⟩ := hup
    have HPT := Lib.hid hpt
    clear hpt
    by_cases hlt : k < vn
    · obtain ⟨adv, i, rfl, hi, ci⟩ := (hV.below (bel hb hbk)).at_ hlt
      obtain ⟨adu, bk, rfl, hbk2, cb⟩ := (hU.below (bel hb hbk)).at_ (k := k) (by rw [HUN.out]; exact hlt)
      obtain ⟨adt, y, rfl, hy, cy⟩ := hI2.at_ (k := k) (by rw [HN2.out]; exact hlt)
      have hNx := K.next HR0.out (by rw [← HR.out]; exact HUP.out) hi (by rw [← HR.out]; exact hy)
      obtain ⟨hi0, hi1⟩ := HSET.out i (List.mem_of_getElem? hi)
      obtain ⟨j, rfl⟩ : ∃ j : Nat, i = (j : Int) := ⟨i.toNat, by omega⟩
      have hjm : j < x.m := by rw [hx.reqs.1]; omega
      obtain ⟨ad, q, hB, hgq, hwq, e0, e1, e2, e3, e4, e5, e6⟩ := (hx.reqs.below (bel hb hbk)).at_ hjm
      have hqn := hx.b4 q (List.mem_of_getElem? hgq)
      obtain ⟨⟨qn0, -⟩, -, -⟩ := K.right_req (HALL.out q (List.mem_of_getElem? hgq))
      have HRQ := Lib.hid (K.req_get hgq)
      have NX := Lib.hid hNx
      have hfit := hNx.fit
      have hbd := hNx.bound
      have hwy := hNx.way
      rw [HRQ.out] at hfit hbd hwy
      obtain ⟨y0, y1, y2⟩ := hbd
      obtain ⟨wy0, wy1⟩ := hwy
      obtain ⟨wy, hwye⟩ : ∃ wy, wy = K.way x.nd x.l a (T.weight x.s x.r (o.take k)) q.node := ⟨_, rfl⟩
      rw [← hwye] at wy0 wy1
      have hmin : K.minutes x.nd x.l a (T.weight x.s x.r (o.take k)) q.node = wy := by unfold K.minutes; rw [if_pos qn0, hwye]
      have HWY := Lib.hid hwye
      have k0 : (0 : Int) ≤ (k : Int) := by omega
      have k1 : (k : Int) < (vn : Int) := by omega
      have k2 : (k : Int) < (un : Int) := by rw [HUN.out]; omega
      have k3 : (k : Int) < (n2 : Int) := by rw [HN2.out]; omega
      have k4 : (k : Int) ≤ (vc : Int) := by omega
      have j0 : (0 : Int) ≤ (j : Int) := by omega
      have j1 : (j : Int) < (x.m : Int) := by omega
      obtain ⟨wq, hwqe⟩ : ∃ wq : World, wq = wr.alloc (.cells #[.int .i64 q.node, .int .i64 q.room, .int .i64 q.kilos, .int .i64 q.service, .int .i64 q.frm, .int .i64 q.by_, .slice q.A q.n q.c] 41) := ⟨_, rfl⟩
      have hQB : QBlk wq wr.heap.size q := by rw [hwqe]; exact QBlk.new wr q
      have bq : Below wr.heap.size wr wq := by rw [hwqe]; exact (Below.refl _ _).alloc (Nat.le_refl _) _
      replace hP := hP.below bq
      replace hS := hS.below bq
      replace hT := hT.below bq
      replace hI2 := hI2.below bq
      replace hwq := hwq.below bq
      replace cy := (bq.cell (cell_lt cy)).trans cy
      replace cb := (bq.cell (cell_lt cb)).trans cb
      replace hbk := bel hbk bq
      have HB := Lib.hid hB
      rw [hB]
      clear hi hbk2 hy hgq hNx bq hwye hB
      go_wp2_with fail
      rw [← hwqe]
      clear hwqe e0 e1 e2 e3 e4 e5 e6
      obtain ⟨p0, p1, s0, s1, s2, s3, s4, s5, q0, q1, q2, q3, q4, q5, q6, t0, t1, t2, t3⟩ := ecells hP hS hQB hT
      have hA1 := hx.below (bel hb hbk)
      have f0 := Beh.cell p0
      have f1 := Beh.cell p1
      have g0 := Beh.cell s0
      have g1 := Beh.cell s1
      have g2 := Beh.cell s2
      have g3 := Beh.cell s3
      have g4 := Beh.cell s4
      have g5 := Beh.cell s5
      have h0 := Beh.cell q0
      have CW := fun z : Beh wq => weight_any x.s (some ad) x.m x.d x.r (some adv) k vc (o.take k) z.val (hA1.below z.property).rooms hA1.b2 (by rw [← HB.out]; exact (hA1.below z.property).reqs) hA1.b3 hA1.b4 (((hV.below (bel hb hbk)).below z.property).take hk) (by omega)
      have CM := fun z : Beh wq => minutes_any x.nd x.A x.n x.c x.l a q.node (T.weight x.s x.r (o.take k)) z.val (hA1.below z.property).net hA1.b1
      simp only [hmin] at CM
      go_wp2_with fail
      refine reg_beh (by kernel_rfl) (by kernel_rfl) ?_
      repeat (go_big_quiet_step ((first | (go_at_call 22; exact Beh.calls (CW _)) | (go_at_call 21; exact Beh.calls (CM _)))))
      refine wpQuiet_nil ?_
      rintro wc ⟨⟨_, bn⟩, rfl⟩
      clear f0 f1 g0 g1 g2 g3 g4 g5 h0 CW CM hA1 hmin
      replace hP := hP.below bn
      replace hS := hS.below bn
      replace hQB := hQB.below bn
      replace hT := hT.below bn
      replace hI2 := hI2.below bn
      replace hwq := hwq.below bn
      replace cy := ((bn).cell (cell_lt cy)).trans cy
      replace cb := ((bn).cell (cell_lt cb)).trans cb
      replace hbk := bel hbk bn
      clear bn
      clear p0 p1 s0 s1 s2 s3 s4 s5 q0 q1 q2 q3 q4 q5 q6 t0 t1 t2 t3
      obtain ⟨p0, p1, s0, s1, s2, s3, s4, s5, q0, q1, q2, q3, q4, q5, q6, t0, t1, t2, t3⟩ := ecells hP hS hQB hT
      have f2 := Beh.cell t2
      have h3 := Beh.cell q3
      have h6 := Beh.cell q6
      have fy := Beh.cell cy
      have CF := fun z : Beh wc => fit_any q.A q.n q.c q.l y q.service z.val (hwq.below z.property) hqn
      simp only [hfit] at CF
      go_wp2_with fail
      refine reg_beh (by kernel_rfl) (by kernel_rfl) ?_
      repeat (go_big_quiet_step ((go_at_call 23; exact Beh.calls (CF _))))
      refine wpQuiet_nil ?_
      rintro wd ⟨⟨_, bn⟩, rfl⟩
      clear f2 h3 h6 fy CF
      replace hP := hP.below bn
      replace hS := hS.below bn
      replace hQB := hQB.below bn
      replace hT := hT.below bn
      replace hI2 := hI2.below bn
      replace hwq := hwq.below bn
      replace cy := ((bn).cell (cell_lt cy)).trans cy
      replace cb := ((bn).cell (cell_lt cb)).trans cb
      replace hbk := bel hbk bn
      clear bn
      clear p0 p1 s0 s1 s2 s3 s4 s5 q0 q1 q2 q3 q4 q5 q6 t0 t1 t2 t3
      obtain ⟨p0, p1, s0, s1, s2, s3, s4, s5, q0, q1, q2, q3, q4, q5, q6, t0, t1, t2, t3⟩ := ecells hP hS hQB hT
      obtain ⟨fb, hfb⟩ : ∃ fb, fb = (H.fit q.l bk q.service).1 := ⟨_, rfl⟩
      obtain ⟨okb, hokb⟩ : ∃ okb, okb = (H.fit q.l bk q.service).2 := ⟨_, rfl⟩
      have h3 := Beh.cell q3
      have h6 := Beh.cell q6
      have fy := Beh.cell cb
      have CF := fun z : Beh wd => fit_any q.A q.n q.c q.l bk q.service z.val (hwq.below z.property) hqn
      simp only [← hfb, ← hokb] at CF
      have HFB := Lib.hid hfb
      have HOKB := Lib.hid hokb
      clear hfb hokb
      go_wp2_with fail
      refine reg_beh (by kernel_rfl) (by kernel_rfl) ?_
      repeat (go_big_quiet_step ((go_at_call 23; exact Beh.calls (CF _))))
      refine wpQuiet_nil ?_
      rintro we ⟨⟨_, bn⟩, rfl⟩
      clear h3 h6 fy CF
      replace hP := hP.below bn
      replace hS := hS.below bn
      replace hQB := hQB.below bn
      replace hT := hT.below bn
      replace hI2 := hI2.below bn
      replace hwq := hwq.below bn
      replace cy := ((bn).cell (cell_lt cy)).trans cy
      replace cb := ((bn).cell (cell_lt cb)).trans cb
      replace hbk := bel hbk bn
      clear bn
      clear p0 p1 s0 s1 s2 s3 s4 s5 q0 q1 q2 q3 q4 q5 q6 t0 t1 t2 t3
      obtain ⟨p0, p1, s0, s1, s2, s3, s4, s5, q0, q1, q2, q3, q4, q5, q6, t0, t1, t2, t3⟩ := ecells hP hS hQB hT
      have wyb := (K.way_bd x.nd x.l a (T.weight x.s x.r (o.take k)) q.node).2
      rw [← HWY.out] at wyb
      have c1 : decide (wy < 0) = false := by simp; omega
      have c2 : decide (y < own + wy) = false := by simp; omega
      have c3 : (y != y) = false := by simp
      have NXT := Lib.hid (show K.Upto x.nd x.l x.s x.r o R.tour.times (k + 1) q.node (y + q.service) by have h := NX.out.next; rw [HRQ.out, ← HR.out] at h; exact h)
      have hleast : okb = true → fb = bk → own + wy ≤ bk → y ≤ bk := fun h1 h2 h3 => by
        refine NX.out.least bk ?_ ?_ ?_
        · rw [HRQ.out, ← HOKB.out]; exact h1
        · rw [HRQ.out, ← HFB.out]; exact h2
        · rw [HRQ.out, ← HWY.out]; exact h3
      have HLEAST := Lib.hid hleast
      have hfo : okb = true → (0 ≤ bk ∧ bk ≤ 1000000) := fun h1 => (H.fit_ok (l := q.l) (t := bk) (s := q.service) (by rw [← HOKB.out]; exact h1)).2.1
      have HFO := Lib.hid hfo
      clear hleast hfo hfit
      cases p
      · skip
        go_wp2_with fail
        go_quiet (fail)
        obtain ⟨wf, hnew⟩ : ∃ wf : World, wf = we.drewN nq := ⟨_, rfl⟩
        rw [← hnew]
        have bn : Below we.heap.size we wf := by rw [hnew]; exact below_drewN (Below.refl _ _) _
        clear hnew
        replace hP := hP.below bn
        replace hS := hS.below bn
        replace hQB := hQB.below bn
        replace hT := hT.below bn
        replace hI2 := hI2.below bn
        replace hwq := hwq.below bn
        replace cy := ((bn).cell (cell_lt cy)).trans cy
        replace cb := ((bn).cell (cell_lt cb)).trans cb
        replace hbk := bel hbk bn
        clear bn
        clear p0 p1 s0 s1 s2 s3 s4 s5 q0 q1 q2 q3 q4 q5 q6 t0 t1 t2 t3
        obtain ⟨p0, p1, s0, s1, s2, s3, s4, s5, q0, q1, q2, q3, q4, q5, q6, t0, t1, t2, t3⟩ := ecells hP hS hQB hT
        go_wp2_with fail
        go_quiet (fail)
        obtain ⟨wg, hnew⟩ : ∃ wg : World, wg = wf.drewN nq := ⟨_, rfl⟩
        rw [← hnew]
        have bn : Below wf.heap.size wf wg := by rw [hnew]; exact below_drewN (Below.refl _ _) _
        clear hnew
        replace hP := hP.below bn
        replace hS := hS.below bn
        replace hQB := hQB.below bn
        replace hT := hT.below bn
        replace hI2 := hI2.below bn
        replace hwq := hwq.below bn
        replace cy := ((bn).cell (cell_lt cy)).trans cy
        replace cb := ((bn).cell (cell_lt cb)).trans cb
        replace hbk := bel hbk bn
        clear bn
        clear p0 p1 s0 s1 s2 s3 s4 s5 q0 q1 q2 q3 q4 q5 q6 t0 t1 t2 t3
        obtain ⟨p0, p1, s0, s1, s2, s3, s4, s5, q0, q1, q2, q3, q4, q5, q6, t0, t1, t2, t3⟩ := ecells hP hS hQB hT
        go_wp2_with fail
        go_roundw
        case rel => exact ⟨k + 1, _, _, _, false, by go_num, rfl, rfl, rfl, rfl, by omega, NXT.out, fun h => by simp at h, ⟨tb0, tb1⟩, hbk⟩
        case measure => simp [intOf]; omega
      cases hko : okb
      · subst hko
        go_wp2_with fail
        go_quiet (fail)
        obtain ⟨wf, hnew⟩ : ∃ wf : World, wf = we.drewN nq := ⟨_, rfl⟩
        rw [← hnew]
        have bn : Below we.heap.size we wf := by rw [hnew]; exact below_drewN (Below.refl _ _) _
        clear hnew
        replace hP := hP.below bn
        replace hS := hS.below bn
        replace hQB := hQB.below bn
        replace hT := hT.below bn
        replace hI2 := hI2.below bn
        replace hwq := hwq.below bn
        replace cy := ((bn).cell (cell_lt cy)).trans cy
        replace cb := ((bn).cell (cell_lt cb)).trans cb
        replace hbk := bel hbk bn
        clear bn
        clear p0 p1 s0 s1 s2 s3 s4 s5 q0 q1 q2 q3 q4 q5 q6 t0 t1 t2 t3
        obtain ⟨p0, p1, s0, s1, s2, s3, s4, s5, q0, q1, q2, q3, q4, q5, q6, t0, t1, t2, t3⟩ := ecells hP hS hQB hT
        go_wp2_with fail
        go_quiet (fail)
        obtain ⟨wg, hnew⟩ : ∃ wg : World, wg = wf.drewN nq := ⟨_, rfl⟩
        rw [← hnew]
        have bn : Below wf.heap.size wf wg := by rw [hnew]; exact below_drewN (Below.refl _ _) _
        clear hnew
        replace hP := hP.below bn
        replace hS := hS.below bn
        replace hQB := hQB.below bn
        replace hT := hT.below bn
        replace hI2 := hI2.below bn
        replace hwq := hwq.below bn
        replace cy := ((bn).cell (cell_lt cy)).trans cy
        replace cb := ((bn).cell (cell_lt cb)).trans cb
        replace hbk := bel hbk bn
        clear bn
        clear p0 p1 s0 s1 s2 s3 s4 s5 q0 q1 q2 q3 q4 q5 q6 t0 t1 t2 t3
        obtain ⟨p0, p1, s0, s1, s2, s3, s4, s5, q0, q1, q2, q3, q4, q5, q6, t0, t1, t2, t3⟩ := ecells hP hS hQB hT
        go_wp2_with fail
        go_roundw
        case rel => exact ⟨k + 1, _, _, _, false, by go_num, rfl, rfl, rfl, rfl, by omega, NXT.out, fun h => by simp at h, ⟨tb0, tb1⟩, hbk⟩
        case measure => simp [intOf]; omega
      subst hko
      have bkb := HFO.out rfl
      obtain ⟨bk0, bk1⟩ := bkb
      cases heq : (fb == bk)
      · skip
        go_wp2_with fail
        go_quiet (fail)
        obtain ⟨wf, hnew⟩ : ∃ wf : World, wf = we.drewN nq := ⟨_, rfl⟩
        rw [← hnew]
        have bn : Below we.heap.size we wf := by rw [hnew]; exact below_drewN (Below.refl _ _) _
        clear hnew
        replace hP := hP.below bn
        replace hS := hS.below bn
        replace hQB := hQB.below bn
        replace hT := hT.below bn
        replace hI2 := hI2.below bn
        replace hwq := hwq.below bn
        replace cy := ((bn).cell (cell_lt cy)).trans cy
        replace cb := ((bn).cell (cell_lt cb)).trans cb
        replace hbk := bel hbk bn
        clear bn
        clear p0 p1 s0 s1 s2 s3 s4 s5 q0 q1 q2 q3 q4 q5 q6 t0 t1 t2 t3
        obtain ⟨p0, p1, s0, s1, s2, s3, s4, s5, q0, q1, q2, q3, q4, q5, q6, t0, t1, t2, t3⟩ := ecells hP hS hQB hT
        go_wp2_with fail
        go_quiet (fail)
        obtain ⟨wg, hnew⟩ : ∃ wg : World, wg = wf.drewN nq := ⟨_, rfl⟩
        rw [← hnew]
        have bn : Below wf.heap.size wf wg := by rw [hnew]; exact below_drewN (Below.refl _ _) _
        clear hnew
        replace hP := hP.below bn
        replace hS := hS.below bn
        replace hQB := hQB.below bn
        replace hT := hT.below bn
        replace hI2 := hI2.below bn
        replace hwq := hwq.below bn
        replace cy := ((bn).cell (cell_lt cy)).trans cy
        replace cb := ((bn).cell (cell_lt cb)).trans cb
        replace hbk := bel hbk bn
        clear bn
        clear p0 p1 s0 s1 s2 s3 s4 s5 q0 q1 q2 q3 q4 q5 q6 t0 t1 t2 t3
        obtain ⟨p0, p1, s0, s1, s2, s3, s4, s5, q0, q1, q2, q3, q4, q5, q6, t0, t1, t2, t3⟩ := ecells hP hS hQB hT
        go_wp2_with fail
        go_roundw
        case rel => exact ⟨k + 1, _, _, _, false, by go_num, rfl, rfl, rfl, rfl, by omega, NXT.out, fun h => by simp at h, ⟨tb0, tb1⟩, hbk⟩
        case measure => simp [intOf]; omega
      by_cases hge : t + wy ≤ bk
      · have hot := HPT.out rfl
        have hyb : y ≤ bk := HLEAST.out rfl (by simpa using heq) (by omega)
        have c4 : decide (bk < y) = false := by simp; omega
        have HYB := Lib.hid hyb
        clear hot hyb
        go_wp2_with fail
        go_quiet (fail)
        obtain ⟨wf, hnew⟩ : ∃ wf : World, wf = we.drewN nq := ⟨_, rfl⟩
        rw [← hnew]
        have bn : Below we.heap.size we wf := by rw [hnew]; exact below_drewN (Below.refl _ _) _
        clear hnew
        replace hP := hP.below bn
        replace hS := hS.below bn
        replace hQB := hQB.below bn
        replace hT := hT.below bn
        replace hI2 := hI2.below bn
        replace hwq := hwq.below bn
        replace cy := ((bn).cell (cell_lt cy)).trans cy
        replace cb := ((bn).cell (cell_lt cb)).trans cb
        replace hbk := bel hbk bn
        clear bn
        clear p0 p1 s0 s1 s2 s3 s4 s5 q0 q1 q2 q3 q4 q5 q6 t0 t1 t2 t3
        obtain ⟨p0, p1, s0, s1, s2, s3, s4, s5, q0, q1, q2, q3, q4, q5, q6, t0, t1, t2, t3⟩ := ecells hP hS hQB hT
        go_wp2_with fail
        go_quiet (fail)
        obtain ⟨wg, hnew⟩ : ∃ wg : World, wg = wf.drewN nq := ⟨_, rfl⟩
        rw [← hnew]
        have bn : Below wf.heap.size wf wg := by rw [hnew]; exact below_drewN (Below.refl _ _) _
        clear hnew
        replace hP := hP.below bn
        replace hS := hS.below bn
        replace hQB := hQB.below bn
        replace hT := hT.below bn
        replace hI2 := hI2.below bn
        replace hwq := hwq.below bn
        replace cy := ((bn).cell (cell_lt cy)).trans cy
        replace cb := ((bn).cell (cell_lt cb)).trans cb
        replace hbk := bel hbk bn
        clear bn
        clear p0 p1 s0 s1 s2 s3 s4 s5 q0 q1 q2 q3 q4 q5 q6 t0 t1 t2 t3
        obtain ⟨p0, p1, s0, s1, s2, s3, s4, s5, q0, q1, q2, q3, q4, q5, q6, t0, t1, t2, t3⟩ := ecells hP hS hQB hT
        go_wp2_with fail
        go_quiet (fail)
        obtain ⟨wh, hnew⟩ : ∃ wh : World, wh = wg.drewN nq := ⟨_, rfl⟩
        rw [← hnew]
        have bn : Below wg.heap.size wg wh := by rw [hnew]; exact below_drewN (Below.refl _ _) _
        clear hnew
        replace hP := hP.below bn
        replace hS := hS.below bn
        replace hQB := hQB.below bn
        replace hT := hT.below bn
        replace hI2 := hI2.below bn
        replace hwq := hwq.below bn
        replace cy := ((bn).cell (cell_lt cy)).trans cy
        replace cb := ((bn).cell (cell_lt cb)).trans cb
        replace hbk := bel hbk bn
        clear bn
        clear p0 p1 s0 s1 s2 s3 s4 s5 q0 q1 q2 q3 q4 q5 q6 t0 t1 t2 t3
        obtain ⟨p0, p1, s0, s1, s2, s3, s4, s5, q0, q1, q2, q3, q4, q5, q6, t0, t1, t2, t3⟩ := ecells hP hS hQB hT
        go_wp2_with fail
        go_roundw
        case rel => exact ⟨k + 1, _, _, _, true, by go_num, rfl, rfl, rfl, rfl, by omega, NXT.out, fun _ => by have := HYB.out; omega, ⟨by omega, by omega⟩, hbk⟩
        case measure => simp [intOf]; omega
      · skip
        go_wp2_with fail
        go_quiet (fail)
        obtain ⟨wf, hnew⟩ : ∃ wf : World, wf = we.drewN nq := ⟨_, rfl⟩
        rw [← hnew]
        have bn : Below we.heap.size we wf := by rw [hnew]; exact below_drewN (Below.refl _ _) _
        clear hnew
        replace hP := hP.below bn
        replace hS := hS.below bn
        replace hQB := hQB.below bn
        replace hT := hT.below bn
        replace hI2 := hI2.below bn
        replace hwq := hwq.below bn
        replace cy := ((bn).cell (cell_lt cy)).trans cy
        replace cb := ((bn).cell (cell_lt cb)).trans cb
        replace hbk := bel hbk bn
        clear bn
        clear p0 p1 s0 s1 s2 s3 s4 s5 q0 q1 q2 q3 q4 q5 q6 t0 t1 t2 t3
        obtain ⟨p0, p1, s0, s1, s2, s3, s4, s5, q0, q1, q2, q3, q4, q5, q6, t0, t1, t2, t3⟩ := ecells hP hS hQB hT
        go_wp2_with fail
        go_quiet (fail)
        obtain ⟨wg, hnew⟩ : ∃ wg : World, wg = wf.drewN nq := ⟨_, rfl⟩
        rw [← hnew]
        have bn : Below wf.heap.size wf wg := by rw [hnew]; exact below_drewN (Below.refl _ _) _
        clear hnew
        replace hP := hP.below bn
        replace hS := hS.below bn
        replace hQB := hQB.below bn
        replace hT := hT.below bn
        replace hI2 := hI2.below bn
        replace hwq := hwq.below bn
        replace cy := ((bn).cell (cell_lt cy)).trans cy
        replace cb := ((bn).cell (cell_lt cb)).trans cb
        replace hbk := bel hbk bn
        clear bn
        clear p0 p1 s0 s1 s2 s3 s4 s5 q0 q1 q2 q3 q4 q5 q6 t0 t1 t2 t3
        obtain ⟨p0, p1, s0, s1, s2, s3, s4, s5, q0, q1, q2, q3, q4, q5, q6, t0, t1, t2, t3⟩ := ecells hP hS hQB hT
        go_wp2_with fail
        go_roundw
        case rel => exact ⟨k + 1, _, _, _, false, by go_num, rfl, rfl, rfl, rfl, by omega, NXT.out, fun h => by simp at h, ⟨tb0, tb1⟩, hbk⟩
        case measure => simp [intOf]; omega
    · obtain rfl : vn = k := by omega
      have hto : o.take vn = o := List.take_of_length_le (by rw [← HOL.out]; omega)
      have hlast := K.last HR0.out (a := a) (t := own) (by rw [← HR.out, ← HOL.out]; exact HUP.out)
      rw [← HR.out] at hlast
      obtain ⟨wy, hwye⟩ : ∃ wy, wy = K.way x.nd x.l a (T.weight x.s x.r o) x.s.depot := ⟨_, rfl⟩
      rw [← hwye] at hlast
      obtain ⟨wy0, hre, hre2⟩ := hlast
      have hmin : K.minutes x.nd x.l a (T.weight x.s x.r o) x.s.depot = wy := by unfold K.minutes; rw [if_pos d0, hwye]
      have wyb := (K.way_bd x.nd x.l a (T.weight x.s x.r o) x.s.depot).2
      rw [← hwye] at wyb
      obtain ⟨s0, s1, s2, s3, s4, s5⟩ := hS.cells
      obtain ⟨t0, t1, t2, t3⟩ := hT.cells
      have p0 := hP.c0
      have p1 := hP.c1
      have hA1 := hx.below (bel hb hbk)
      have f0 := Beh.cell p0
      have f1 := Beh.cell p1
      have g0 := Beh.cell s0
      have g1 := Beh.cell s1
      have g2 := Beh.cell s2
      have g3 := Beh.cell s3
      have g4 := Beh.cell s4
      have g5 := Beh.cell s5
      have CW := fun z : Beh wr => weight_any x.s x.B x.m x.d x.r V vn vc o z.val (hA1.below z.property).rooms hA1.b2 (hA1.below z.property).reqs hA1.b3 hA1.b4 ((hV.below (bel hb hbk)).below z.property) (by omega)
      have CM := fun z : Beh wr => minutes_any x.nd x.A x.n x.c x.l a x.s.depot (T.weight x.s x.r o) z.val (hA1.below z.property).net hA1.b1
      simp only [hmin] at CM
      have HRE := Lib.hid hre
      clear hwye hmin hto
      go_wp2_with fail
      refine reg_beh (by kernel_rfl) (by kernel_rfl) ?_
      repeat (go_big_quiet_step ((first | (go_at_call 22; exact Beh.calls (CW _)) | (go_at_call 21; exact Beh.calls (CM _)))))
      refine wpQuiet_nil ?_
      rintro wc ⟨⟨_, bn⟩, rfl⟩
      clear f0 f1 g0 g1 g2 g3 g4 g5 CW CM hA1 p0 p1 s0 s1 s2 s3 s4 s5 t0 t1 t2 t3
      replace hS := hS.below bn
      replace hT := hT.below bn
      replace hbk := bel hbk bn
      obtain ⟨s0, s1, s2, s3, s4, s5⟩ := hS.cells
      obtain ⟨t0, t1, t2, t3⟩ := hT.cells
      have c1 : decide (0 ≤ wy) = true := by simp; omega
      have c2 : (R.tour.end_ == own + wy) = true := by simp [HRE.out]
      have c3 : decide (R.tour.end_ ≤ x.s.end_) = true := by simp; omega
      have hbF := bel hb hbk
      cases p
      · clear hre
        go_wp2_with fail
        go_ret
        exact ⟨rfl, hbF⟩
      · have hot := HPT.out rfl
        have c4 : decide (R.tour.end_ ≤ t + wy) = true := by simp; omega
        clear hre
        go_wp2_with fail
        go_ret
        exact ⟨rfl, hbF⟩
end Go.Proofs.Ytjcdpfpdjcannaa
