/-
The walk of the law TourBegins.
-/
import Derived.Test.YtjcdpfpdjcannaaBE
import Derived.Test.YtjcdpfpdjcannaaBD
import Derived.Deep.RegionHeld3
namespace Go.Proofs.Ytjcdpfpdjcannaa
open Go.RowKit

/-- The cells of the network's block and the shift's, in a world behind w. -/
def LAt (w : World) (b : Nat) (x : C) (w' : World) : Prop :=
  Below w.heap.size w w' ∧ w'.cell? ⟨b, 0, none⟩ = some (.int .i64 x.nd) ∧ w'.cell? ⟨b, 1, none⟩ = some (.slice x.A x.n x.c) ∧ w'.cell? ⟨b + 1, 0, none⟩ = some (.int .i64 x.s.day) ∧ w'.cell? ⟨b + 1, 1, none⟩ = some (.int .i64 x.s.depot) ∧ w'.cell? ⟨b + 1, 2, none⟩ = some (.int .i64 x.s.start) ∧
    w'.cell? ⟨b + 1, 3, none⟩ = some (.int .i64 x.s.end_) ∧ w'.cell? ⟨b + 1, 4, none⟩ = some (.int .i64 x.s.tare) ∧ w'.cell? ⟨b + 1, 5, none⟩ = some (.slice x.s.A x.s.n x.s.c)
theorem LAt.mk' {w : World} {b : Nat} {x : C} (hP : Net w b x.nd x.A x.n x.c) (hS : Shf w (b + 1) x.s) {w' : World} (hb : Below w.heap.size w w') : LAt w b x w' := by
  have h1 := hP.below hb
  have h2 := hS.below hb
  obtain ⟨s0, s1, s2, s3, s4, s5⟩ := h2.cells
  exact ⟨hb, h1.c0, h1.c1, s0, s1, s2, s3, s4, s5⟩

theorem blk_free {w : World} {g : Nat} {cs : Array Value} {t : TypeId} (h : w.heap[g]? = some (.cells cs t (0, 0))) (i : Nat) : w.frozen? ⟨g, i, none⟩ = false := by simp [World.frozen?, h]

/-- A slice's beginning. -/
theorem Ints.take {w : World} {A : Option Addr} {n : Nat} {l : List Int} (h : Ints w A n l) {k : Nat} (hk : k ≤ n) : Ints w A k (l.take k) := by
  refine ⟨by rw [List.length_take, ← h.1]; omega, by simp [intCells]; have := h.1; omega, fun h0 => ?_⟩
  obtain ⟨ad, e, hc⟩ := h.2.2 (by omega)
  refine ⟨ad, e, fun j u hu => hc j u ?_⟩
  rw [intCells, List.map_take, List.getElem?_take] at hu
  split at hu
  · exact hu
  · cases hu

set_option maxRecDepth 100000 in
set_option maxHeartbeats 16000000 in
theorem begins_any (x : C) (V : Option Addr) (vn vc : Nat) (o : List Int) (which : Int) (w : World) (hN : Roads w x.A x.n x.l) (hS0 : Ints w x.s.A x.s.n x.s.l) (hQ : Reqs w x.B x.m x.r) (hV : Ints w V vn o) (hwh : (Lit.int .u8 which).wf = true) (hvc : vn ≤ vc) :
    Calls Try.prog 6 #[.agg #[.int .i64 x.nd, .slice x.A x.n x.c], .agg #[.int .i64 x.s.day, .int .i64 x.s.depot, .int .i64 x.s.start, .int .i64 x.s.end_, .int .i64 x.s.tare, .slice x.s.A x.s.n x.s.c], .slice x.B x.m x.d, .slice V vn vc, .int .u8 which] w fun e w' => e = .returned (.bool true) ∧ Below w.heap.size w w' := by
  obtain ⟨w1, hw1⟩ : ∃ w1 : World, w1 = w.alloc (.cells #[.int .i64 x.nd, .slice x.A x.n x.c] 24) := ⟨_, rfl⟩
  obtain ⟨w2, hw2⟩ : ∃ w2 : World, w2 = w1.alloc (.cells #[.int .i64 x.s.day, .int .i64 x.s.depot, .int .i64 x.s.start, .int .i64 x.s.end_, .int .i64 x.s.tare, .slice x.s.A x.s.n x.s.c] 27) := ⟨_, rfl⟩
  have z1 : w1.heap.size = w.heap.size + 1 := by rw [hw1]; exact World.size_alloc _ _
  have b01 : Below w.heap.size w w1 := by rw [hw1]; exact (Below.refl _ _).alloc (Nat.le_refl _) _
  have b12 : Below w1.heap.size w1 w2 := by rw [hw2]; exact (Below.refl _ _).alloc (Nat.le_refl _) _
  have hP : Net w2 w.heap.size x.nd x.A x.n x.c := by
    have h1 : Net w1 w.heap.size x.nd x.A x.n x.c := by rw [hw1]; exact Net.new _ _ _ _ _
    exact h1.below b12
  have hS : Shf w2 (w.heap.size + 1) x.s := by rw [← z1, hw2]; exact Shf.new _ _
  have hb := bel b01 b12
  go_enter Try.func6, Try.ntmps6
  go_wp2_with fail
  rw [← hw1, ← hw2]
  clear hw1 hw2 z1 b01 b12
  refine (small_any _).mono ?_
  rintro e w3 ⟨rfl, b3⟩
  have hP := hP.below b3
  have hS := hS.below b3
  have hb := bel hb b3
  clear b3
  have p0 := hP.c0
  have p1 := hP.c1
  obtain ⟨s0, s1, s2, s3, s4, s5⟩ := hS.cells
  go_wp2_with fail
  refine (few30_any x _ (hQ.below hb)).mono ?_
  rintro e w4 ⟨rfl, b4⟩
  have hP := hP.below b4
  have hS := hS.below b4
  have hb := bel hb b4
  clear b4 p0 p1 s0 s1 s2 s3 s4 s5
  have p0 := hP.c0
  have p1 := hP.c1
  obtain ⟨s0, s1, s2, s3, s4, s5⟩ := hS.cells
  cases hf : K.few30 x.nd x.n x.s x.r
  · clear hf
    go_wp2_with fail
    go_ret
    exact ⟨rfl, hb⟩
  obtain ⟨hf1, hf2, hf3, hf4⟩ := K.few_parts hf
  have hx : At w x := ⟨hN, hS0, hQ, by omega, by omega, by rw [hQ.1]; omega, fun q hq => by have := hf4 q hq; omega⟩
  have hm6 : x.m ≤ 6 := by rw [hQ.1]; exact hf3
  clear hf1 hf2 hf3 hf4 hf
  by_cases hv6 : 6 < vn
  · go_wp2_with fail
    go_ret
    exact ⟨rfl, hb⟩
  have hv6' : decide ((6 : Int) < (vn : Int)) = false := by simp; omega
  go_wp2_with fail
  refine (run_any x V vn vc o _ (hx.below hb) (hV.below hb) (by omega)).mono ?_
  rintro e w5 ⟨⟨A1, n1, c1, A2, n2, c2, rfl, hI1, hI2, -⟩, b5⟩
  have hP := hP.below b5
  have hS := hS.below b5
  have hb := bel hb b5
  clear b5 p0 p1 s0 s1 s2 s3 s4 s5
  obtain ⟨R, hR⟩ : ∃ R, R = K.run x.nd x.l x.s x.r o := ⟨_, rfl⟩
  rw [← hR] at hI1 hI2 ⊢
  have HR := Lib.hid hR
  clear hR
  obtain ⟨w6, hw6⟩ : ∃ w6 : World, w6 = w5.alloc (.cells #[.int .i64 0, .slice A1 n1 c1, .slice A2 n2 c2, .int .i64 R.tour.end_] 30) := ⟨_, rfl⟩
  have b6 : Below w5.heap.size w5 w6 := by rw [hw6]; exact (Below.refl _ _).alloc (Nat.le_refl _) _
  have hT : TBlk w6 w5.heap.size 0 (.slice A1 n1 c1) (.slice A2 n2 c2) R.tour.end_ := by rw [hw6]; exact heap_alloc_new _ _
  have hP := hP.below b6
  have hS := hS.below b6
  have hb := bel hb b6
  have hI1 := hI1.below b6
  have hI2 := hI2.below b6
  clear b6
  have hwi : 0 ≤ which ∧ which ≤ 255 := by
    simp [Lit.wf] at hwh
    exact hwh
  obtain ⟨hw0, hw255⟩ := hwi
  obtain ⟨k, hk⟩ : ∃ k : Nat, which % ((vn : Int) + 1) = (k : Int) := ⟨(which % ((vn : Int) + 1)).toNat, by have := Int.emod_nonneg which (show ((vn : Int) + 1) ≠ 0 by omega); omega⟩
  have hkv : k ≤ vn := by have := Int.emod_lt_of_pos which (show (0 : Int) < (vn : Int) + 1 by omega); omega
  have hoL : vn = o.length := hV.1
  obtain ⟨t0, t1, t2, t3⟩ := hT.cells
  cases e1 : (R.e == 1)
  rotate_left
  · have hn0 : R.n = 0 := by
      have h := HR.out
      rcases K.run_cases x.nd x.l x.s x.r o with ⟨_, e⟩ | ⟨_, h1, e⟩ | ⟨_, _, h1, e⟩ | ⟨_, _, _, e⟩
      · rw [h, e]
      all_goals
        exfalso
        have h9 : R.e = 1 := by simpa using e1
        rw [h, e] at h9
      · have := K.legs_err (nd := x.nd) (l := x.l) (s := x.s) (r := x.r) o [] x.s.depot x.s.start
        unfold K.all at h9
        simp only at h9
        omega
      · have := K.reach_err x.nd x.l x.s x.r o (K.all x.nd x.l x.s x.r o).a (K.all x.nd x.l x.s x.r o).t x.s.depot
        unfold K.back at h9
        simp only at h9
        omega
      · simp at h9
    have hn0' : ((R.n : Int) == 0) = true := by simp [hn0]
    clear hn0 hoL hk
    go_wp2_with fail
    go_ret
    exact ⟨rfl, by rw [← hw6]; exact hb⟩
  have h1 : R.e ≠ 1 := by simpa using e1
  have HLAW := Lib.hid (K.begins_law (nd := x.nd) (l := x.l) (s := x.s) (r := x.r) (o := o) (k := k) (by omega) (by rw [← HR.out]; exact h1))
  have hnle : R.n ≤ vn := by rw [HR.out, hoL]; exact HLAW.out.1
  have HOL := Lib.hid hoL
  have HK := Lib.hid hk
  have hnle' : decide ((vn : Int) < (R.n : Int)) = false := by simp; omega
  have hnneg : decide ((R.n : Int) < 0) = false := by simp
  have hrem : which.tmod ((vn : Int) + 1) = (k : Int) := by rw [Int.tmod_eq_emod_of_nonneg hw0]; exact hk
  clear h1 hoL hk
  go_wp2_with fail
  rw [← hw6]
  clear hw6 t0 t1 t2 t3
  have hVk := fun w' (h : LAt w6 w.heap.size x w') => ((hV.below (bel hb h.1)).take hkv)
  have S0 := LAt.mk' hP hS (Below.refl w6.heap.size w6)
  have hAx : ∀ w', LAt w6 w.heap.size x w' → At w' x := fun w' h => hx.below (bel hb h.1)
  have hSn : ∀ w' w'', LAt w6 w.heap.size x w' → Below w'.heap.size w' w'' → LAt w6 w.heap.size x w'' := fun w' w'' h hb' => LAt.mk' hP hS (bel h.1 hb')
  have hSd : ∀ w', LAt w6 w.heap.size x w' → LAt w6 w.heap.size x w'.drew := fun w' h => LAt.mk' hP hS h.1.drew
  have hSa : ∀ w' o', LAt w6 w.heap.size x w' → LAt w6 w.heap.size x (w'.alloc o') := fun w' o' h => LAt.mk' hP hS (bel h.1 ((Below.refl _ _).alloc (Nat.le_refl _) _))
  have hSs : ∀ (w' : World) (i : Nat) (v : Value), LAt w6 w.heap.size x w' → LAt w6 w.heap.size x (w'.setCell ⟨w6.heap.size, i, none⟩ v) := fun w' i v h => LAt.mk' hP hS (h.1.setCell (Nat.le_refl _) _)
  have k0 : (0 : Int) ≤ (k : Int) := by omega
  have k1 : (k : Int) ≤ (vc : Int) := by omega
  go_region_held3 (fun w' => Below w6.heap.size w6 w' ∧ w'.cell? ⟨w.heap.size, 0, none⟩ = some (.int .i64 x.nd) ∧ w'.cell? ⟨w.heap.size, 1, none⟩ = some (.slice x.A x.n x.c) ∧ w'.cell? ⟨w.heap.size + 1, 0, none⟩ = some (.int .i64 x.s.day) ∧ w'.cell? ⟨w.heap.size + 1, 1, none⟩ = some (.int .i64 x.s.depot) ∧ w'.cell? ⟨w.heap.size + 1, 2, none⟩ = some (.int .i64 x.s.start) ∧
    w'.cell? ⟨w.heap.size + 1, 3, none⟩ = some (.int .i64 x.s.end_) ∧ w'.cell? ⟨w.heap.size + 1, 4, none⟩ = some (.int .i64 x.s.tare) ∧ w'.cell? ⟨w.heap.size + 1, 5, none⟩ = some (.slice x.s.A x.s.n x.s.c))
    (first | assumption | exact S0 | exact hSd _ (by assumption) | exact hSa _ _ (by assumption) | exact hSa _ _ (hSn _ _ (hSd _ S0) (by assumption)) | exact hSs _ _ _ (hSs _ _ _ (hSs _ _ _ (hSs _ _ _ (by assumption)))) | exact hSn _ _ (by assumption) (by assumption))
    (first
      | (go_at_call 16; refine (run_any x V k vc (o.take k) _ (hAx _ ?_) (hVk _ ?_) (by omega)).mono ?_; assumption; assumption; rintro e w' ⟨⟨A3, n3, c3, A4, n4, c4, rfl, hI3, hI4, hA3, hA4⟩, hbn⟩; (first | (have hz := blk_below hbn (heap_alloc_new w6 (.cells #[.int .i64 0, .slice none 0 0, .slice none 0 0, .int .i64 0] 30)); have hz0 := blk_cell hz 0 _ rfl; have hz1 := blk_cell hz 1 _ rfl; have hz2 := blk_cell hz 2 _ rfl; have hz3 := blk_cell hz 3 _ rfl; have hzf := blk_free hz) | skip)))
  · obtain ⟨wz, hwz⟩ : ∃ wz : World, wz = w'.alloc (.cells #[.int .i64 0, .slice A3 n3 c3, .slice A4 n4 c4, .int .i64 (K.run x.nd x.l x.s x.r (o.take k)).tour.end_] 30) := ⟨_, rfl⟩
    have hbz0 : Below w6.heap.size w6 wz := by rw [hwz]; exact bel (bel ((Below.refl _ _).drew) hbn) ((Below.refl _ _).alloc (Nat.le_refl _) _)
    have hbz1 : Below w'.heap.size w' wz := by rw [hwz]; exact (Below.refl _ _).alloc (Nat.le_refl _) _
    have hTz : TBlk wz w'.heap.size 0 (.slice A3 n3 c3) (.slice A4 n4 c4) (K.run x.nd x.l x.s x.r (o.take k)).tour.end_ := by rw [hwz]; exact heap_alloc_new _ _
    have hI3 := hI3.below hbz1
    have hI4 := hI4.below hbz1
    rw [← hwz]
    have hHN := hwz
    clear hwz
    have hP := hP.below hbz0
    have hS := hS.below hbz0
    have hT := hT.below hbz0
    have hI1 := hI1.below hbz0
    have hI2 := hI2.below hbz0
    have hbz := bel hb hbz0
    clear hbz0
    obtain ⟨Y, hY⟩ : ∃ Y, Y = K.run x.nd x.l x.s x.r (o.take k) := ⟨_, rfl⟩
    have hLW := HLAW.out.2
    rw [← hY] at hLW hI3 hI4 ⊢
    rw [← HR.out] at hLW
    obtain ⟨L1, L2, L3⟩ := hLW
    clear hY hHN hVk S0 hAx hSn hSd hSa hSs
    obtain ⟨t0, t1, t2, t3⟩ := hT.cells
    obtain ⟨y0, y1, y2, y3⟩ := hTz.cells
    by_cases hkn : R.n < k
    · obtain ⟨g1, g2⟩ := L1 hkn
      have g1' : (Y.e == R.e) = true := by simp [g1]
      have g2' : ((Y.n : Int) == (R.n : Int)) = true := by simp [g2]
      clear g1 g2 L1 L2 L3
      go_wp2_with fail
      go_ret
      exact ⟨rfl, hbz⟩
    have hkn' : decide ((R.n : Int) < (k : Int)) = false := by simp; omega
    have hL2 := L2 (by omega)
    have hL3 := L3 (by omega)
    clear L1 L2 L3
    cases fe : (Y.e == 0)
    · have fe' : (Y.e != 0) = true := by simp [bne, fe]
      have hne : ¬ Y.e = 0 := by simpa using fe
      rcases hL2 with h | ⟨h, hn⟩
      · exact absurd h hne
      have hnk : ((Y.n : Int) != (k : Int)) = false := by simp [hn]
      clear hL3
      rcases h with h | h
      · have q4 : (Y.e != 4) = false := by simp [h]
        clear h hn hne
        cases re : (R.e != 0)
        · go_wp2_with fail
          go_ret
          exact ⟨rfl, hbz⟩
        · go_wp2_with fail
          go_ret
          exact ⟨rfl, hbz⟩
      · have q4 : (Y.e != 4) = true := by simp [h]
        have q18 : (Y.e != 18) = false := by simp [h]
        clear h hn hne
        cases re : (R.e != 0)
        · go_wp2_with fail
          go_ret
          exact ⟨rfl, hbz⟩
        · go_wp2_with fail
          go_ret
          exact ⟨rfl, hbz⟩
    have fe' : (Y.e != 0) = false := by simp [bne, fe]
    have hY0 : Y.e = 0 := by simpa using fe
    clear hL2
    cases re : (R.e == 0)
    · have re' : (R.e != 0) = true := by simp [bne, re]
      clear hY0 hL3
      go_wp2_with fail
      go_ret
      exact ⟨rfl, hbz⟩
    have re' : (R.e != 0) = false := by simp [bne, re]
    obtain ⟨m1, m2⟩ := hL3 (by simpa using re) hY0
    have hn4 : n4 = k := by rw [hI4.1, m1, List.length_take, m2, ← HOL.out]; omega
    have hn2 : n2 = vn := by rw [hI2.1, m2, ← HOL.out]
    have hn4' : ((n4 : Int) != (k : Int)) = false := by simp [hn4]
    have hn2' : ((n2 : Int) != (vn : Int)) = false := by simp [hn2]
    have M1 := Lib.hid m1
    have HN4 := Lib.hid hn4
    have HN2 := Lib.hid hn2
    clear hL3 hY0 m1 m2 hn4 hn2
    go_wp2_with fail
    go_loopw [19] (fun vi wr => ∃ j : Nat, vi = .int .i64 j ∧ j ≤ k ∧ Below wz.heap.size wz wr) (fun vi _ => k - (intOf vi).toNat)
    case atStart => exact ⟨0, rfl, by omega, Below.refl _ _⟩
    case round =>
      obtain ⟨j, rfl, hj, hbr⟩ := hrel
      have hbw := bel hbz hbr
      clear t0 t1 t2 t3 y0 y1 y2 y3
      obtain ⟨t0, t1, t2, t3⟩ := (hT.below hbr).cells
      obtain ⟨y0, y1, y2, y3⟩ := (hTz.below hbr).cells
      by_cases hjk : j < k
      · obtain ⟨a2, u, rfl, hu, cu⟩ := (hI2.below hbr).at_ (k := j) (by rw [HN2.out]; omega)
        obtain ⟨a4, v, rfl, hv, cv⟩ := (hI4.below hbr).at_ (k := j) (by rw [HN4.out]; omega)
        rw [M1.out, List.getElem?_take, if_pos hjk, hu] at hv
        injection hv with hv
        subst hv
        have j0 : (0 : Int) ≤ (j : Int) := by omega
        have j1 : (j : Int) < (n2 : Int) := by rw [HN2.out]; omega
        have j2 : (j : Int) < (n4 : Int) := by rw [HN4.out]; omega
        have q0 : (u != u) = false := by simp
        clear hu
        go_wp2_with fail
        go_quiet (fail)
        go_wp2_with fail
        go_roundw
        case rel => exact ⟨j + 1, by go_num, by omega, below_drewN hbr _⟩
        case measure => simp [intOf]; omega
      · go_wp2_with fail
        go_ret
        exact ⟨rfl, hbw⟩
  · obtain ⟨wz, hwz⟩ : ∃ wz : World, wz = (((w'.setCell ⟨w6.heap.size, 0, none⟩ (.int .i64 0)).setCell ⟨w6.heap.size, 1, none⟩ (.slice A3 n3 c3)).setCell ⟨w6.heap.size, 2, none⟩ (.slice A4 n4 c4)).setCell ⟨w6.heap.size, 3, none⟩ (.int .i64 (K.run x.nd x.l x.s x.r (o.take k)).tour.end_) := ⟨_, rfl⟩
    have hb0 : Below w6.heap.size w6 w' := bel (((Below.refl _ _).alloc (Nat.le_refl _) _).drew) hbn
    have hbz0 : Below w6.heap.size w6 wz := by rw [hwz]; exact (((hb0.setCell (Nat.le_refl _) _).setCell (Nat.le_refl _) _).setCell (Nat.le_refl _) _).setCell (Nat.le_refl _) _
    have hTz : TBlk wz w6.heap.size 0 (.slice A3 n3 c3) (.slice A4 n4 c4) (K.run x.nd x.l x.s x.r (o.take k)).tour.end_ := by rw [hwz]; exact blk_set (blk_set (blk_set (blk_set hz 0 _) 1 _) 2 _) 3 _
    have hA3' : ∀ ad, A3 = some ad → ad.block ≠ w6.heap.size := fun ad e => by have h9 : (w6.alloc (.cells #[.int .i64 0, .slice none 0 0, .slice none 0 0, .int .i64 0] 30)).heap.size ≤ ad.block := hA3 ad e; rw [World.size_alloc] at h9; omega
    have hA4' : ∀ ad, A4 = some ad → ad.block ≠ w6.heap.size := fun ad e => by have h9 : (w6.alloc (.cells #[.int .i64 0, .slice none 0 0, .slice none 0 0, .int .i64 0] 30)).heap.size ≤ ad.block := hA4 ad e; rw [World.size_alloc] at h9; omega
    have hI3 : Ints wz A3 n3 (K.run x.nd x.l x.s x.r (o.take k)).tour.stops := by rw [hwz]; exact (((hI3.set _ hA3').set _ hA3').set _ hA3').set _ hA3'
    have hI4 : Ints wz A4 n4 (K.run x.nd x.l x.s x.r (o.take k)).tour.times := by rw [hwz]; exact (((hI4.set _ hA4').set _ hA4').set _ hA4').set _ hA4'
    rw [← hwz]
    have hHN := hwz
    clear hwz hz hz0 hz1 hz2 hz3 hzf hb0
    have hP := hP.below hbz0
    have hS := hS.below hbz0
    have hT := hT.below hbz0
    have hI1 := hI1.below hbz0
    have hI2 := hI2.below hbz0
    have hbz := bel hb hbz0
    clear hbz0
    obtain ⟨Y, hY⟩ : ∃ Y, Y = K.run x.nd x.l x.s x.r (o.take k) := ⟨_, rfl⟩
    have hLW := HLAW.out.2
    rw [← hY] at hLW hI3 hI4 ⊢
    rw [← HR.out] at hLW
    obtain ⟨L1, L2, L3⟩ := hLW
    clear hY hHN hVk S0 hAx hSn hSd hSa hSs
    obtain ⟨t0, t1, t2, t3⟩ := hT.cells
    obtain ⟨y0, y1, y2, y3⟩ := hTz.cells
    by_cases hkn : R.n < k
    · obtain ⟨g1, g2⟩ := L1 hkn
      have g1' : (Y.e == R.e) = true := by simp [g1]
      have g2' : ((Y.n : Int) == (R.n : Int)) = true := by simp [g2]
      clear g1 g2 L1 L2 L3
      go_wp2_with fail
      go_ret
      exact ⟨rfl, hbz⟩
    have hkn' : decide ((R.n : Int) < (k : Int)) = false := by simp; omega
    have hL2 := L2 (by omega)
    have hL3 := L3 (by omega)
    clear L1 L2 L3
    cases fe : (Y.e == 0)
    · have fe' : (Y.e != 0) = true := by simp [bne, fe]
      have hne : ¬ Y.e = 0 := by simpa using fe
      rcases hL2 with h | ⟨h, hn⟩
      · exact absurd h hne
      have hnk : ((Y.n : Int) != (k : Int)) = false := by simp [hn]
      clear hL3
      rcases h with h | h
      · have q4 : (Y.e != 4) = false := by simp [h]
        clear h hn hne
        cases re : (R.e != 0)
        · go_wp2_with fail
          go_ret
          exact ⟨rfl, hbz⟩
        · go_wp2_with fail
          go_ret
          exact ⟨rfl, hbz⟩
      · have q4 : (Y.e != 4) = true := by simp [h]
        have q18 : (Y.e != 18) = false := by simp [h]
        clear h hn hne
        cases re : (R.e != 0)
        · go_wp2_with fail
          go_ret
          exact ⟨rfl, hbz⟩
        · go_wp2_with fail
          go_ret
          exact ⟨rfl, hbz⟩
    have fe' : (Y.e != 0) = false := by simp [bne, fe]
    have hY0 : Y.e = 0 := by simpa using fe
    clear hL2
    cases re : (R.e == 0)
    · have re' : (R.e != 0) = true := by simp [bne, re]
      clear hY0 hL3
      go_wp2_with fail
      go_ret
      exact ⟨rfl, hbz⟩
    have re' : (R.e != 0) = false := by simp [bne, re]
    obtain ⟨m1, m2⟩ := hL3 (by simpa using re) hY0
    have hn4 : n4 = k := by rw [hI4.1, m1, List.length_take, m2, ← HOL.out]; omega
    have hn2 : n2 = vn := by rw [hI2.1, m2, ← HOL.out]
    have hn4' : ((n4 : Int) != (k : Int)) = false := by simp [hn4]
    have hn2' : ((n2 : Int) != (vn : Int)) = false := by simp [hn2]
    have M1 := Lib.hid m1
    have HN4 := Lib.hid hn4
    have HN2 := Lib.hid hn2
    clear hL3 hY0 m1 m2 hn4 hn2
    go_wp2_with fail
    go_loopw [19] (fun vi wr => ∃ j : Nat, vi = .int .i64 j ∧ j ≤ k ∧ Below wz.heap.size wz wr) (fun vi _ => k - (intOf vi).toNat)
    case atStart => exact ⟨0, rfl, by omega, Below.refl _ _⟩
    case round =>
      obtain ⟨j, rfl, hj, hbr⟩ := hrel
      have hbw := bel hbz hbr
      clear t0 t1 t2 t3 y0 y1 y2 y3
      obtain ⟨t0, t1, t2, t3⟩ := (hT.below hbr).cells
      obtain ⟨y0, y1, y2, y3⟩ := (hTz.below hbr).cells
      by_cases hjk : j < k
      · obtain ⟨a2, u, rfl, hu, cu⟩ := (hI2.below hbr).at_ (k := j) (by rw [HN2.out]; omega)
        obtain ⟨a4, v, rfl, hv, cv⟩ := (hI4.below hbr).at_ (k := j) (by rw [HN4.out]; omega)
        rw [M1.out, List.getElem?_take, if_pos hjk, hu] at hv
        injection hv with hv
        subst hv
        have j0 : (0 : Int) ≤ (j : Int) := by omega
        have j1 : (j : Int) < (n2 : Int) := by rw [HN2.out]; omega
        have j2 : (j : Int) < (n4 : Int) := by rw [HN4.out]; omega
        have q0 : (u != u) = false := by simp
        clear hu
        go_wp2_with fail
        go_quiet (fail)
        go_wp2_with fail
        go_roundw
        case rel => exact ⟨j + 1, by go_num, by omega, below_drewN hbr _⟩
        case measure => simp [intOf]; omega
      · go_wp2_with fail
        go_ret
        exact ⟨rfl, hbw⟩
end Go.Proofs.Ytjcdpfpdjcannaa
