/-
The walk of the reference's check of a block.
-/
import Derived.Test.YtjcdpfpdjcannaaW8
import Derived.Test.YtjcdpfpdjcannaaBV
namespace Go.Proofs.Ytjcdpfpdjcannaa
open Go.RowKit

set_option maxRecDepth 100000 in
set_option maxHeartbeats 16000000 in
theorem blocks31_any (x : C) (sh : Int) (V : Option Addr) (vn vc : Nat) (v : List Int) (LA : Option Addr) (ln lc : Nat) (l : List Lb) (w : World) (hx : At w x) (hV : Ints w V vn v) (hvn : vn ≤ 1000000000) (hL : Labs w LA ln l) (hln : ln ≤ 1000000000) :
    Calls Try.prog 33 #[.agg #[.int .i64 x.nd, .slice x.A x.n x.c], .agg #[.int .i64 x.s.day, .int .i64 x.s.depot, .int .i64 x.s.start, .int .i64 x.s.end_, .int .i64 x.s.tare, .slice x.s.A x.s.n x.s.c], .slice x.B x.m x.d, .agg #[.int .i64 sh, .slice V vn vc, .slice LA ln lc]] w fun e w' => e = .returned (.bool (K.blocks x.nd x.l x.s x.r v l)) ∧ Below w.heap.size w w' := by
  obtain ⟨w1, hw1⟩ : ∃ w1 : World, w1 = w.alloc (.cells #[.int .i64 x.nd, .slice x.A x.n x.c] 24) := ⟨_, rfl⟩
  obtain ⟨w2, hw2⟩ : ∃ w2 : World, w2 = w1.alloc (.cells #[.int .i64 x.s.day, .int .i64 x.s.depot, .int .i64 x.s.start, .int .i64 x.s.end_, .int .i64 x.s.tare, .slice x.s.A x.s.n x.s.c] 27) := ⟨_, rfl⟩
  obtain ⟨w3, hw3⟩ : ∃ w3 : World, w3 = w2.alloc (.cells #[.int .i64 sh, .slice V vn vc, .slice LA ln lc] 51) := ⟨_, rfl⟩
  have z1 : w1.heap.size = w.heap.size + 1 := by rw [hw1]; exact World.size_alloc _ _
  have z2 : w2.heap.size = w.heap.size + 1 + 1 := by rw [hw2, World.size_alloc, z1]
  have b01 : Below w.heap.size w w1 := by rw [hw1]; exact (Below.refl _ _).alloc (Nat.le_refl _) _
  have b12 : Below w1.heap.size w1 w2 := by rw [hw2]; exact (Below.refl _ _).alloc (Nat.le_refl _) _
  have b23 : Below w2.heap.size w2 w3 := by rw [hw3]; exact (Below.refl _ _).alloc (Nat.le_refl _) _
  have hP : Net w3 w.heap.size x.nd x.A x.n x.c := by
    have h1 : Net w1 w.heap.size x.nd x.A x.n x.c := by rw [hw1]; exact Net.new _ _ _ _ _
    exact (h1.below b12).below b23
  have hS : Shf w3 (w.heap.size + 1) x.s := by
    have h1 : Shf w2 (w.heap.size + 1) x.s := by rw [← z1, hw2]; exact Shf.new _ _
    exact h1.below b23
  have hB : w3.heap[w.heap.size + 1 + 1]? = some (.cells #[.int .i64 sh, .slice V vn vc, .slice LA ln lc] 51 (0, 0)) := by rw [← z2, hw3]; exact heap_alloc_new _ _
  have hb := bel (bel b01 b12) b23
  have HLN := Lib.hid hV.1
  go_enter Try.func33, Try.ntmps33
  go_upto_region 1 with fail
  rw [← hw1, ← hw2, ← hw3]
  clear hw1 hw2 hw3 z1 z2 b01 b12 b23
  have hmk : ∀ w', Below w3.heap.size w3 w' → (fun w' : World => Below w3.heap.size w3 w' ∧ w'.cell? ⟨w.heap.size, 0, none⟩ = some (.int .i64 x.nd) ∧ w'.cell? ⟨w.heap.size, 1, none⟩ = some (.slice x.A x.n x.c) ∧ w'.cell? ⟨w.heap.size + 1, 0, none⟩ = some (.int .i64 x.s.day) ∧ w'.cell? ⟨w.heap.size + 1, 1, none⟩ = some (.int .i64 x.s.depot) ∧ w'.cell? ⟨w.heap.size + 1, 2, none⟩ = some (.int .i64 x.s.start) ∧ w'.cell? ⟨w.heap.size + 1, 3, none⟩ = some (.int .i64 x.s.end_) ∧ w'.cell? ⟨w.heap.size + 1, 4, none⟩ = some (.int .i64 x.s.tare) ∧ w'.cell? ⟨w.heap.size + 1, 5, none⟩ = some (.slice x.s.A x.s.n x.s.c) ∧ w'.cell? ⟨w.heap.size + 1 + 1, 0, none⟩ = some (.int .i64 sh) ∧ w'.cell? ⟨w.heap.size + 1 + 1, 1, none⟩ = some (.slice V vn vc) ∧ w'.cell? ⟨w.heap.size + 1 + 1, 2, none⟩ = some (.slice LA ln lc)) w' := fun w' h => ⟨h, (hP.below h).c0, (hP.below h).c1, (hS.below h).cells.1, (hS.below h).cells.2.1, (hS.below h).cells.2.2.1, (hS.below h).cells.2.2.2.1, (hS.below h).cells.2.2.2.2.1, (hS.below h).cells.2.2.2.2.2, blk_cell (blk_below h hB) 0 _ rfl, blk_cell (blk_below h hB) 1 _ rfl, blk_cell (blk_below h hB) 2 _ rfl⟩
  have hXx : ∀ w', Below w3.heap.size w3 w' → At w' x := fun w' h => (hx.below hb).below h
  have hVx : ∀ w', Below w3.heap.size w3 w' → Ints w' V vn v := fun w' h => (hV.below hb).below h
  cases hokb : K.ok31 x.nd x.l x.s x.r v
  · have HX := Lib.hid (show K.blocks x.nd x.l x.s x.r v l = false by simp [K.blocks, hokb])
    have C : ∀ j : Beh w3, Calls Try.prog 34 #[.agg #[.int .i64 x.nd, .slice x.A x.n x.c], .agg #[.int .i64 x.s.day, .int .i64 x.s.depot, .int .i64 x.s.start, .int .i64 x.s.end_, .int .i64 x.s.tare, .slice x.s.A x.s.n x.s.c], .slice x.B x.m x.d, .slice V vn vc] j.val fun e w' => e = .returned (.bool false) ∧ Below j.val.heap.size j.val w' := fun j => by
      have h := right31_any x V vn vc v j.val (hXx _ j.property) (hVx _ j.property) hvn
      rw [hokb] at h
      exact h
    clear hokb hXx hVx
    obtain ⟨-, p0, p1, s0, s1, s2, s3, s4, s5, b0, b1, b2⟩ := hmk _ (Below.refl _ _)
    have p0 := Beh.cell p0
    have p1 := Beh.cell p1
    have s0 := Beh.cell s0
    have s1 := Beh.cell s1
    have s2 := Beh.cell s2
    have s3 := Beh.cell s3
    have s4 := Beh.cell s4
    have s5 := Beh.cell s5
    have b0 := Beh.cell b0
    have b1 := Beh.cell b1
    have b2 := Beh.cell b2
    clear hmk
    refine reg_beh (by kernel_rfl) (by kernel_rfl) ?_
    repeat (go_big_quiet_step ((go_at_call 34; exact Beh.calls (C _))))
    refine wpQuiet_nil ?_
    rintro w4 ⟨⟨_, b34⟩, rfl⟩
    go_wp2_with fail
    go_ret
    exact ⟨ret_b HX.out.symm, bel hb b34⟩
  have hv6 : vn ≤ 6 := by rw [hV.1]; exact (K.ok31_parts hokb).2.2.2.2.1
  have HOK := Lib.hid hokb
  have HC34 := Lib.hid (show ∀ j : Beh w3, Calls Try.prog 34 #[.agg #[.int .i64 x.nd, .slice x.A x.n x.c], .agg #[.int .i64 x.s.day, .int .i64 x.s.depot, .int .i64 x.s.start, .int .i64 x.s.end_, .int .i64 x.s.tare, .slice x.s.A x.s.n x.s.c], .slice x.B x.m x.d, .slice V vn vc] j.val fun e w' => e = .returned (.bool true) ∧ Below j.val.heap.size j.val w' from fun j => by
      have h := right31_any x V vn vc v j.val (hXx _ j.property) (hVx _ j.property) hvn
      rw [hokb] at h
      exact h)
  clear hokb
  cases hv0 : ((vn : Int) == 0)
  rotate_left
  · have h0 : vn = 0 := by simpa using hv0
    have hv0n : (vn == 0) = true := by simp [h0]
    have HX := Lib.hid (show K.blocks x.nd x.l x.s x.r v l = false by
      have h1 : v.length = 0 := by rw [← HLN.out]; exact h0
      simp [K.blocks, h1])
    have C := HC34.out
    clear hXx hVx h0
    obtain ⟨-, p0, p1, s0, s1, s2, s3, s4, s5, b0, b1, b2⟩ := hmk _ (Below.refl _ _)
    have p0 := Beh.cell p0
    have p1 := Beh.cell p1
    have s0 := Beh.cell s0
    have s1 := Beh.cell s1
    have s2 := Beh.cell s2
    have s3 := Beh.cell s3
    have s4 := Beh.cell s4
    have s5 := Beh.cell s5
    have b0 := Beh.cell b0
    have b1 := Beh.cell b1
    have b2 := Beh.cell b2
    clear hmk
    refine reg_beh (by kernel_rfl) (by kernel_rfl) ?_
    repeat (go_big_quiet_step ((go_at_call 34; exact Beh.calls (C _))))
    refine wpQuiet_nil ?_
    rintro w4 ⟨⟨_, b34⟩, rfl⟩
    go_wp2_with fail
    go_ret
    exact ⟨ret_b HX.out.symm, bel hb b34⟩
  have hv0n : (vn == 0) = false := by have : ¬ vn = 0 := by simpa using hv0
                                      simpa using this
  have HV0 := Lib.hid (show ¬ vn = 0 by simpa using hv0)
  have S0 := hmk _ (Below.refl _ _)
  have hSd : ∀ w', (fun w' : World => Below w3.heap.size w3 w' ∧ w'.cell? ⟨w.heap.size, 0, none⟩ = some (.int .i64 x.nd) ∧ w'.cell? ⟨w.heap.size, 1, none⟩ = some (.slice x.A x.n x.c) ∧ w'.cell? ⟨w.heap.size + 1, 0, none⟩ = some (.int .i64 x.s.day) ∧ w'.cell? ⟨w.heap.size + 1, 1, none⟩ = some (.int .i64 x.s.depot) ∧ w'.cell? ⟨w.heap.size + 1, 2, none⟩ = some (.int .i64 x.s.start) ∧ w'.cell? ⟨w.heap.size + 1, 3, none⟩ = some (.int .i64 x.s.end_) ∧ w'.cell? ⟨w.heap.size + 1, 4, none⟩ = some (.int .i64 x.s.tare) ∧ w'.cell? ⟨w.heap.size + 1, 5, none⟩ = some (.slice x.s.A x.s.n x.s.c) ∧ w'.cell? ⟨w.heap.size + 1 + 1, 0, none⟩ = some (.int .i64 sh) ∧ w'.cell? ⟨w.heap.size + 1 + 1, 1, none⟩ = some (.slice V vn vc) ∧ w'.cell? ⟨w.heap.size + 1 + 1, 2, none⟩ = some (.slice LA ln lc)) w' → (fun w' : World => Below w3.heap.size w3 w' ∧ w'.cell? ⟨w.heap.size, 0, none⟩ = some (.int .i64 x.nd) ∧ w'.cell? ⟨w.heap.size, 1, none⟩ = some (.slice x.A x.n x.c) ∧ w'.cell? ⟨w.heap.size + 1, 0, none⟩ = some (.int .i64 x.s.day) ∧ w'.cell? ⟨w.heap.size + 1, 1, none⟩ = some (.int .i64 x.s.depot) ∧ w'.cell? ⟨w.heap.size + 1, 2, none⟩ = some (.int .i64 x.s.start) ∧ w'.cell? ⟨w.heap.size + 1, 3, none⟩ = some (.int .i64 x.s.end_) ∧ w'.cell? ⟨w.heap.size + 1, 4, none⟩ = some (.int .i64 x.s.tare) ∧ w'.cell? ⟨w.heap.size + 1, 5, none⟩ = some (.slice x.s.A x.s.n x.s.c) ∧ w'.cell? ⟨w.heap.size + 1 + 1, 0, none⟩ = some (.int .i64 sh) ∧ w'.cell? ⟨w.heap.size + 1 + 1, 1, none⟩ = some (.slice V vn vc) ∧ w'.cell? ⟨w.heap.size + 1 + 1, 2, none⟩ = some (.slice LA ln lc)) w'.drew := fun w' h => hmk _ h.1.drew
  have hLx : ∀ w', Below w3.heap.size w3 w' → Labs w' LA ln l := fun w' h => Lst.below hL (bel hb h)
  go_region_held3 (fun w' : World => Below w3.heap.size w3 w' ∧ w'.cell? ⟨w.heap.size, 0, none⟩ = some (.int .i64 x.nd) ∧ w'.cell? ⟨w.heap.size, 1, none⟩ = some (.slice x.A x.n x.c) ∧ w'.cell? ⟨w.heap.size + 1, 0, none⟩ = some (.int .i64 x.s.day) ∧ w'.cell? ⟨w.heap.size + 1, 1, none⟩ = some (.int .i64 x.s.depot) ∧ w'.cell? ⟨w.heap.size + 1, 2, none⟩ = some (.int .i64 x.s.start) ∧ w'.cell? ⟨w.heap.size + 1, 3, none⟩ = some (.int .i64 x.s.end_) ∧ w'.cell? ⟨w.heap.size + 1, 4, none⟩ = some (.int .i64 x.s.tare) ∧ w'.cell? ⟨w.heap.size + 1, 5, none⟩ = some (.slice x.s.A x.s.n x.s.c) ∧ w'.cell? ⟨w.heap.size + 1 + 1, 0, none⟩ = some (.int .i64 sh) ∧ w'.cell? ⟨w.heap.size + 1 + 1, 1, none⟩ = some (.slice V vn vc) ∧ w'.cell? ⟨w.heap.size + 1 + 1, 2, none⟩ = some (.slice LA ln lc))
    (first | assumption | exact S0 | exact hSd _ (by assumption))
    (first
      | (go_at_call 34; refine (HC34.out ⟨_, And.left (by assumption)⟩).mono ?_; rintro e w4 ⟨rfl, bb⟩; have S4 := hmk _ (bel (And.left (by assumption)) bb))
      | (go_at_call 31; refine (labels31_any x V vn vc v _ (hXx _ S4.1) (hVx _ S4.1) hvn).mono ?_; rintro e w6 ⟨⟨A6, n6, c6, rfl, hI6⟩, b6⟩; have S6 := hmk _ (bel S4.1 b6))
      | (go_at_call 29; refine (samelab_any LA A6 ln n6 lc c6 l (K.labs x.nd x.l x.s x.r v) w6 (hLx _ S6.1) hI6 hln (by rw [hI6.1]; exact Nat.le_trans (K.labs_len _ _ _ _ _) (by omega))).mono ?_; rintro e w7 ⟨rfl, b7⟩; have S7 := hmk _ (bel S6.1 b7))
      | fail)
  obtain ⟨z, hz⟩ : ∃ z, z = decide (l = K.labs x.nd x.l x.s x.r v) := ⟨_, rfl⟩
  rw [← hz]
  have HZ := Lib.hid hz
  have b37 := S7.1
  have hP := hP.below b37
  have hS := hS.below b37
  have hB := blk_below b37 hB
  have hb7 := bel hb b37
  clear S0 S4 S6 S7 hSd hmk hXx hVx hLx hI6 bb b6 b7 hz b37
  cases z
  · have HX := Lib.hid (show K.blocks x.nd x.l x.s x.r v l = false by unfold K.blocks; rw [← HZ.out]; simp)
    go_wp2_with fail
    go_ret
    exact ⟨ret_b HX.out.symm, hb7⟩
  have hll : l = K.labs x.nd x.l x.s x.r v := of_decide_eq_true HZ.out.symm
  obtain ⟨N, hN⟩ : ∃ N, N = 2 ^ vn := ⟨_, rfl⟩
  have hN1 : 1 ≤ N := by rw [hN]; exact Nat.two_pow_pos vn
  have hN64 : N ≤ 64 := by rw [hN]; exact Nat.pow_le_pow_right (by omega) hv6
  have hw1 : IntKind.i64.wrap ((2 : Int) ^ vn) = (N : Int) := by rw [wrap_pow (by omega), hN]; simp
  have hw2 : wrap64 ((2 : Int) ^ vn) = (N : Int) := by rw [← IntWalk.i64_left]; exact hw1
  have HNN := Lib.hid hN
  have HW1 := Lib.hid hw1
  have HW2 := Lib.hid hw2
  clear hN hw1 hw2
  obtain ⟨al, hal⟩ : ∃ al, al = N - 1 := ⟨_, rfl⟩
  have HW3 := Lib.hid (show IntKind.i64.wrap ((N : Int) - 1) = (al : Int) by rw [IntWalk.i64_in _ (by omega)]; omega)
  have HW4 := Lib.hid (show wrap64 ((N : Int) - 1) = (al : Int) by rw [← IntWalk.i64_left]; exact HW3.out)
  have HAL := Lib.hid (show al = 2 ^ v.length - 1 by rw [hal, HNN.out, HLN.out])
  have HX := Lib.hid (show K.blocks x.nd x.l x.s x.r v l = !((l.drop 0).any (K.opensAt x.nd x.l x.s x.r v al)) by
    unfold K.blocks
    rw [← HZ.out, HOK.out, HAL.out, List.drop_zero]
    have h0 : (v.length == 0) = false := by have := HV0.out; rw [HLN.out] at this; simpa using this
    rw [h0]
    simp)
  have HLL := Lib.hid hll
  clear hll hal
  obtain ⟨s0, s1, s2, s3, s4, s5⟩ := hS.cells
  have e1 := blk_cell hB 1 _ rfl
  go_wp2_with fail
  refine (rweight_any x.s x.B x.m x.d x.r V vn vc v _ (hx.below hb7).rooms hx.b2 (hx.below hb7).reqs hx.b3 hx.b4 (hV.below hb7) hvn).mono ?_
  obtain ⟨wt, hwt⟩ : ∃ wt, wt = T.weight x.s x.r v := ⟨_, rfl⟩
  rw [← hwt]
  rintro e w8 ⟨rfl, b78⟩
  have HWT := Lib.hid hwt
  have hP := hP.below b78
  have hS := hS.below b78
  have hB := blk_below b78 hB
  have hb8 := bel hb7 b78
  clear s0 s1 s2 s3 s4 s5 e1 hwt
  obtain ⟨hne, hck, hdp, -, -, -⟩ := K.ok31_parts HOK.out
  obtain ⟨-, ⟨d0, -⟩, st0, st1, en1⟩ := K.check_parts hck
  obtain ⟨dp, hdpn⟩ : ∃ dp : Nat, x.s.depot = (dp : Int) := ⟨x.s.depot.toNat, by omega⟩
  have HNE := Lib.hid hne
  have HDP := Lib.hid hdpn
  have hdpl : (dp : Int) < x.nd := by rw [← hdpn]; exact hdp
  clear hne hck hdp hdpn d0
  go_wp2_with fail
  go_loopw [10] (fun v10 wr => ∃ k : Nat, v10 = .int .i64 k ∧ k ≤ ln ∧ Hid (K.blocks x.nd x.l x.s x.r v l = !((l.drop k).any (K.opensAt x.nd x.l x.s x.r v al))) ∧ Below w8.heap.size w8 wr) (fun v10 _ => ln - (intOf v10).toNat)
  case atStart => exact ⟨0, rfl, Nat.zero_le _, HX.out, Below.refl _ _⟩
  case round =>
    clear HX
    obtain ⟨k, rfl, hk, hbk, hbr⟩ := hrel
    have hb := bel hb8 hbr
    have b2 := blk_cell (blk_below hbr hB) 2 _ rfl
    by_cases hlt : k < ln
    · obtain ⟨adk, y, rfl, hgy, c0, c1, c2⟩ := Labs.at_ (Lst.below hL hb) hlt
      have HBK := Lib.hid (show K.blocks x.nd x.l x.s x.r v l = !(K.opensAt x.nd x.l x.s x.r v al y || (l.drop (k + 1)).any (K.opensAt x.nd x.l x.s x.r v al)) by rw [hbk.out, drop_any hgy])
      obtain ⟨m, i, hm, hi, hbit, hy⟩ := K.mem_labs HOK.out (by rw [← HLL.out]; exact List.mem_of_getElem? hgy)
      subst hy
      dsimp only at c0 c1 c2
      rw [← HLN.out] at hi
      have hLb := K.lab_bd (nd := x.nd) (l := x.l) (s := x.s) (r := x.r) (K.case31 HOK.out) m i
      obtain ⟨L, hL'⟩ : ∃ L, L = K.lab x.nd x.l x.s x.r v m i := ⟨_, rfl⟩
      have HBK' := HBK.out
      rw [← hL'] at c2 hLb HBK'
      have HBL := Lib.hid HBK'
      clear hgy hm hbit HBK HBK' hL'
      obtain ⟨adv, kv, rfl, hkv, ci⟩ := (hV.below hb).at_ hi
      obtain ⟨d, dn, q, hkd, hd, hdq, hreq, hdn, hdn1, qs0, qs1⟩ := elem_at HOK.out hkv
      subst hkd
      have hdm : d < x.m := by rw [hx.reqs.1]; exact hd
      obtain ⟨adq, q2, hqB, hgq, hwq, e0, -⟩ := ((hx.below hb).reqs).at_ hdm
      rw [hdq] at hgq
      injection hgq with hgq
      subst hgq
      rw [hdn] at e0
      obtain ⟨y, hy⟩ : ∃ y, y = K.way x.nd x.l (dn : Int) wt (dp : Int) := ⟨_, rfl⟩
      have hyb := K.way_bd x.nd x.l (dn : Int) wt (dp : Int)
      rw [← hy] at hyb
      have HY := Lib.hid hy
      have HOP := Lib.hid (show K.opensAt x.nd x.l x.s x.r v al ⟨m, i, L⟩ = (((m : Int) == (al : Int)) && ((L != -1) && ((y != -1) && decide (L + y ≤ x.s.end_)))) by
        unfold K.opensAt
        dsimp only
        rw [Int.toNat_natCast, hkv, Option.getD_some, hreq, hdn, HAL.out, K.part_full, ← HWT.out, HDP.out, ← hy]
        rfl)
      obtain ⟨w9, hw9⟩ : ∃ w9 : World, w9 = wr.alloc (.cells #[.int .i64 (m : Int), .int .i64 (i : Int), .int .i64 L] 62) := ⟨_, rfl⟩
      have b9 : Below wr.heap.size wr w9 := by rw [hw9]; exact (Below.refl _ _).alloc (Nat.le_refl _) _
      have hY9 : w9.heap[wr.heap.size]? = some (.cells #[.int .i64 (m : Int), .int .i64 (i : Int), .int .i64 L] 62 (0, 0)) := by rw [hw9]; exact heap_alloc_new _ _
      have hbr9 := bel hbr b9
      have hb9 := bel hb8 hbr9
      have ci := (b9.cell (cell_lt ci)).trans ci
      have e0 := (b9.cell (cell_lt e0)).trans e0
      have kk0 : (0 : Int) ≤ (k : Int) := by omega
      have kk1 : (k : Int) < (ln : Int) := by omega
      have kk2 : decide ((k : Int) < (ln : Int)) = true := decide_eq_true kk1
      have kk2n : decide (k < ln) = true := decide_eq_true hlt
      have HQB := Lib.hid hqB
      have HDM := Lib.hid (show (d : Int) < (x.m : Int) by omega)
      clear hy hkv hd hdq hreq hdn hqB hwq qs0 qs1 hdm
      go_upto_region 8 with fail
      rw [← hw9]
      clear hw9 c0 c1 c2 b2 kk0 kk1 kk2 kk2n
      have l0 := blk_cell hY9 0 _ rfl
      have l1 := blk_cell hY9 1 _ rfl
      have l2 := blk_cell hY9 2 _ rfl
      have hB9 := blk_below hbr9 hB
      have f1 := blk_cell hB9 1 _ rfl
      have f2 := blk_cell hB9 2 _ rfl
      have hw1 := HW1.out
      have hw2 := HW2.out
      have hw3 := HW3.out
      have hw4 := HW4.out
      cases hma : ((m : Int) == (al : Int))
      · have HN := Lib.hid (show K.blocks x.nd x.l x.s x.r v l = !((l.drop (k + 1)).any (K.opensAt x.nd x.l x.s x.r v al)) by rw [HBL.out, HOP.out, hma]; rfl)
        have hman : (m == al) = false := by have : ¬ (m : Int) = (al : Int) := by simpa using hma
                                            simp; omega
        clear HBL HOP
        go_quiet (fail)
        clear hw1 hw2 hw3 hw4
        go_wp2_with fail
        go_roundw
        case rel => exact ⟨k + 1, by go_num, hlt, HN.out, below_drewN hbr9 _⟩
        case measure => simp [intOf]; omega
      have hman : (m == al) = true := by have : (m : Int) = (al : Int) := by simpa using hma
                                         simp; omega
      by_cases hL0 : 0 ≤ L
      rotate_left
      · have g1 : decide (0 ≤ L) = false := decide_eq_false hL0
        have HN := Lib.hid (show K.blocks x.nd x.l x.s x.r v l = !((l.drop (k + 1)).any (K.opensAt x.nd x.l x.s x.r v al)) by
          have h1 : (L != -1) = false := by have : L = -1 := by omega
                                            simp [this]
          rw [HBL.out, HOP.out, h1]; simp)
        clear HBL HOP
        go_quiet (fail)
        clear hw1 hw2 hw3 hw4
        go_wp2_with fail
        go_roundw
        case rel => exact ⟨k + 1, by go_num, hlt, HN.out, below_drewN hbr9 _⟩
        case measure => simp [intOf]; omega
      have g1 : decide (0 ≤ L) = true := decide_eq_true hL0
      have h1 : (L != -1) = true := by have : ¬ L = -1 := by omega
                                       simpa using this
      have HOP2 := Lib.hid (show K.opensAt x.nd x.l x.s x.r v al ⟨m, i, L⟩ = ((y != -1) && decide (L + y ≤ x.s.end_)) by rw [HOP.out, hma, h1]; rfl)
      clear HOP h1
      go_quiet (fail)
      obtain ⟨wa, hwa⟩ : ∃ wa : World, wa = w9.drewN nq := ⟨_, rfl⟩
      rw [← hwa]
      have b9a : Below w9.heap.size w9 wa := by rw [hwa]; exact below_drewN (Below.refl _ _) _
      clear hwa hw1 hw2 hw3 hw4 l0 l1 l2 f1 f2 hma hman g1
      go_upto_region 9 with fail
      have hbra := bel hbr9 b9a
      have hYa := blk_below b9a hY9
      have l1 := blk_cell hYa 1 _ rfl
      have f1 := blk_cell (blk_below b9a hB9) 1 _ rfl
      have ci := (b9a.cell (cell_lt ci)).trans ci
      have e0 := (b9a.cell (cell_lt e0)).trans e0
      have p0 := (hP.below hbra).c0
      have p1 := (hP.below hbra).c1
      have hSa := hS.below hbra
      have s1 := hSa.cells.2.1
      rw [HDP.out] at s1
      have SD : ∀ w', Below wa.heap.size wa w' → w'.cell? ⟨w.heap.size + 1, 1, none⟩ = some (.int .i64 (dp : Int)) := fun w' h => (h.cell (cell_lt s1)).trans s1
      have hRd : ∀ w', Below wa.heap.size wa w' → Roads w' x.A x.n x.l := fun w' h => Lst.below ((hx.below (bel hb8 hbra)).net) h
      have kk3 : (0 : Int) ≤ (i : Int) := by omega
      have kk4 : (i : Int) < (vn : Int) := by omega
      have kk5 : (0 : Int) ≤ (d : Int) := by omega
      have kk6 : (d : Int) < (x.m : Int) := HDM.out
      have hdn0 : (0 : Int) ≤ (dn : Int) := by omega
      have hdp0 : (0 : Int) ≤ (dp : Int) := by omega
      rw [HQB.out]
      have hmk2 : ∀ w', Below wa.heap.size wa w' → (fun w' : World => Below wa.heap.size wa w' ∧ w'.cell? ⟨w.heap.size, 0, none⟩ = some (.int .i64 x.nd) ∧ w'.cell? ⟨w.heap.size, 1, none⟩ = some (.slice x.A x.n x.c) ∧ w'.cell? ⟨w.heap.size + 1 + 1, 1, none⟩ = some (.slice (some adv) vn vc) ∧ w'.cell? ⟨wr.heap.size, 1, none⟩ = some (.int .i64 (i : Int)) ∧ w'.cell? (adv.add i) = some (.int .i64 (d : Int)) ∧ w'.cell? (adq.add (d * 7)) = some (.int .i64 (dn : Int)) ∧ w'.cell? ⟨w.heap.size + 1, 1, none⟩ = some (.int .i64 (dp : Int))) w' := fun w' h => ⟨h, (h.cell (cell_lt p0)).trans p0, (h.cell (cell_lt p1)).trans p1, (h.cell (cell_lt f1)).trans f1, (h.cell (cell_lt l1)).trans l1, (h.cell (cell_lt ci)).trans ci, (h.cell (cell_lt e0)).trans e0, (h.cell (cell_lt s1)).trans s1⟩
      have S0d := hmk2 _ (Below.refl wa.heap.size wa).drew
      clear p0 p1 f1 l1 ci e0 s1 SD hSa
      refine wp_region_held_drew (S := (fun w' : World => Below wa.heap.size wa w' ∧ w'.cell? ⟨w.heap.size, 0, none⟩ = some (.int .i64 x.nd) ∧ w'.cell? ⟨w.heap.size, 1, none⟩ = some (.slice x.A x.n x.c) ∧ w'.cell? ⟨w.heap.size + 1 + 1, 1, none⟩ = some (.slice (some adv) vn vc) ∧ w'.cell? ⟨wr.heap.size, 1, none⟩ = some (.int .i64 (i : Int)) ∧ w'.cell? (adv.add i) = some (.int .i64 (d : Int)) ∧ w'.cell? (adq.add (d * 7)) = some (.int .i64 (dn : Int)) ∧ w'.cell? ⟨w.heap.size + 1, 1, none⟩ = some (.int .i64 (dp : Int)))) (by kernel_rfl) S0d (fun hHeld => ?_)
      refine wpAnyH_take (i := 0) (oi := ?_) (v := ?_) ?_ (by kernel_rfl) (by kernel_rfl) (by kernel_rfl) ?_ ?_ (by assumption) ?_
      rotate_left 2
      · (simp only [List.getElem?_toArray, List.getElem?_cons_zero]; rfl)
      rotate_left
      · (refine Or.inl ⟨by rfl, ?_⟩; intro w hSw; (try dsimp only at hSw); go_simp; (try with_reducible rfl))
      rotate_left
      · exact fun _ _ _ h => h
      try simp only [Act.put, List.setIfInBounds_toArray, List.set_cons_zero, List.set_cons_succ]
      refine wpAnyH_take (i := 1) (oi := ?_) (v := ?_) ?_ (by kernel_rfl) (by kernel_rfl) (by kernel_rfl) ?_ ?_ (by assumption) ?_
      rotate_left 2
      · (simp only [List.getElem?_toArray, List.getElem?_cons_succ, List.getElem?_cons_zero]; rfl)
      rotate_left
      · (refine Or.inl ⟨by rfl, ?_⟩; intro w hSw; (try dsimp only at hSw); go_simp; (try with_reducible rfl))
      rotate_left
      · exact fun _ _ _ h => h
      try simp only [Act.put, List.setIfInBounds_toArray, List.set_cons_zero, List.set_cons_succ]
      refine wpAnyH_take (i := 2) (oi := ?_) (v := ?_) ?_ (by kernel_rfl) (by kernel_rfl) (by kernel_rfl) ?_ ?_ (by assumption) ?_
      rotate_left 2
      · (simp only [List.getElem?_toArray, List.getElem?_cons_succ, List.getElem?_cons_zero]; rfl)
      rotate_left
      · (refine Or.inl ⟨by rfl, ?_⟩; intro w hSw; (try dsimp only at hSw); go_simp; (try with_reducible rfl))
      rotate_left
      · exact fun _ _ _ h => h
      try simp only [Act.put, List.setIfInBounds_toArray, List.set_cons_zero, List.set_cons_succ]
      refine wpAnyH_take (i := 3) (oi := ?_) (v := ?_) ?_ (by kernel_rfl) (by kernel_rfl) (by kernel_rfl) ?_ ?_ (by assumption) ?_
      rotate_left 2
      · (simp only [List.getElem?_toArray, List.getElem?_cons_succ, List.getElem?_cons_zero]; rfl)
      rotate_left
      · (refine Or.inl ⟨by rfl, ?_⟩; intro w hSw; (try dsimp only at hSw); go_simp; (try with_reducible rfl))
      rotate_left
      · exact fun _ _ _ h => h
      try simp only [Act.put, List.setIfInBounds_toArray, List.set_cons_zero, List.set_cons_succ]
      refine wpAnyH_take (i := 4) (oi := ?_) (v := ?_) ?_ (by kernel_rfl) (by kernel_rfl) (by kernel_rfl) ?_ ?_ (by assumption) ?_
      rotate_left 2
      · (simp only [List.getElem?_toArray, List.getElem?_cons_succ, List.getElem?_cons_zero]; rfl)
      rotate_left
      · (refine Or.inl ⟨by rfl, ?_⟩; intro w hSw; (try dsimp only at hSw); go_simp; (try with_reducible rfl))
      rotate_left
      · exact fun _ _ _ h => h
      try simp only [Act.put, List.setIfInBounds_toArray, List.set_cons_zero, List.set_cons_succ]
      refine wpAnyH_take (i := 5) (oi := ?_) (v := ?_) ?_ (by kernel_rfl) (by kernel_rfl) (by kernel_rfl) ?_ ?_ (by assumption) ?_
      rotate_left 2
      · (simp only [List.getElem?_toArray, List.getElem?_cons_succ, List.getElem?_cons_zero]; rfl)
      rotate_left
      · (refine Or.inl ⟨by rfl, ?_⟩; intro w hSw; (try dsimp only at hSw); go_simp; (try with_reducible rfl))
      rotate_left
      · exact fun _ _ _ h => h
      try simp only [Act.put, List.setIfInBounds_toArray, List.set_cons_zero, List.set_cons_succ]
      refine wpAnyH_take (i := 6) (oi := ?_) (v := ?_) ?_ (by kernel_rfl) (by kernel_rfl) (by kernel_rfl) ?_ ?_ (by assumption) ?_
      rotate_left 2
      · (simp only [List.getElem?_toArray, List.getElem?_cons_succ, List.getElem?_cons_zero]; rfl)
      rotate_left
      · (refine Or.inl ⟨by rfl, ?_⟩; intro w hSw; (try dsimp only at hSw); go_simp; (try with_reducible rfl))
      rotate_left
      · exact fun _ _ _ h => h
      try simp only [Act.put, List.setIfInBounds_toArray, List.set_cons_zero, List.set_cons_succ]
      refine wpAnyH_take (i := 7) (oi := ?_) (v := ?_) ?_ (by kernel_rfl) (by kernel_rfl) (by kernel_rfl) ?_ ?_ (by assumption) ?_
      rotate_left 2
      · (simp only [List.getElem?_toArray, List.getElem?_cons_succ, List.getElem?_cons_zero]; rfl)
      rotate_left
      · (refine Or.inl ⟨by rfl, ?_⟩; intro w hSw; (try dsimp only at hSw); go_simp; (try with_reducible rfl))
      rotate_left
      · exact fun _ _ _ h => h
      try simp only [Act.put, List.setIfInBounds_toArray, List.set_cons_zero, List.set_cons_succ]
      refine wpAnyH_take (i := 8) (oi := ?_) (v := ?_) ?_ (by kernel_rfl) (by kernel_rfl) (by kernel_rfl) ?_ ?_ (by assumption) ?_
      rotate_left 2
      · (simp only [List.getElem?_toArray, List.getElem?_cons_succ, List.getElem?_cons_zero]; rfl)
      rotate_left
      · (refine Or.inl ⟨by rfl, ?_⟩; intro w hSw; (try dsimp only at hSw); go_simp; (try with_reducible rfl))
      rotate_left
      · exact fun _ _ _ h => h
      try simp only [Act.put, List.setIfInBounds_toArray, List.set_cons_zero, List.set_cons_succ]
      refine wpAnyH_take (i := 9) (oi := ?_) (v := ?_) ?_ (by kernel_rfl) (by kernel_rfl) (by kernel_rfl) ?_ ?_ (by assumption) ?_
      rotate_left 2
      · (simp only [List.getElem?_toArray, List.getElem?_cons_succ, List.getElem?_cons_zero]; rfl)
      rotate_left
      · (refine Or.inl ⟨by rfl, ?_⟩; intro w hSw; (try dsimp only at hSw); go_simp; (try with_reducible rfl))
      rotate_left
      · exact fun _ _ _ h => h
      try simp only [Act.put, List.setIfInBounds_toArray, List.set_cons_zero, List.set_cons_succ]
      refine wpAnyH_take (i := 10) (oi := ?_) (v := ?_) ?_ (by kernel_rfl) (by kernel_rfl) (by kernel_rfl) ?_ ?_ (by assumption) ?_
      rotate_left 2
      · (simp only [List.getElem?_toArray, List.getElem?_cons_succ, List.getElem?_cons_zero]; rfl)
      rotate_left
      · (refine Or.inl ⟨by rfl, ?_⟩; intro w hSw; (try dsimp only at hSw); go_simp; (try with_reducible rfl))
      rotate_left
      · exact fun _ _ _ h => h
      try simp only [Act.put, List.setIfInBounds_toArray, List.set_cons_zero, List.set_cons_succ]
      refine wpAnyH_take (i := 11) (oi := ?_) (v := ?_) ?_ (by kernel_rfl) (by kernel_rfl) (by kernel_rfl) ?_ ?_ (by assumption) ?_
      rotate_left 2
      · (simp only [List.getElem?_toArray, List.getElem?_cons_succ, List.getElem?_cons_zero]; rfl)
      rotate_left
      · (refine Or.inl ⟨by rfl, ?_⟩; intro w hSw; (try dsimp only at hSw); go_simp; (try with_reducible rfl))
      rotate_left
      · exact fun _ _ _ h => h
      try simp only [Act.put, List.setIfInBounds_toArray, List.set_cons_zero, List.set_cons_succ]
      refine wpAnyH_take (i := 13) (oi := ?_) (v := ?_) ?_ (by kernel_rfl) (by kernel_rfl) (by kernel_rfl) ?_ ?_ (by assumption) ?_
      rotate_left 2
      · (simp only [List.getElem?_toArray, List.getElem?_cons_succ, List.getElem?_cons_zero]; rfl)
      rotate_left
      · (refine Or.inl ⟨by rfl, ?_⟩; intro w hSw; (try dsimp only at hSw); go_simp; (try with_reducible rfl))
      rotate_left
      · exact fun _ _ _ h => h
      try simp only [Act.put, List.setIfInBounds_toArray, List.set_cons_zero, List.set_cons_succ]
      refine wpAnyH_take (i := 14) (oi := ?_) (v := ?_) ?_ (by kernel_rfl) (by kernel_rfl) (by kernel_rfl) ?_ ?_ (by assumption) ?_
      rotate_left 2
      · (simp only [List.getElem?_toArray, List.getElem?_cons_succ, List.getElem?_cons_zero]; rfl)
      rotate_left
      · (refine Or.inl ⟨by rfl, ?_⟩; intro w hSw; (try dsimp only at hSw); go_simp; (try with_reducible rfl))
      rotate_left
      · exact fun _ _ _ h => h
      try simp only [Act.put, List.setIfInBounds_toArray, List.set_cons_zero, List.set_cons_succ]
      refine wpAnyH_ready (rs := [12]) (by kernel_rfl) (by simp) ?_
      refine AllReadyH.cons (o := ?_) ?_ (fun K hK => ?_) AllReadyH.nil
      rotate_left
      · (simp only [List.getElem?_toArray, List.getElem?_cons_succ, List.getElem?_cons_zero]; rfl)
      go_simp
      refine (rtimes_any x.nd x.A x.n x.c x.l (dn : Int) wt _ (hRd _ (Below.refl _ _).drew) hx.b1).mono ?_
      rintro e wy ⟨⟨TA, yn, yc, rfl, hTI⟩, bwy⟩
      obtain ⟨ady, rfl, cy, j4⟩ := way_read hTI HNE.out ⟨hdn0, hdn1⟩ hdpl
      rw [← HY.out] at cy
      have bay : Below wa.heap.size wa wy := bel (Below.refl _ _).drew bwy
      have S1 := hmk2 _ bay
      try dsimp only
      refine hK.out _ _ S1 (fun hHeld => ?_)
      clear hK K
      try simp only [Act.put, List.setIfInBounds_toArray, List.set_cons_zero, List.set_cons_succ]
      refine wpAnyH_take (i := 15) (oi := ?_) (v := ?_) ?_ (by kernel_rfl) (by kernel_rfl) (by kernel_rfl) ?_ ?_ (by assumption) ?_
      rotate_left 2
      · (simp only [List.getElem?_toArray, List.getElem?_cons_succ, List.getElem?_cons_zero]; rfl)
      rotate_left
      · (refine Or.inl ⟨by rfl, ?_⟩; intro w hSw; (try dsimp only at hSw); go_simp; (try with_reducible rfl))
      rotate_left
      · exact fun _ _ _ h => h
      try simp only [Act.put, List.setIfInBounds_toArray, List.set_cons_zero, List.set_cons_succ]
      refine wpAnyH_ready (rs := [16]) (by kernel_rfl) (by simp) ?_
      refine AllReadyH.cons (o := ?_) ?_ (fun K hK => ?_) AllReadyH.nil
      rotate_left
      · (simp only [List.getElem?_toArray, List.getElem?_cons_succ, List.getElem?_cons_zero]; rfl)
      go_simp

      try dsimp only
      refine hK.out _ _ S1 (fun hHeld => ?_)
      clear hK K
      try simp only [Act.put, List.setIfInBounds_toArray, List.set_cons_zero, List.set_cons_succ]
      refine wpAnyH_take (i := 17) (oi := ?_) (v := ?_) ?_ (by kernel_rfl) (by kernel_rfl) (by kernel_rfl) ?_ ?_ (by assumption) ?_
      rotate_left 2
      · (simp only [List.getElem?_toArray, List.getElem?_cons_succ, List.getElem?_cons_zero]; rfl)
      rotate_left
      · (refine Or.inl ⟨by rfl, ?_⟩; intro w hSw; (try dsimp only at hSw); go_simp; (try with_reducible rfl))
      rotate_left
      · exact fun _ _ _ h => h
      try simp only [Act.put, List.setIfInBounds_toArray, List.set_cons_zero, List.set_cons_succ]
      refine wpAnyH_done (by kernel_rfl) ?_ _
      clear S0d S1 hmk2 hRd cy hTI bwy j4
      have hbry : Below w8.heap.size w8 wy := bel hbra bay
      have hbry2 := bel hb8 hbry
      have l2 := blk_cell (blk_below bay hYa) 2 _ rfl
      have s3 := ((hS.below hbry).cells).2.2.2.1
      by_cases hy0 : 0 ≤ y
      rotate_left
      · have g2 : decide (0 ≤ y) = false := decide_eq_false hy0
        have HN := Lib.hid (show K.blocks x.nd x.l x.s x.r v l = !((l.drop (k + 1)).any (K.opensAt x.nd x.l x.s x.r v al)) by
          have h1 : (y != -1) = false := by have : y = -1 := by omega
                                            simp [this]
          rw [HBL.out, HOP2.out, h1]; simp)
        go_wp2_with fail
        rw [← HQB.out]
        go_roundw
        case rel => (go_light; exact ⟨_, _, ⟨k + 1, rfl, hlt, HN.out⟩, rfl, rfl, by go_num, rfl⟩)
        case measure => (go_light; simp [intOf] <;> omega)
      have g2 : decide (0 ≤ y) = true := decide_eq_true hy0
      have hsum : IntKind.i64.wrap (L + y) = L + y := IntWalk.i64_in _ (by omega)
      have hsum2 : wrap64 (L + y) = L + y := by rw [← IntWalk.i64_left]; exact hsum
      have h1 : (y != -1) = true := by have : ¬ y = -1 := by omega
                                       simpa using this
      have HOP3 := Lib.hid (show K.opensAt x.nd x.l x.s x.r v al ⟨m, i, L⟩ = decide (L + y ≤ x.s.end_) by rw [HOP2.out, h1]; rfl)
      clear h1
      by_cases hle : L + y ≤ x.s.end_
      · have g3 : decide (L + y ≤ x.s.end_) = true := decide_eq_true hle
        have HN := Lib.hid (show K.blocks x.nd x.l x.s x.r v l = false by rw [HBL.out, HOP3.out, g3]; rfl)
        go_wp2_with fail
        go_ret
        exact ⟨ret_b HN.out.symm, hbry2⟩
      · have g3 : decide (L + y ≤ x.s.end_) = false := decide_eq_false hle
        have HN := Lib.hid (show K.blocks x.nd x.l x.s x.r v l = !((l.drop (k + 1)).any (K.opensAt x.nd x.l x.s x.r v al)) by rw [HBL.out, HOP3.out, g3]; rfl)
        go_wp2_with fail
        clear hsum hsum2
        rw [← HQB.out]
        go_roundw
        case rel => (go_light; exact ⟨_, _, ⟨k + 1, rfl, hlt, HN.out⟩, rfl, rfl, by go_num, rfl⟩)
        case measure => (go_light; simp [intOf] <;> omega)
    · have HN := Lib.hid (show K.blocks x.nd x.l x.s x.r v l = true by rw [hbk.out, List.drop_eq_nil_of_le (by rw [← hL.1]; omega)]; rfl)
      have kk2 : decide ((k : Int) < (ln : Int)) = false := by simp; omega
      have kk2n : decide (k < ln) = false := by simp; omega
      go_wp2_with fail
      go_ret
      exact ⟨ret_b HN.out.symm, hb⟩
end Go.Proofs.Ytjcdpfpdjcannaa
