/-
The reference's contract for tours: the round.
-/
import Derived.Test.YtjcdpfpdjcannaaN8
namespace Go.Proofs.Ytjcdpfpdjcannaa
open Go.RowKit

/-- What holds ahead of each round of the reference's loop. -/
structure NRel (x : C) (o : List Int) (wS : World) (S : Value) (k : Nat) (tv : Value) (a t : Int) (ts : List Int) (wr : World) : Prop where
  legs : K.legs x.nd x.l x.s x.r [] x.s.depot x.s.start o = ⟨ts ++ (K.legs x.nd x.l x.s x.r (o.take k) a t (o.drop k)).times, (K.legs x.nd x.l x.s x.r (o.take k) a t (o.drop k)).a, (K.legs x.nd x.l x.s x.r (o.take k) a t (o.drop k)).t, (K.legs x.nd x.l x.s x.r (o.take k) a t (o.drop k)).e⟩
  len : ts.length = k
  blk : TBlk wr wS.heap.size 0 S tv 0
  own : wr.ownsRow (wS.heap.size + 1) 3 1 tv k (intCells ts)
  a0 : 0 ≤ a ∧ a < x.nd
  t0 : 0 ≤ t ∧ t ≤ 1000000
  bw : Below wS.heap.size wS wr

theorem NRel.next {x : C} {o : List Int} {wS wr w5 w6 : World} {S : Value} {k : Nat} {tv tv' : Value} {a t i lb le : Int} {ts : List Int} (h : NRel x o wS S k tv a t ts wr) (hi : o[k]? = some i) (hlb : lb = (K.leg x.nd x.l x.s x.r (o.take k) i a t).1) (hle : le = (K.leg x.nd x.l x.s x.r (o.take k) i a t).2) (h0 : le = 0)
    (hb : Below wr.heap.size wr w5)
    (hown : w6.ownsRow (wS.heap.size + 1) 3 1 tv' (k + 1) (intCells (ts ++ [lb]))) (hgrow : (w5.alloc (.cells #[.int .i64 lb] 3)).grownBy w6 tv.ownBlock)
    (hno : 0 ≤ (K.req x.r i).node ∧ (K.req x.r i).node < x.nd) (hse : 0 ≤ (K.req x.r i).service) : NRel x o wS S (k + 1) tv' (K.req x.r i).node (lb + (K.req x.r i).service) (ts ++ [lb]) (w6.setCell ⟨wS.heap.size, 2, none⟩ tv') := by
  subst hlb
  have hl : (K.leg x.nd x.l x.s x.r (o.take k) i a t).2 = 0 := by rw [← hle]; exact h0
  have hlt : ∀ g, tv.ownBlock = some g → wS.heap.size + 1 ≤ g ∧ g < wr.heap.size := fun g e => h.own.lt g e
  have hs6 := hgrow.size
  rw [World.size_alloc] at hs6
  have ba : Below w5.heap.size w5 (w5.alloc (.cells #[.int .i64 (K.leg x.nd x.l x.s x.r (o.take k) i a t).1] 3)) := (Below.refl _ _).alloc (Nat.le_refl _) _
  have b6 : Below wS.heap.size wS w6 := below_own2 (bel (bel h.bw hb) ba) hgrow (fun g e => by have := (hlt g e).1; omega)
  have hT6 : TBlk w6 wS.heap.size 0 S tv 0 := grow_blk hgrow ((h.blk.below hb).below ba) (fun e => by have := (hlt _ e.symm).1; omega)
  obtain ⟨-, -, -, l4, l5, l6, l7⟩ := K.leg_ok hl
  obtain ⟨-, r2, r3, -⟩ := K.reach_ok l4
  obtain ⟨-, -, -, f1, f2⟩ := H.fit_ok l5
  refine ⟨?_, by rw [List.length_append, h.len]; rfl, blk_set hT6 2 _, ?_, hno, ?_, b6.setCell (Nat.le_refl _) _⟩
  · rw [h.legs, K.legs_ok hi hl, List.append_assoc]; rfl
  · exact ownsRow_setCell_below hown (Nat.lt_succ_self _) _
  · have := h.t0
    rw [l6] at l7 ⊢
    omega

set_option maxRecDepth 100000 in
set_option maxHeartbeats 16000000 in
theorem rrun_any (x : C) (V : Option Addr) (vn vc : Nat) (o : List Int) (w : World) (hx : At w x) (hV : Ints w V vn o) (hvc : vn ≤ vc) (hvn : vn ≤ 100000) :
    Calls Try.prog 17 #[.agg #[.int .i64 x.nd, .slice x.A x.n x.c], .agg #[.int .i64 x.s.day, .int .i64 x.s.depot, .int .i64 x.s.start, .int .i64 x.s.end_, .int .i64 x.s.tare, .slice x.s.A x.s.n x.s.c], .slice x.B x.m x.d, .slice V vn vc] w fun e w' => RetTour w w' (K.run x.nd x.l x.s x.r o) e := by
  obtain ⟨w1, hw1⟩ : ∃ w1 : World, w1 = w.alloc (.cells #[.int .i64 x.nd, .slice x.A x.n x.c] 24) := ⟨_, rfl⟩
  obtain ⟨w2, hw2⟩ : ∃ w2 : World, w2 = w1.alloc (.cells #[.int .i64 x.s.day, .int .i64 x.s.depot, .int .i64 x.s.start, .int .i64 x.s.end_, .int .i64 x.s.tare, .slice x.s.A x.s.n x.s.c] 27) := ⟨_, rfl⟩
  obtain ⟨w3, hw3⟩ : ∃ w3 : World, w3 = w2.alloc (.cells #[.int .i64 0, .slice none 0 0, .slice none 0 0, .int .i64 0] 30) := ⟨_, rfl⟩
  have z1 : w1.heap.size = w.heap.size + 1 := by rw [hw1]; exact World.size_alloc _ _
  have z2 : w2.heap.size = w.heap.size + 1 + 1 := by rw [hw2, World.size_alloc, z1]
  have z3 : w3.heap.size = w.heap.size + 1 + 1 + 1 := by rw [hw3, World.size_alloc, z2]
  have b01 : Below w.heap.size w w1 := by rw [hw1]; exact (Below.refl _ _).alloc (Nat.le_refl _) _
  have b12 : Below w1.heap.size w1 w2 := by rw [hw2]; exact (Below.refl _ _).alloc (Nat.le_refl _) _
  have b23 : Below w2.heap.size w2 w3 := by rw [hw3]; exact (Below.refl _ _).alloc (Nat.le_refl _) _
  have hP : Net w3 w.heap.size x.nd x.A x.n x.c := by
    have h1 : Net w1 w.heap.size x.nd x.A x.n x.c := by rw [hw1]; exact Net.new _ _ _ _ _
    exact (h1.below b12).below b23
  have hS : Shf w3 (w.heap.size + 1) x.s := by
    have h1 : Shf w2 (w.heap.size + 1) x.s := by rw [← z1, hw2]; exact Shf.new _ _
    exact h1.below b23
  have hR : TrBlk w3 (w.heap.size + 1 + 1) (.slice none 0 0) (.slice none 0 0) 0 := by rw [← z2, hw3]; exact heap_alloc_new _ _
  have b3 := bel (bel b01 b12) b23
  have p0 := hP.c0
  have p1 := hP.c1
  obtain ⟨s0, s1, s2, s3, s4, s5⟩ := hS.cells
  have Z3 := Lib.hid z3
  rw [hw3, hw2, hw1] at p0 p1 s0 s1 s2 s3 s4 s5
  go_enter Try.func17, Try.ntmps17
  go_wp2_with fail
  rw [← hw1, ← hw2, ← hw3]
  clear hw1 hw2 hw3 z1 z2 z3 b01 b12 b23 p0 p1 s0 s1 s2 s3 s4 s5
  refine (rright30_any x V vn vc o _ (hx.below b3) (hV.below b3) (by omega)).mono ?_
  rintro e w4 ⟨rfl, b34⟩
  have hP := hP.below b34
  have hS := hS.below b34
  have hR := hR.below b34 (by rw [Z3.out]; omega)
  have b4 := bel b3 b34
  clear b3
  cases hr : K.right x.nd x.l x.s x.r o
  · have HX := Lib.hid (show K.run x.nd x.l x.s x.r o = ⟨K.Tr.zero, 1, 0⟩ by unfold K.run; rw [if_pos hr])
    clear hr
    obtain ⟨r0, r1, r2, r3⟩ := hR.cells
    have f0 := hR.free 0
    have f1 := hR.free 1
    have f2 := hR.free 2
    have f3 := hR.free 3
    go_wp2_with fail
    refine bodyPost_ret_by (v := .tuple #[.agg #[.int .i64 0, .slice none 0 0, .slice none 0 0, .int .i64 0], .int .i64 1, .int .i64 0]) ?_ rfl ?_
    · obtain ⟨z0, z1, z2, z3⟩ := (hR.set (.slice none 0 0) (.slice none 0 0) 0).cells
      rw [results_cell_tmp2 rfl]
      simp [go_sem, z0, z1, z2, z3]
    · exact retTour_zero HX.out (below_set4 b4 (by omega) _ _ _ _)
  · obtain ⟨hne, hld, hdp, hno⟩ := K.right_parts hr
    obtain ⟨hck, hset, hall⟩ := T.load_parts hld
    obtain ⟨-, ⟨d0, d1⟩, st0, st1, en1⟩ := K.check_parts hck
    have HSET := Lib.hid (T.isSetFrom_mem hset)
    have HALL := Lib.hid hall
    have HNO := Lib.hid hno
    have HRT := Lib.hid hr
    have HNE := Lib.hid hne
    clear hr hne hld hset hall hck hno
    obtain ⟨i0, hi, hz0, hz1, hz2⟩ := info_parts Try.info3
    have hrs : w.heap.size + 1 + 1 < w4.heap.size := by have := b34.size; have := Z3.out; omega
    have HLN := Lib.hid hV.1
    have hlit : (w4.alloc (.cells #[] 3)).ownsRow w4.heap.size 3 1 (.slice (some ⟨w4.heap.size, 0, none⟩) 0 0) 0 [] := own_lit (heap_alloc_new w4 (.cells #[] 3)) (Nat.le_refl _)
    have ba4 : Below w4.heap.size w4 (w4.alloc (.cells #[] 3)) := (Below.refl _ _).alloc (Nat.le_refl _) _
    go_wp2_with (at_builtin; refine wp_append_rd rfl (.tmp 25) (.tmp 26) 25 rfl w4.heap.size 3 i0 (.int .i64 0) 1 8 Try.underlying25 hi hz0 hz1 hz2 rfl (by decide) (.slice (some ⟨w4.heap.size, 0, none⟩) 0 0) 0 [] rfl hlit V vn vc (intCells o) rfl (hV.below (bel b4 ba4)).2 (intCells_one o) (by simp only [maxLen]; omega) (by omega) (by first | (simp; done) | (simp; omega)) ?_; intro v' w5 hown5 hgrow5 hat5; rw [Nat.zero_add, List.nil_append] at hown5; obtain ⟨SA, sc, rfl, hI5⟩ := own_ints hown5 HLN.out; have hSA := (fun ad (e : SA = some ad) => (hown5.lt _ (by rw [e]; rfl))); have b45 : Below w4.heap.size w4 w5 := below_own2 ba4 hgrow5 (lit_block (Nat.le_refl _)); have b5a : Below w5.heap.size w5 (w5.alloc (.cells #[.int .i64 0, .slice SA vn sc, .slice none 0 0, .int .i64 0] 30)) := (Below.refl _ _).alloc (Nat.le_refl _) _; have g1 := ((hS.below b45).below b5a).cells.2.1; have g2 := ((hS.below b45).below b5a).cells.2.2.1)
    have b5 := bel b4 b45
    have hP := hP.below b45
    have hS := hS.below b45
    have hR := hR.below b45 hrs
    have hrs5 : w.heap.size + 1 + 1 < w5.heap.size := by have := b45.size; omega
    have hrel0 : NRel x o w5 (.slice SA vn sc) 0 (.slice none 0 0) x.s.depot x.s.start [] (w5.alloc (.cells #[.int .i64 0, .slice SA vn sc, .slice none 0 0, .int .i64 0] 30)) :=
      ⟨by simp, rfl, heap_alloc_new w5 _, World.ownsRow_nil _ _ _ _, ⟨d0, hdp⟩, ⟨st0, by omega⟩, b5a⟩
    clear hown5 hgrow5 hat5 hlit ba4 hi hz0 hz1 hz2 b45 g1 g2 b5a b34
    go_loopw [12, 13, 14] (fun v12 v13 v14 wr => ∃ (k : Nat) (tv : Value) (a t : Int) (ts : List Int), v12 = .int .i64 t ∧ v13 = .int .i64 a ∧ v14 = .int .i64 k ∧ k ≤ vn ∧ NRel x o w5 (.slice SA vn sc) k tv a t ts wr) (fun _ _ v14 _ => vn - (intOf v14).toNat)
    case atStart => exact ⟨0, _, _, _, [], rfl, rfl, rfl, by omega, hrel0⟩
    case round =>
      clear hrel0
      obtain ⟨k, tv, a, t, ts, rfl, rfl, rfl, hk, hrr⟩ := hrel
      have hbr := hrr.bw
      have hbw := bel b5 hbr
      have hSr := hS.below hbr
      have hPr := hP.below hbr
      by_cases hlt : k < vn
      · obtain ⟨adv, i, rfl, hi, ciw⟩ := hV.at_ hlt
        have ci := (hbw.cell (cell_lt ciw)).trans ciw
        have him := List.mem_of_getElem? hi
        obtain ⟨hi0, hi1⟩ := HSET.out i him
        obtain ⟨j, rfl⟩ : ∃ j : Nat, i = (j : Int) := ⟨i.toNat, by omega⟩
        obtain ⟨q, hq⟩ : ∃ q, x.r[j]? = some q := ⟨_, List.getElem?_eq_getElem (by omega)⟩
        obtain ⟨⟨n0, -⟩, ⟨e0, e1⟩, -⟩ := K.right_req (HALL.out q (List.mem_of_getElem? hq))
        have hnq := HNO.out _ him
        rw [K.req_get hq] at hnq
        have HRQ := Lib.hid (K.req_get hq)
        have HI := Lib.hid hi
        have HRR := Lib.hid hrr
        have ha0 := hrr.a0
        have ht0 := hrr.t0
        have him : j < x.m := by rw [hx.reqs.1]; omega
        have j0 : (0 : Int) ≤ (j : Int) := by omega
        have j1 : (j : Int) < (x.m : Int) := by omega
        obtain ⟨adq, q', hB, hgq, -, y0, -, -, y3, -⟩ := hx.reqs.at_ him
        rw [hq] at hgq
        injection hgq with hgq
        subst hgq
        obtain ⟨lb, hlb⟩ : ∃ lb, lb = (K.leg x.nd x.l x.s x.r (o.take k) j a t).1 := ⟨_, rfl⟩
        obtain ⟨le, hle⟩ : ∃ le, le = (K.leg x.nd x.l x.s x.r (o.take k) j a t).2 := ⟨_, rfl⟩
        have hAr := hx.below hbw
        have hIk : ∀ w', Below wr.heap.size wr w' → Ints w' (some adv) k (o.take k) := fun w' h => (hV.below (bel hbw h)).take (by omega)
        have CL := fun z : Beh wr => leg_any x (some adv) k vc (o.take k) j q a t z.val (hAr.below z.property) (hIk _ z.property) (by omega) HNE.out ha0 hq ⟨n0, hnq⟩ ht0 ⟨e0, e1⟩
        unfold Leg at CL
        simp only [← hlb, ← hle, hB] at CL
        rw [hB]
        clear hB
        obtain ⟨s0, s1, s2, s3, s4, s5⟩ := hSr.cells
        have g0 := Beh.cell hPr.c0
        have g1 := Beh.cell hPr.c1
        have f0 := Beh.cell s0
        have f1 := Beh.cell s1
        have f2 := Beh.cell s2
        have f3 := Beh.cell s3
        have f4 := Beh.cell s4
        have f5 := Beh.cell s5
        have fi := Beh.cell ci
        have k0 : (0 : Int) ≤ (k : Int) := by omega
        have k1 : (k : Int) ≤ (vc : Int) := by omega
        have k2 : (k : Int) < (vn : Int) := by omega
        have HLB := Lib.hid hlb
        have HLE := Lib.hid hle
        clear hi him hrr hlb hle s0 s1 s2 s3 s4 s5
        go_wp2_with fail
        refine reg_beh (by kernel_rfl) (by kernel_rfl) ?_
        repeat (go_big_quiet_step ((go_at_call 50; exact Beh.calls (CL _))))
        refine wpQuiet_nil ?_
        rintro w6 ⟨⟨_, b56⟩, rfl⟩
        have hb6w := bel hbw b56
        have hR6 := hR.below (bel hbr b56) hrs5
        clear CL g0 g1 f0 f1 f2 f3 f4 f5 fi
        cases h0 : (le == 0)
        · have h0' : (le != 0) = true := by simp [bne, h0]
          have hne0 : le ≠ 0 := by simpa using h0
          have HX := Lib.hid (show K.run x.nd x.l x.s x.r o = ⟨K.Tr.zero, le, k⟩ by
            rw [K.run_legs HRT.out HRR.out.legs, K.legs_no HI.out (by rw [← HLE.out]; exact hne0), ← HLE.out, if_pos hne0]
            simp [HRR.out.len])
          obtain ⟨r0, r1, r2, r3⟩ := hR6.cells
          have f0 := hR6.free 0
          have f1 := hR6.free 1
          have f2 := hR6.free 2
          have f3 := hR6.free 3
          clear h0 hne0
          go_wp2_with fail
          refine bodyPost_ret_by (v := .tuple #[.agg #[.int .i64 0, .slice none 0 0, .slice none 0 0, .int .i64 0], .int .i64 le, .int .i64 k]) ?_ rfl ?_
          · obtain ⟨z0, z1, z2, z3⟩ := (hR6.set (.slice none 0 0) (.slice none 0 0) 0).cells
            rw [results_cell_tmp2 rfl]
            simp [go_sem, z0, z1, z2, z3]
          · exact retTour_zero HX.out (below_set4 hb6w (by omega) _ _ _ _)
        · have h0' : (le != 0) = false := by simp [bne, h0]
          have hee : le = 0 := by simpa using h0
          have HRE := Lib.hid (show (0 : Int) = (K.leg x.nd x.l x.s x.r (List.take k o) j a t).2 by rw [← hee]; exact HLE.out)
          have hT6 := HRR.out.blk.below b56
          have u2 := hT6.cells.2.2.1
          have hown6 : (w6.alloc (.cells #[.int .i64 lb] 3)).ownsRow (w5.heap.size + 1) 3 1 tv k (intCells ts) := (own_below HRR.out.own b56).alloc _
          have ba6 : Below w6.heap.size w6 (w6.alloc (.cells #[.int .i64 lb] 3)) := (Below.refl _ _).alloc (Nat.le_refl _) _
          have hs5 := b56.size
          have hs4 := hbr.size
          have hbL := HRR.out.own.lt
          have hlk := K.leg_ok (nd := x.nd) (l := x.l) (s := x.s) (r := x.r) (v := List.take k o) (i := j) (a := a) (t := t) HRE.out.symm
          have hlb2 : 0 ≤ lb ∧ lb ≤ 1000000 := by
            obtain ⟨-, -, -, l4, l5, l6, l7⟩ := hlk
            obtain ⟨-, -, -, f1, f2⟩ := H.fit_ok l5
            obtain ⟨-, r2, r3, -⟩ := K.reach_ok l4
            have h9 := HLB.out
            rw [l6] at h9 l7
            rw [HRQ.out] at *
            omega
          obtain ⟨lb0, lb1⟩ := hlb2
          have hwrap : IntKind.i64.wrap (lb + q.service) = lb + q.service := IntWalk.i64_in _ (by omega)
          have hs6 : w5.heap.size + 1 ≤ (w6.alloc (.cells #[.int .i64 lb] 3)).heap.size := by rw [World.size_alloc]; omega
          clear h0 hlk
          subst hee
          go_wp2_with (at_builtin; refine app_int rfl (.tmp 61) (.tmp 63) rfl (w5.heap.size + 1) tv k ts rfl hown6 w6.heap.size lb rfl (heap_alloc_at _ _ _ rfl) (by omega) hs6 ?_; intro tv' w7 hown7 hgrow7 hat7; obtain ⟨A7, c7, rfl, -, -⟩ := own_form hown7; have hT7 := grow_blk hgrow7 (hT6.below ba6) (fun e => (by have := (hbL _ e.symm).1; omega)); have v2 := blk_free hT7 2; have v2c := blk_cell hT7 2 _ rfl; have b7 : Below w5.heap.size w5 w7 := below_own2 (bel (bel hbr b56) ba6) hgrow7 (fun g e => (by have := (hbL g e).1; omega)); have b8 : Below w.heap.size w (w7.setCell ⟨w5.heap.size, 2, none⟩ (.slice A7 (k + 1) c7)) := bel b5 (b7.setCell (Nat.le_refl _) _); have yy0 := (b8.cell (cell_lt y0)).trans y0; have yy3 := (b8.cell (cell_lt y3)).trans y3; have ci8 := (b8.cell (cell_lt ciw)).trans ciw)
          have hN := HRR.out.next HI.out HLB.out HRE.out rfl b56 hown7 hgrow7 (by rw [HRQ.out]; exact ⟨n0, hnq⟩) (by rw [HRQ.out]; exact e0)
          rw [HRQ.out] at hN
          go_roundw
          case rel => exact ⟨k + 1, .slice A7 (k + 1) c7, _, _, ts ++ [lb], rfl, rfl, by go_num, by omega, hN⟩
          case measure => simp [intOf]; omega
      · have hkv : vn = k := by omega
        subst hkv
        have hto : o.take vn = o := List.take_of_length_le (by rw [← hV.1]; omega)
        have hdo : o.drop vn = [] := List.drop_eq_nil_of_le (by rw [← hV.1]; omega)
        have hl0 := hrr.legs
        rw [hto, hdo] at hl0
        have hl1 : K.legs x.nd x.l x.s x.r [] x.s.depot x.s.start o = ⟨ts, a, t, 0⟩ := by rw [hl0]; simp [K.legs]
        have hRn := K.run_legs HRT.out hl1
        simp only [ne_eq, not_true_eq_false, if_false] at hRn
        have HRN := Lib.hid hRn
        obtain ⟨A7, c7, rfl, hI7⟩ := own_ints hrr.own hrr.len.symm
        have hA7 : ∀ ad, A7 = some ad → w5.heap.size + 1 ≤ ad.block := fun ad e => (hrr.own.lt _ (by rw [e]; rfl)).1
        have hblk := hrr.blk
        have ha0 := hrr.a0
        have ht0 := hrr.t0
        clear hrr hto hdo hl0 hl1 hRn
        obtain ⟨dn, hdn⟩ : ∃ dn : Nat, x.s.depot = (dn : Int) := ⟨x.s.depot.toNat, by omega⟩
        obtain ⟨s0, s1, s2, s3, s4, s5⟩ := hSr.cells
        have g0 := Beh.cell hPr.c0
        have g1 := Beh.cell hPr.c1
        have f0 := Beh.cell s0
        have f1 := Beh.cell s1
        have f2 := Beh.cell s2
        have f3 := Beh.cell s3
        have f4 := Beh.cell s4
        have f5 := Beh.cell s5
        have hA4 := hx.below hbw
        have hV4 := hV.below hbw
        obtain ⟨wt, hwt⟩ : ∃ wt, wt = T.weight x.s x.r o := ⟨_, rfl⟩
        obtain ⟨y, hy⟩ : ∃ y, y = K.way x.nd x.l a wt x.s.depot := ⟨_, rfl⟩
        have hdn2 : (dn : Int) < x.nd := by omega
        have CW := fun j : Beh wr => rweight_any x.s x.B x.m x.d x.r V vn vc o j.val ((hA4.below j.property).rooms) hx.b2 ((hA4.below j.property).reqs) hx.b3 hx.b4 (hV4.below j.property) (by omega)
        have CY := fun j : Beh wr => rway_any x.nd x.A x.n x.c x.l a dn wt j.val ((hA4.below j.property).net) hx.b1 HNE.out ha0 hdn2
        simp only [← hwt] at CW
        simp only [← hdn, ← hy] at CY
        have hyb := K.way_bd x.nd x.l a wt x.s.depot
        rw [← hy] at hyb
        obtain ⟨hy0, hy1⟩ := hyb
        have HY := Lib.hid (show K.way x.nd x.l a (T.weight x.s x.r o) x.s.depot = y by rw [← hwt, hy])
        clear hy hwt hdn s0 s1 s2 s3 s4 s5
        go_wp2_with fail
        refine reg_beh (by kernel_rfl) (by kernel_rfl) ?_
        repeat (go_big_quiet_step ((first | (go_at_call 52; exact Beh.calls (CW _)) | (go_at_call 51; exact Beh.calls (CY _)))))
        refine wpQuiet_nil ?_
        rintro w6 ⟨⟨_, b56⟩, rfl⟩
        clear CW CY g0 g1 f0 f1 f2 f3 f4 f5 hA4 hV4
        have hb6w := bel hbw b56
        have b6 := bel hbr b56
        have hR6 := hR.below b6 hrs5
        have hT6 := hblk.below b56
        obtain ⟨s0, s1, s2, s3, s4, s5⟩ := (hSr.below b56).cells
        obtain ⟨r0, r1, r2, r3⟩ := hR6.cells
        have f0 := hR6.free 0
        have f1 := hR6.free 1
        have f2 := hR6.free 2
        have f3 := hR6.free 3
        cases h1 : decide (y < 0)
        rotate_left
        · have HX := Lib.hid (show K.run x.nd x.l x.s x.r o = ⟨K.Tr.zero, 4, vn⟩ by
            have hr : K.reach x.nd x.l x.s x.r o a t x.s.depot = (0, 4) := by unfold K.reach; rw [HY.out, if_pos (by have h1 := of_decide_eq_true h1; omega)]
            rw [HRN.out, hr, if_pos (by decide), ← HLN.out])
          go_wp2_with fail
          refine bodyPost_ret_by (v := .tuple #[.agg #[.int .i64 0, .slice none 0 0, .slice none 0 0, .int .i64 0], .int .i64 4, .int .i64 vn]) ?_ rfl ?_
          · obtain ⟨z0, z1, z2, z3⟩ := (hR6.set (.slice none 0 0) (.slice none 0 0) 0).cells
            rw [results_cell_tmp2 rfl]
            simp [go_sem, z0, z1, z2, z3]
          · exact retTour_zero HX.out (below_set4 hb6w (by omega) _ _ _ _)
        have hyp : ¬ y < 0 := of_decide_eq_false h1
        have hwrap : IntKind.i64.wrap (t + y) = t + y := IntWalk.i64_in _ (by omega)
        cases h2 : decide (x.s.end_ < t + y)
        rotate_left
        · have HX := Lib.hid (show K.run x.nd x.l x.s x.r o = ⟨K.Tr.zero, 18, vn⟩ by
            have hr : K.reach x.nd x.l x.s x.r o a t x.s.depot = (0, 18) := by unfold K.reach; rw [HY.out, if_neg (by omega), if_pos (of_decide_eq_true h2)]
            rw [HRN.out, hr, if_pos (by decide), ← HLN.out])
          go_wp2_with fail
          refine bodyPost_ret_by (v := .tuple #[.agg #[.int .i64 0, .slice none 0 0, .slice none 0 0, .int .i64 0], .int .i64 18, .int .i64 vn]) ?_ rfl ?_
          · obtain ⟨z0, z1, z2, z3⟩ := (hR6.set (.slice none 0 0) (.slice none 0 0) 0).cells
            rw [results_cell_tmp2 rfl]
            simp [go_sem, z0, z1, z2, z3]
          · exact retTour_zero HX.out (below_set4 hb6w (by omega) _ _ _ _)
        have h2' : ¬ x.s.end_ < t + y := of_decide_eq_false h2
        have HX := Lib.hid (show K.run x.nd x.l x.s x.r o = ⟨⟨o, ts, t + y⟩, 0, o.length⟩ by
          have hr : K.reach x.nd x.l x.s x.r o a t x.s.depot = (t + y, 0) := by unfold K.reach; rw [HY.out, if_neg (by omega), if_neg h2']
          rw [HRN.out, hr]; simp)
        clear hyp h2' r0 r1 r2 r3 f0 f1 f2 f3
        have v3 := blk_free hT6 3
        have v3c := blk_cell hT6 3 _ rfl
        have b7 : Below w5.heap.size w5 (w6.setCell ⟨w5.heap.size, 3, none⟩ (.int .i64 (t + y))) := b6.setCell (Nat.le_refl _) _
        have hT7 : TBlk (w6.setCell ⟨w5.heap.size, 3, none⟩ (.int .i64 (t + y))) w5.heap.size 0 (.slice SA vn sc) (.slice A7 vn c7) (t + y) := blk_set hT6 3 _
        obtain ⟨y0, y1, y2, y3⟩ := hT7.cells
        have hR7 := hR.below b7 hrs5
        obtain ⟨r0, r1, r2, r3⟩ := hR7.cells
        have f0 := hR7.free 0
        have f1 := hR7.free 1
        have f2 := hR7.free 2
        have f3 := hR7.free 3
        have hA6 : Ints (w6.setCell ⟨w5.heap.size, 3, none⟩ (.int .i64 (t + y))) SA vn o := (hI5.below b6).set _ (fun ad e => by have := hSA ad e; omega)
        have hB6 : Ints (w6.setCell ⟨w5.heap.size, 3, none⟩ (.int .i64 (t + y))) A7 vn ts := (hI7.below b56).set _ (fun ad e => by have := hA7 ad e; omega)
        go_wp2_with fail
        refine bodyPost_ret_by (v := .tuple #[.agg #[.int .i64 0, .slice SA vn sc, .slice A7 vn c7, .int .i64 (t + y)], .int .i64 0, .int .i64 vn]) ?_ rfl ?_
        · obtain ⟨z0, z1, z2, z3⟩ := (hR7.set (.slice SA vn sc) (.slice A7 vn c7) (t + y)).cells
          rw [results_cell_tmp2 rfl]
          simp [go_sem, z0, z1, z2, z3]
        · exact retTour_mk HX.out rfl (by rw [HLN.out]) (bel b5 b7) hA6 hB6 (fun ad e => by have := hSA ad e; omega) (fun ad e => by have := hA7 ad e; omega) (by omega) rfl
end Go.Proofs.Ytjcdpfpdjcannaa
