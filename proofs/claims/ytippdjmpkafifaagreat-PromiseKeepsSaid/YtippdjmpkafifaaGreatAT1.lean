import Derived.Test.YtippdjmpkafifaaGreatAQ10
namespace Go.Proofs.YtippdjmpkafifaaGreat
open Go.RowKit
namespace K
theorem asc33_at {n p : Int} {v : List Int} {k : Nat} {i : Int} (h : v[k]? = some i) : asc33 n p (v.drop k) = (!decide (i ≤ p) && (!decide (n ≤ i) && asc33 n i (v.drop (k + 1)))) := by
  obtain ⟨hk, e⟩ := List.getElem?_eq_some_iff.1 h
  rw [List.drop_eq_getElem_cons hk, e, asc33]
end K
set_option maxRecDepth 100000 in
set_option maxHeartbeats 32000000 in
theorem pcheck33_any (x : Cs) (q : Q) (a : AV) (w : World) (hx : Ok33 w x q) (ha : AvAt w a) (hao : AvOk a) :
    Calls Tryz.prog 37 #[.agg #[.int .i64 x.nd, .slice x.A x.n x.c, .slice x.SA x.sn x.sc, .slice x.B x.m x.d], .agg #[.int .i64 q.node, .int .i64 q.room, .int .i64 q.kilos, .int .i64 q.service, .int .i64 q.frm, .int .i64 q.by_, .slice q.A q.n q.c], .agg #[.bool a.acc, .slice a.PA a.pn a.pc, .slice a.VA a.vn a.vc, .slice a.RA a.rn a.rc]] w fun e w' => e = .returned (.bool (K.check33 x.nd x.l x.ss x.r q a.an)) ∧ Below w.heap.size w w' := by
  obtain ⟨w0, hw0⟩ : ∃ w0 : World, w0 = w.alloc (.cells #[.int .i64 x.nd, .slice x.A x.n x.c, .slice x.SA x.sn x.sc, .slice x.B x.m x.d] 44) := ⟨_, rfl⟩
  have z0 : w0.heap.size = w.heap.size + 1 := by rw [hw0]; exact World.size_alloc _ _
  have b0 : Below w.heap.size w w0 := by rw [hw0]; exact (Below.refl _ _).alloc (Nat.le_refl _) _
  have hN0 : BkBlk w0 w.heap.size x := by rw [hw0]; exact BkBlk.new _ _
  obtain ⟨w1, hw1⟩ : ∃ w1 : World, w1 = w0.alloc (.cells #[.int .i64 q.node, .int .i64 q.room, .int .i64 q.kilos, .int .i64 q.service, .int .i64 q.frm, .int .i64 q.by_, .slice q.A q.n q.c] 47) := ⟨_, rfl⟩
  have z1 : w1.heap.size = w.heap.size + 1 + 1 := by rw [hw1, World.size_alloc, z0]
  have b1 : Below w0.heap.size w0 w1 := by rw [hw1]; exact (Below.refl _ _).alloc (Nat.le_refl _) _
  have hB1 : QBlk w1 (w.heap.size + 1) q := by rw [hw1, ← z0]; exact QBlk.new _ _
  obtain ⟨w2, hw2⟩ : ∃ w2 : World, w2 = w1.alloc (.cells #[.bool a.acc, .slice a.PA a.pn a.pc, .slice a.VA a.vn a.vc, .slice a.RA a.rn a.rc] 50) := ⟨_, rfl⟩
  have b2 : Below w1.heap.size w1 w2 := by rw [hw2]; exact (Below.refl _ _).alloc (Nat.le_refl _) _
  have hA2 : w2.heap[w.heap.size + 1 + 1]? = some (.cells #[.bool a.acc, .slice a.PA a.pn a.pc, .slice a.VA a.vn a.vc, .slice a.RA a.rn a.rc] 50 (0, 0)) := by rw [hw2, ← z1]; exact heap_alloc_new _ _
  have b12 := bel b1 b2
  have hb2 := bel b0 b12
  have HMK := Lib.hid (show ∀ w', Below w2.heap.size w2 w' → (fun w' : World => w'.cell? ⟨w.heap.size, 0, none⟩ = some (.int .i64 x.nd) ∧ w'.cell? ⟨w.heap.size, 1, none⟩ = some (.slice x.A x.n x.c) ∧ w'.cell? ⟨w.heap.size, 2, none⟩ = some (.slice x.SA x.sn x.sc) ∧ w'.cell? ⟨w.heap.size, 3, none⟩ = some (.slice x.B x.m x.d) ∧ w'.cell? ⟨w.heap.size + 1, 0, none⟩ = some (.int .i64 q.node) ∧ w'.cell? ⟨w.heap.size + 1, 1, none⟩ = some (.int .i64 q.room) ∧ w'.cell? ⟨w.heap.size + 1, 2, none⟩ = some (.int .i64 q.kilos) ∧ w'.cell? ⟨w.heap.size + 1, 3, none⟩ = some (.int .i64 q.service) ∧ w'.cell? ⟨w.heap.size + 1, 4, none⟩ = some (.int .i64 q.frm) ∧ w'.cell? ⟨w.heap.size + 1, 5, none⟩ = some (.int .i64 q.by_) ∧ w'.cell? ⟨w.heap.size + 1, 6, none⟩ = some (.slice q.A q.n q.c) ∧ w'.cell? ⟨w.heap.size + 1 + 1, 0, none⟩ = some (.bool a.acc) ∧ w'.cell? ⟨w.heap.size + 1 + 1, 1, none⟩ = some (.slice a.PA a.pn a.pc) ∧ w'.cell? ⟨w.heap.size + 1 + 1, 2, none⟩ = some (.slice a.VA a.vn a.vc) ∧ w'.cell? ⟨w.heap.size + 1 + 1, 3, none⟩ = some (.slice a.RA a.rn a.rc)) w' from fun w' h => by
    obtain ⟨a0, a1, a2, a3, a4⟩ := BQ.mk' ((hN0.below b12).below h) ((hB1.below b2).below h)
    exact ⟨a0, a1, a2, a3, a4.1, a4.2.1, a4.2.2.1, a4.2.2.2.1, a4.2.2.2.2.1, a4.2.2.2.2.2.1, a4.2.2.2.2.2.2, blk_cell (blk_below h hA2) 0 _ rfl, blk_cell (blk_below h hA2) 1 _ rfl, blk_cell (blk_below h hA2) 2 _ rfl, blk_cell (blk_below h hA2) 3 _ rfl⟩)
  have hx2 := hx.below hb2
  have ha2 := ha.below hb2
  have HRN := Lib.hid hx.cs.reqs.1
  have HVN := Lib.hid ha.v.1
  have HPN := Lib.hid ha.t.1.1
  have HBN := Lib.hid ha.b.1.1
  have hm9 := hx.m
  have hv9 := hao.fv
  have hb9 := hao.fb.1
  have CF := fits94_any x.nd x.A x.n x.c q w2 hx2.req (by have := hx.q; omega)
  obtain ⟨z, hz⟩ : ∃ z, z = K.fits33 x.nd q := ⟨_, rfl⟩
  rw [← hz] at CF
  have HZ := Lib.hid hz
  obtain ⟨R, hR⟩ : ∃ R, R = K.check33 x.nd x.l x.ss x.r q a.an := ⟨_, rfl⟩
  have HR := Lib.hid hR
  obtain ⟨p0, p1, p2, p3, c0, c1, c2, c3, c4, c5, c6, r0, r1, r2, r3⟩ := HMK.out _ (Below.refl _ _)
  rw [← hR]
  clear hz hR
  go_enter Tryz.func37, Tryz.ntmps37
  rw [hw2, hw1, hw0] at p0 p1 p2 p3 c0 c1 c2 c3 c4 c5 c6
  go_wp2_with fail
  rw [← hw0, ← hw1, ← hw2]
  clear hw0 hw1 hw2 z0 z1 b0 b1 b2 b12 hN0 hB1 hA2
  clear p0 p1 p2 p3 c0 c1 c2 c3 c4 c5 c6 r0 r1 r2 r3
  refine CF.mono ?_
  rintro e w3 ⟨rfl, b3⟩
  clear CF
  have hb3 := bel hb2 b3
  cases z
  · have HX := Lib.hid (show R = false by rw [HR.out]; unfold K.check33; rw [if_pos (.inl HZ.out.symm)])
    go_wp2_with fail
    go_ret
    exact ⟨by rw [HX.out]; rfl, hb3⟩
  by_cases h6 : 6 ≤ x.m
  · have HX := Lib.hid (show R = false by rw [HR.out]; unfold K.check33; rw [if_pos (.inr (by rw [← HRN.out]; exact h6))])
    have d1 : decide ((6 : Int) ≤ (x.m : Int)) = true := by simp; omega
    have d2 : decide (6 ≤ x.m) = true := by simp; omega
    obtain ⟨p0, p1, p2, p3, c0, c1, c2, c3, c4, c5, c6, r0, r1, r2, r3⟩ := HMK.out _ b3
    go_wp2_with fail
    go_ret
    exact ⟨by rw [HX.out]; rfl, hb3⟩
  have d1 : decide ((6 : Int) ≤ (x.m : Int)) = false := by simp; omega
  have d2 : decide (6 ≤ x.m) = false := by simp; omega
  have HNE := Lib.hid (show ¬ (K.fits33 x.nd q = false ∨ 6 ≤ x.r.length) from fun h => h.elim (fun h => by rw [← HZ.out] at h; cases h) (fun h => h6 (by rw [HRN.out]; exact h)))
  have hx3 := hx2.below b3
  cases hac : a.acc
  rotate_left
  · rw [hac] at HMK
    have HRT := Lib.hid (show R = ((a.v.length + (a.bl.map BV.pr).length == 0) && (K.checks x.nd x.l x.ss (x.r ++ [q]) (a.ts.map TV.pr) == 0)) by
      rw [HR.out]
      unfold K.check33 AV.an
      rw [if_neg HNE.out, hac, if_pos rfl])
    clear hac
    have hbd : Below w3.heap.size w3 w3.drew := (Below.refl _ _).drew
    have b3d := bel b3 hbd
    have S0 := HMK.out _ b3
    have S0d := HMK.out _ b3d
    have hx3d := hx2.below b3d
    have HIO := Lib.hid (show ∀ i ∈ K.iota x.m, 0 ≤ i ∧ i < (x.r.length : Int) from fun i hi => by have := K.mem_iota.1 hi; have := HRN.out; omega)
    obtain ⟨p0, p1, p2, p3, c0, c1, c2, c3, c4, c5, c6, r0, r1, r2, r3⟩ := HMK.out _ b3
    go_upto_region 4 with fail
    clear d1 d2
    clear p0 p1 p2 p3 c0 c1 c2 c3 c4 c5 c6 r0 r1 r2 r3
    go_region_held3 (fun w' : World => w'.cell? ⟨w.heap.size, 0, none⟩ = some (.int .i64 x.nd) ∧ w'.cell? ⟨w.heap.size, 1, none⟩ = some (.slice x.A x.n x.c) ∧ w'.cell? ⟨w.heap.size, 2, none⟩ = some (.slice x.SA x.sn x.sc) ∧ w'.cell? ⟨w.heap.size, 3, none⟩ = some (.slice x.B x.m x.d) ∧ w'.cell? ⟨w.heap.size + 1, 0, none⟩ = some (.int .i64 q.node) ∧ w'.cell? ⟨w.heap.size + 1, 1, none⟩ = some (.int .i64 q.room) ∧ w'.cell? ⟨w.heap.size + 1, 2, none⟩ = some (.int .i64 q.kilos) ∧ w'.cell? ⟨w.heap.size + 1, 3, none⟩ = some (.int .i64 q.service) ∧ w'.cell? ⟨w.heap.size + 1, 4, none⟩ = some (.int .i64 q.frm) ∧ w'.cell? ⟨w.heap.size + 1, 5, none⟩ = some (.int .i64 q.by_) ∧ w'.cell? ⟨w.heap.size + 1, 6, none⟩ = some (.slice q.A q.n q.c) ∧ w'.cell? ⟨w.heap.size + 1 + 1, 0, none⟩ = some (.bool true) ∧ w'.cell? ⟨w.heap.size + 1 + 1, 1, none⟩ = some (.slice a.PA a.pn a.pc) ∧ w'.cell? ⟨w.heap.size + 1 + 1, 2, none⟩ = some (.slice a.VA a.vn a.vc) ∧ w'.cell? ⟨w.heap.size + 1 + 1, 3, none⟩ = some (.slice a.RA a.rn a.rc))
      (first | with_reducible exact S2 | with_reducible exact S1 | with_reducible exact S0d | with_reducible exact S0 | fail)
      (first
        | (go_at_call 96; refine (numbers_any x.m _ (by omega)).mono ?_; rintro e w6 ⟨⟨V6, k6, rfl, hI6⟩, b6⟩; have b6r := bel b3d b6; have S1 := HMK.out _ b6r)
        | (go_at_call 95; refine (with_any x.B x.m x.d x.r V6 x.m k6 (K.iota x.m) q _ (hx3d.below b6).cs.reqs hI6 HIO.out (hx3d.below b6).req hx.qs hx.q (by omega)).mono ?_; rintro e w7 ⟨⟨A7, k7, L7, rfl, hL7, hLb, hk7, -, -⟩, b7⟩; have b7r := bel b6r b7; have S2 := HMK.out _ b7r)
        | fail)
    have HLB := Lib.hid (show L7.map Q.bare = (x.r ++ [q]).map Q.bare by rw [hLb, HRN.out, K.pick_iota])
    have hcs7 : CsAt w7 (x.with_ A7 (x.m + 1) k7 L7) := hx3d.case (bel b6 b7) hL7 hLb (by omega)
    have hb7 := bel hb2 b7r
    have kW : IntKind.i64.wrap ((a.vn : Int) + (a.rn : Int)) = ((a.vn + a.rn : Nat) : Int) := by rw [IntWalk.i64_in _ (by omega)]; omega
    by_cases hz0 : a.vn + a.rn = 0
    rotate_left
    · have HX := Lib.hid (show R = false by
        rw [HRT.out, List.length_map, ← HVN.out, ← HBN.out]
        rw [show (a.vn + a.rn == 0) = false by simp; omega]
        rfl)
      have e1 : (((a.vn + a.rn : Nat) : Int) == 0) = false := by simp; omega
      have e2 : decide (((a.vn + a.rn : Nat) : Int) = 0) = false := by simp; omega
      have e3 : decide (a.vn + a.rn = 0) = false := by simp; omega
      clear S0 S0d S1 S2
      obtain ⟨p0, p1, p2, p3, c0, c1, c2, c3, c4, c5, c6, r0, r1, r2, r3⟩ := HMK.out _ b7r
      go_wp2_with fail
      go_ret
      exact ⟨by rw [HX.out]; rfl, hb7⟩
    have e1 : (((a.vn + a.rn : Nat) : Int) == 0) = true := by simp; omega
    have e2 : decide (((a.vn + a.rn : Nat) : Int) = 0) = true := by simp; omega
    have e3 : decide (a.vn + a.rn = 0) = true := by simp; omega
    obtain ⟨c9, hc9⟩ : ∃ c9, c9 = K.checks x.nd x.l x.ss (x.r ++ [q]) (a.ts.map TV.pr) := ⟨_, rfl⟩
    have HX := Lib.hid (show R = (c9 == 0) by
      rw [HRT.out, List.length_map, ← HVN.out, ← HBN.out, show (a.vn + a.rn == 0) = true by simp; omega, hc9]
      rfl)
    have CC := checks32_any (x.with_ A7 (x.m + 1) k7 L7) a.PA a.pn a.pc a.ts w7 hcs7 ((ha2.below b7r).t) hao.ft
    rw [show K.checks (x.with_ A7 (x.m + 1) k7 L7).nd (x.with_ A7 (x.m + 1) k7 L7).l (x.with_ A7 (x.m + 1) k7 L7).ss (x.with_ A7 (x.m + 1) k7 L7).r (a.ts.map TV.pr) = c9 by rw [hc9]; exact K.checks_same HLB.out rfl _] at CC
    clear S0 S0d S1 S2 hc9
    obtain ⟨p0, p1, p2, p3, c0, c1, c2, c3, c4, c5, c6, r0, r1, r2, r3⟩ := HMK.out _ b7r
    go_wp2_with fail
    refine CC.mono ?_
    rintro e w8 ⟨rfl, b8⟩
    go_wp2_with fail
    go_ret
    exact ⟨by rw [HX.out]; rfl, bel hb7 b8⟩
  · rw [hac] at HMK
    have HRT := Lib.hid (show R = (K.asc33 x.r.length (-1) a.v && (((a.ts.map TV.pr).length == 0) && K.refutes x.nd x.l x.ss (K.pick33 x.r a.v q) (a.bl.map BV.pr))) by
      rw [HR.out]
      unfold K.check33 AV.an
      rw [if_neg HNE.out, hac, if_neg (by simp)])
    clear hac
    obtain ⟨p0, p1, p2, p3, c0, c1, c2, c3, c4, c5, c6, r0, r1, r2, r3⟩ := HMK.out _ b3
    go_wp2_with fail
    clear d1 d2
    clear p0 p1 p2 p3 c0 c1 c2 c3 c4 c5 c6 r0 r1 r2 r3
    go_loopw [8, 54] (fun v8 v54 wr => ∃ (k : Nat) (p : Int), v8 = .int .i64 p ∧ v54 = .int .i64 k ∧ k ≤ a.vn ∧ Hid (K.asc33 x.r.length (-1) a.v = K.asc33 x.r.length p (a.v.drop k)) ∧ Below w3.heap.size w3 wr) (fun _ v54 _ => a.vn - (intOf v54).toNat)
    case atStart => exact ⟨0, -1, rfl, rfl, Nat.zero_le _, rfl, Below.refl _ _⟩
    case round =>
      obtain ⟨k, p, rfl, rfl, hk, hsc, hbr⟩ := hrel
      have b3r := bel b3 hbr
      have hbw := bel hb3 hbr
      by_cases hlt : k < a.vn
      · obtain ⟨ad, i, hVA, hi, ci⟩ := (ha2.below b3r).v.at_ hlt
        have hst := hsc.out.trans (K.asc33_at hi)
        have HST := Lib.hid hst
        have k0 : (0 : Int) ≤ (k : Int) := by omega
        have k1 : (k : Int) < (a.vn : Int) := by omega
        clear hst hsc hi
        obtain ⟨p0, p1, p2, p3, c0, c1, c2, c3, c4, c5, c6, r0, r1, r2, r3⟩ := HMK.out _ b3r
        by_cases hip : i ≤ p
        · have e1 : decide (i ≤ p) = true := by simp [hip]
          have HX := Lib.hid (show R = false by rw [HRT.out, HST.out, e1]; rfl)
          rw [hVA]
          go_wp2_with fail
          go_ret
          exact ⟨by rw [HX.out]; rfl, hbw⟩
        have e1 : decide (i ≤ p) = false := by simp; omega
        by_cases hin : (x.m : Int) ≤ i
        · have e2 : decide ((x.m : Int) ≤ i) = true := by simp [hin]
          have HX := Lib.hid (show R = false by rw [HRT.out, HST.out, e1, ← HRN.out, e2]; rfl)
          rw [hVA]
          go_wp2_with fail
          go_ret
          exact ⟨by rw [HX.out]; rfl, hbw⟩
        have e2 : decide ((x.m : Int) ≤ i) = false := by simp; omega
        have HN := Lib.hid (show K.asc33 x.r.length (-1) a.v = K.asc33 x.r.length i (a.v.drop (k + 1)) by rw [HST.out, e1, ← HRN.out, e2]; rfl)
        rw [hVA]
        go_wp2_with fail
        go_roundw
        case rel => (go_light; exact ⟨k + 1, i, rfl, by go_num, hlt, HN.out, hbr⟩)
        case measure => (go_light; simp [intOf]; omega)
      · have HAS := Lib.hid (show K.asc33 x.r.length (-1) a.v = true by rw [hsc.out, List.drop_of_length_le (by have := HVN.out; omega)]; rfl)
        have HVI := Lib.hid (show ∀ i ∈ a.v, 0 ≤ i ∧ i < (x.r.length : Int) from fun i hi => by have := (K.asc33_iff.1 HAS.out).2 i hi; omega)
        have hd1 : decide ((k : Int) < (a.vn : Int)) = false := by simp; omega
        have hd2 : decide (k < a.vn) = false := by simp; omega
        clear hsc
        by_cases hp0 : a.pn = 0
        rotate_left
        · have HX := Lib.hid (show R = false by
            rw [HRT.out, HAS.out, List.length_map, ← HPN.out, show (a.pn == 0) = false by simp; omega]
            rfl)
          have e1 : ((a.pn : Int) == 0) = false := by simp; omega
          have e2 : decide ((a.pn : Int) = 0) = false := by simp; omega
          have e3 : decide (a.pn = 0) = false := by simp; omega
          obtain ⟨q0, q1, q2, q3, d0, d1, d2, d3, d4, d5, d6, s0, s1, s2, s3⟩ := HMK.out _ b3r
          have F1 := Beh.cell s1
          go_upto_region 14 with fail
          refine reg_beh (by kernel_rfl) (by kernel_rfl) ?_
          repeat (go_big_quiet_step (fail))
          refine wpQuiet_nil ?_
          rintro w5 ⟨⟨_, b45⟩, rfl⟩
          go_wp2_with fail
          go_ret
          exact ⟨by rw [HX.out]; rfl, bel hbw b45⟩
        have e1 : ((a.pn : Int) == 0) = true := by simp [hp0]
        have e2 : decide ((a.pn : Int) = 0) = true := by simp [hp0]
        have e3 : decide (a.pn = 0) = true := by simp [hp0]
        obtain ⟨rz, hrz⟩ : ∃ rz, rz = K.refutes x.nd x.l x.ss (K.pick33 x.r a.v q) (a.bl.map BV.pr) := ⟨_, rfl⟩
        have HX := Lib.hid (show R = rz by
          rw [HRT.out, HAS.out, List.length_map, ← HPN.out, show (a.pn == 0) = true by simp [hp0], hrz]
          rfl)
        have HRZ := Lib.hid (show ∀ L : List Q, L.map Q.bare = (K.pick33 x.r a.v q).map Q.bare → K.refutes x.nd x.l x.ss L (a.bl.map BV.pr) = rz from fun L e => by rw [hrz]; exact K.refutes_same e rfl _)
        have hbd : Below wr.heap.size wr wr.drew := (Below.refl _ _).drew
        have brd := bel b3r hbd
        have S0 := HMK.out _ b3r
        have S0d := HMK.out _ brd
        have hxd := hx2.below brd
        have had := ha2.below brd
        clear hrz
        go_upto_region 14 with fail
        go_region_held3 (fun w' : World => w'.cell? ⟨w.heap.size, 0, none⟩ = some (.int .i64 x.nd) ∧ w'.cell? ⟨w.heap.size, 1, none⟩ = some (.slice x.A x.n x.c) ∧ w'.cell? ⟨w.heap.size, 2, none⟩ = some (.slice x.SA x.sn x.sc) ∧ w'.cell? ⟨w.heap.size, 3, none⟩ = some (.slice x.B x.m x.d) ∧ w'.cell? ⟨w.heap.size + 1, 0, none⟩ = some (.int .i64 q.node) ∧ w'.cell? ⟨w.heap.size + 1, 1, none⟩ = some (.int .i64 q.room) ∧ w'.cell? ⟨w.heap.size + 1, 2, none⟩ = some (.int .i64 q.kilos) ∧ w'.cell? ⟨w.heap.size + 1, 3, none⟩ = some (.int .i64 q.service) ∧ w'.cell? ⟨w.heap.size + 1, 4, none⟩ = some (.int .i64 q.frm) ∧ w'.cell? ⟨w.heap.size + 1, 5, none⟩ = some (.int .i64 q.by_) ∧ w'.cell? ⟨w.heap.size + 1, 6, none⟩ = some (.slice q.A q.n q.c) ∧ w'.cell? ⟨w.heap.size + 1 + 1, 0, none⟩ = some (.bool false) ∧ w'.cell? ⟨w.heap.size + 1 + 1, 1, none⟩ = some (.slice a.PA a.pn a.pc) ∧ w'.cell? ⟨w.heap.size + 1 + 1, 2, none⟩ = some (.slice a.VA a.vn a.vc) ∧ w'.cell? ⟨w.heap.size + 1 + 1, 3, none⟩ = some (.slice a.RA a.rn a.rc))
          (first | with_reducible exact S2 | with_reducible exact S1 | with_reducible exact S0d | with_reducible exact S0 | fail)
          (first
            | (go_at_call 95; refine (with_any x.B x.m x.d x.r a.VA a.vn a.vc a.v q _ hxd.cs.reqs had.v HVI.out hxd.req hx.qs hx.q hv9).mono ?_; rintro e w7 ⟨⟨A7, k7, L7, rfl, hL7, hLb, hk7, -, -⟩, b7⟩; have b7r := bel brd b7; have S1 := HMK.out _ b7r)
            | (go_at_call 28; refine (refutes32_any (x.with_ A7 (a.vn + 1) k7 L7) a.RA a.rn a.rc a.bl _ (hxd.case b7 hL7 hLb (by omega)) (ha2.below b7r).b hao.fb).mono ?_; rintro e w8 ⟨rfl, b8⟩; have b8r := bel b7r b8; have S2 := HMK.out _ b8r)
            | fail)
        have hz : K.refutes (x.with_ A7 (a.vn + 1) k7 L7).nd (x.with_ A7 (a.vn + 1) k7 L7).l (x.with_ A7 (a.vn + 1) k7 L7).ss (x.with_ A7 (a.vn + 1) k7 L7).r (a.bl.map BV.pr) = rz := HRZ.out L7 hLb
        rw [hz]
        clear S0 S0d S1 S2 hz
        go_wp2_with fail
        go_ret
        exact ⟨by rw [HX.out]; rfl, bel hb2 b8r⟩
end Go.Proofs.YtippdjmpkafifaaGreat
namespace Go.Proofs.YtippdjmpkafifaaGreat
open Go.RowKit
theorem reqs_snoc {w : World} {A : Option Addr} {m : Nat} {r : List Q} {q : Q} (h : Rd w 7 A (m + 1) (r.flatMap Q.cells ++ q.cells)) (hm : m = r.length) (hr : ∀ p ∈ r, Wins w p.A p.n p.l) (hq : Wins w q.A q.n q.l) : Reqs w A (m + 1) (r ++ [q]) :=
  ⟨by rw [List.length_append, hm]; rfl, by rw [reqCells_flat, List.flatMap_append, List.flatMap_singleton]; exact h, fun p hp => (List.mem_append.1 hp).elim (hr p) (fun hp => by rw [List.mem_singleton.1 hp]; exact hq)⟩
def FewA (a : AV) : Prop := a.vn ≤ 10 ∧ (a.pn ≤ 6 ∧ ∀ y ∈ a.ts, y.n ≤ 10 ∧ y.n' ≤ 10) ∧ (a.rn ≤ 202 ∧ ∀ y ∈ a.bl, y.vn ≤ 6 ∧ y.ln ≤ 60)
structure Few33 (x : Cs) (q : Q) : Prop where
  n : x.n ≤ 40
  sn : x.sn ≤ 6
  m : x.m ≤ 7
  s : ∀ s ∈ x.ss, s.n ≤ 6
  r : ∀ p ∈ x.r, p.n ≤ 10
  q : q.n ≤ 10
  s2 : x.sn ≤ 4 → x.sn ≤ 2
  m3 : x.m ≤ 6 → x.m ≤ 3
theorem Few33.ok {w : World} {x : Cs} {q : Q} (h : Few33 x q) (hN : Roads w x.A x.n x.l) (hS : Shifts w x.SA x.sn x.ss) (hQ : Reqs w x.B x.m x.r) (hX : Wins w q.A q.n q.l) : Ok33 w x q :=
  ⟨⟨hN, hS, hQ, by have := h.n; omega, fun s hs => by have := h.s s hs; omega, by have := h.sn; omega, by have := h.m; omega, fun p hp => by have := h.r p hp; omega⟩, hX, by have := h.m; omega, fun p hp => by have := h.r p hp; omega, by have := h.q; omega⟩
set_option maxRecDepth 100000 in
set_option maxHeartbeats 16000000 in
theorem rfew33_any (x : Cs) (q : Q) (w : World) (hS : Shifts w x.SA x.sn x.ss) (hQ : Reqs w x.B x.m x.r) (hX : Wins w q.A q.n q.l) (hmB : x.m * 72 ≤ 140737488351232) :
    Calls Tryz.prog 31 #[.agg #[.int .i64 x.nd, .slice x.A x.n x.c, .slice x.SA x.sn x.sc, .slice x.B x.m x.d], .agg #[.int .i64 q.node, .int .i64 q.room, .int .i64 q.kilos, .int .i64 q.service, .int .i64 q.frm, .int .i64 q.by_, .slice q.A q.n q.c]] w fun e w' => (∃ z, e = .returned (.bool z) ∧ (z = true → Few33 x q)) ∧ Below w.heap.size w w' := by
  obtain ⟨w1, hw1⟩ : ∃ w1 : World, w1 = w.alloc (.cells #[.int .i64 x.nd, .slice x.A x.n x.c, .slice x.SA x.sn x.sc, .slice x.B x.m x.d] 44) := ⟨_, rfl⟩
  have b1 : Below w.heap.size w w1 := by rw [hw1]; exact (Below.refl _ _).alloc (Nat.le_refl _) _
  have z1 : w1.heap.size = w.heap.size + 1 := by rw [hw1]; exact World.size_alloc _ _
  have hN1 : BkBlk w1 w.heap.size x := by rw [hw1]; exact BkBlk.new _ _
  obtain ⟨W0, hw2⟩ : ∃ W0 : World, W0 = w1.alloc (.cells #[.int .i64 q.node, .int .i64 q.room, .int .i64 q.kilos, .int .i64 q.service, .int .i64 q.frm, .int .i64 q.by_, .slice q.A q.n q.c] 47) := ⟨_, rfl⟩
  have b2 : Below w1.heap.size w1 W0 := by rw [hw2]; exact (Below.refl _ _).alloc (Nat.le_refl _) _
  have hB2 : QBlk W0 (w.heap.size + 1) q := by rw [hw2, ← z1]; exact QBlk.new _ _
  have hN2 := hN1.below b2
  have hb0 := bel b1 b2
  have HMK := Lib.hid (show ∀ w', Below W0.heap.size W0 w' → (fun w' : World => w'.cell? ⟨w.heap.size, 0, none⟩ = some (.int .i64 x.nd) ∧ w'.cell? ⟨w.heap.size, 1, none⟩ = some (.slice x.A x.n x.c) ∧ w'.cell? ⟨w.heap.size, 2, none⟩ = some (.slice x.SA x.sn x.sc) ∧ w'.cell? ⟨w.heap.size, 3, none⟩ = some (.slice x.B x.m x.d) ∧ w'.cell? ⟨w.heap.size + 1, 0, none⟩ = some (.int .i64 q.node) ∧ w'.cell? ⟨w.heap.size + 1, 1, none⟩ = some (.int .i64 q.room) ∧ w'.cell? ⟨w.heap.size + 1, 2, none⟩ = some (.int .i64 q.kilos) ∧ w'.cell? ⟨w.heap.size + 1, 3, none⟩ = some (.int .i64 q.service) ∧ w'.cell? ⟨w.heap.size + 1, 4, none⟩ = some (.int .i64 q.frm) ∧ w'.cell? ⟨w.heap.size + 1, 5, none⟩ = some (.int .i64 q.by_) ∧ w'.cell? ⟨w.heap.size + 1, 6, none⟩ = some (.slice q.A q.n q.c)) w' from fun w' h => BQ.mk' (hN2.below h) (hB2.below h))
  have hQ0 := hQ.below hb0
  have hX0 := hX.below hb0
  have HRN := Lib.hid hQ.1
  have hbr : Below W0.heap.size W0 W0 := Below.refl _ _
  go_enter Tryz.func31, Tryz.ntmps31
  go_upto_region 1 with fail
  rw [← hw1, ← hw2]
  clear hw1 hw2 z1 b1 b2 hN1 hB2 hN2
  have Fd : Below W0.heap.size W0 W0.drew := (Below.refl _ _).drew
  have Fz : Below W0.heap.size W0 (W0.alloc (.cells #[] 47)) := (Below.refl _ _).alloc (Nat.le_refl _) _
  have Fx : Below W0.heap.size W0 (W0.alloc (.cells #[.int .i64 q.node, .int .i64 q.room, .int .i64 q.kilos, .int .i64 q.service, .int .i64 q.frm, .int .i64 q.by_, .slice q.A q.n q.c] 47)) := (Below.refl _ _).alloc (Nat.le_refl _) _
  have Fzx : Below W0.heap.size W0 ((W0.alloc (.cells #[] 47)).alloc (.cells #[.int .i64 q.node, .int .i64 q.room, .int .i64 q.kilos, .int .i64 q.service, .int .i64 q.frm, .int .i64 q.by_, .slice q.A q.n q.c] 47)) := bel Fz ((Below.refl _ _).alloc (Nat.le_refl _) _)
  have Fxz : Below W0.heap.size W0 ((W0.alloc (.cells #[.int .i64 q.node, .int .i64 q.room, .int .i64 q.kilos, .int .i64 q.service, .int .i64 q.frm, .int .i64 q.by_, .slice q.A q.n q.c] 47)).alloc (.cells #[] 47)) := bel Fx ((Below.refl _ _).alloc (Nat.le_refl _) _)
  have S0 := HMK.out _ hbr
  have S0d := HMK.out _ (bel hbr Fd)
  have S0z := HMK.out _ (bel hbr Fz)
  have S0x := HMK.out _ (bel hbr Fx)
  have S0zx := HMK.out _ (bel hbr Fzx)
  have S0xz := HMK.out _ (bel hbr Fxz)
  have S0zd := HMK.out _ (bel hbr Fz.drew)
  have S0xd := HMK.out _ (bel hbr Fx.drew)
  have S0zxd := HMK.out _ (bel hbr Fzx.drew)
  have S0xzd := HMK.out _ (bel hbr Fxz.drew)
  have Oa : (W0.alloc (.cells #[] 47)).drew.ownsRow W0.heap.size 47 7 (.slice (some ⟨W0.heap.size, 0, none⟩) 0 0) 0 [] := World.ownsRow_lit W0 #[] 0 (Nat.le_refl _) (by simp only [maxLen]; omega) (by simp)
  have Ob : ((W0.alloc (.cells #[] 47)).alloc (.cells #[.int .i64 q.node, .int .i64 q.room, .int .i64 q.kilos, .int .i64 q.service, .int .i64 q.frm, .int .i64 q.by_, .slice q.A q.n q.c] 47)).drew.ownsRow W0.heap.size 47 7 (.slice (some ⟨W0.heap.size, 0, none⟩) 0 0) 0 [] := (World.ownsRow_lit W0 #[] 0 (Nat.le_refl _) (by simp only [maxLen]; omega) (by simp)).alloc (.cells #[.int .i64 q.node, .int .i64 q.room, .int .i64 q.kilos, .int .i64 q.service, .int .i64 q.frm, .int .i64 q.by_, .slice q.A q.n q.c] 47)
  have Oc : ((W0.alloc (.cells #[.int .i64 q.node, .int .i64 q.room, .int .i64 q.kilos, .int .i64 q.service, .int .i64 q.frm, .int .i64 q.by_, .slice q.A q.n q.c] 47)).alloc (.cells #[] 47)).drew.ownsRow W0.heap.size 47 7 (.slice (some ⟨W0.heap.size + 1, 0, none⟩) 0 0) 0 [] := by
    have h := World.ownsRow_lit (base := W0.heap.size) (e := 47) (size := 7) (W0.alloc (.cells #[.int .i64 q.node, .int .i64 q.room, .int .i64 q.kilos, .int .i64 q.service, .int .i64 q.frm, .int .i64 q.by_, .slice q.A q.n q.c] 47)) #[] 0 Fx.size (by simp only [maxLen]; omega) (by simp)
    rw [World.size_alloc] at h
    exact h
  have Xb : ((W0.alloc (.cells #[] 47)).alloc (.cells #[.int .i64 q.node, .int .i64 q.room, .int .i64 q.kilos, .int .i64 q.service, .int .i64 q.frm, .int .i64 q.by_, .slice q.A q.n q.c] 47)).drew.heap[W0.heap.size + 1]? = some (.cells #[.int .i64 q.node, .int .i64 q.room, .int .i64 q.kilos, .int .i64 q.service, .int .i64 q.frm, .int .i64 q.by_, .slice q.A q.n q.c] 47 (0, 0)) := by
    have h := heap_alloc_new (W0.alloc (.cells #[] 47)) (.cells #[.int .i64 q.node, .int .i64 q.room, .int .i64 q.kilos, .int .i64 q.service, .int .i64 q.frm, .int .i64 q.by_, .slice q.A q.n q.c] 47)
    rw [World.size_alloc] at h
    exact h
  have Xc : ((W0.alloc (.cells #[.int .i64 q.node, .int .i64 q.room, .int .i64 q.kilos, .int .i64 q.service, .int .i64 q.frm, .int .i64 q.by_, .slice q.A q.n q.c] 47)).alloc (.cells #[] 47)).drew.heap[W0.heap.size]? = some (.cells #[.int .i64 q.node, .int .i64 q.room, .int .i64 q.kilos, .int .i64 q.service, .int .i64 q.frm, .int .i64 q.by_, .slice q.A q.n q.c] 47 (0, 0)) := blk_alloc (heap_alloc_new W0 (.cells #[.int .i64 q.node, .int .i64 q.room, .int .i64 q.kilos, .int .i64 q.service, .int .i64 q.frm, .int .i64 q.by_, .slice q.A q.n q.c] 47)) (.cells #[] 47)
  have Rq : Rd W0 7 x.B x.m (x.r.flatMap Q.cells) := by have h := hQ0.2.1; rw [reqCells_flat] at h; exact h
  have Ra := Rq.below Fz.drew
  have Rb := Rq.below Fzx.drew
  have Rc := Rq.below Fxz.drew
  have hone := flat_one Q.cells req_one x.r
  obtain ⟨i0, hi, hzz0, hzz1, hzz2⟩ := info_parts clone120_info
  have hm63 : 0 + x.m ≤ maxLen := by simp only [maxLen]; omega
  have hm47 : (0 + x.m) * 72 ≤ 140737488355328 := by omega
  have hn63 : x.m + 1 ≤ maxLen := by simp only [maxLen]; omega
  have hn47 : (x.m + 1) * 72 ≤ 140737488355328 := by omega
  have hRX : ∀ (W : World) (gg : Nat), W.heap[gg]? = some (.cells #[.int .i64 q.node, .int .i64 q.room, .int .i64 q.kilos, .int .i64 q.service, .int .i64 q.frm, .int .i64 q.by_, .slice q.A q.n q.c] 47 (0, 0)) → Rd W 7 (some ⟨gg, 0, none⟩) 1 q.cells := fun W gg h => Rd.of_block h 7 1 rfl
  have HRX := Lib.hid hRX
  have Cz : ∀ g, (Value.slice (some ⟨W0.heap.size, 0, none⟩) 0 0).ownBlock = some g → W0.heap.size ≤ g := fun g e => by injection e with e; rw [← e]; exact Nat.le_refl _
  have Cxz : ∀ g, (Value.slice (some ⟨W0.heap.size + 1, 0, none⟩) 0 0).ownBlock = some g → W0.heap.size ≤ g := fun g e => by injection e with e; rw [← e]; exact Nat.le_succ _
  have Nb : some (W0.heap.size + 1) ≠ (Value.slice (some ⟨W0.heap.size, 0, none⟩) 0 0).ownBlock := fun e => by injection e with e; dsimp only at e; omega
  have Nc : some W0.heap.size ≠ (Value.slice (some ⟨W0.heap.size + 1, 0, none⟩) 0 0).ownBlock := fun e => by injection e with e; dsimp only at e; omega
  have Oz : True := trivial
  clear hRX
  go_region_held3 (fun w' : World => w'.cell? ⟨w.heap.size, 0, none⟩ = some (.int .i64 x.nd) ∧ w'.cell? ⟨w.heap.size, 1, none⟩ = some (.slice x.A x.n x.c) ∧ w'.cell? ⟨w.heap.size, 2, none⟩ = some (.slice x.SA x.sn x.sc) ∧ w'.cell? ⟨w.heap.size, 3, none⟩ = some (.slice x.B x.m x.d) ∧ w'.cell? ⟨w.heap.size + 1, 0, none⟩ = some (.int .i64 q.node) ∧ w'.cell? ⟨w.heap.size + 1, 1, none⟩ = some (.int .i64 q.room) ∧ w'.cell? ⟨w.heap.size + 1, 2, none⟩ = some (.int .i64 q.kilos) ∧ w'.cell? ⟨w.heap.size + 1, 3, none⟩ = some (.int .i64 q.service) ∧ w'.cell? ⟨w.heap.size + 1, 4, none⟩ = some (.int .i64 q.frm) ∧ w'.cell? ⟨w.heap.size + 1, 5, none⟩ = some (.int .i64 q.by_) ∧ w'.cell? ⟨w.heap.size + 1, 6, none⟩ = some (.slice q.A q.n q.c))
    (first | with_reducible exact S8 | with_reducible exact S7 | with_reducible exact S6x | with_reducible exact S6 | with_reducible exact S0zxd | with_reducible exact S0xzd | with_reducible exact S0zd | with_reducible exact S0xd | with_reducible exact S0zx | with_reducible exact S0xz | with_reducible exact S0z | with_reducible exact S0x | with_reducible exact S0d | with_reducible exact S0 | fail)
    (first
      | (have h0 := Oz; clear Oz; apply step_append_rd (hgd := rfl) (s := .tmp 9) (x := .tmp 11) (t := 26) (ho := rfl) (base := W0.heap.size) (e := 47) (i := i0) (z := (.agg #[.int .i64 0, .int .i64 0, .int .i64 0, .int .i64 0, .int .i64 0, .int .i64 0, .slice none 0 0])) (size := 7) (bytes := 72) (ht := Tryz.underlying26) (hi := hi) (hz := hzz0) (hsize := hzz1) (hby := hzz2) (hzs := rfl) (hsz := by decide) (v := .slice (some ⟨_, 0, none⟩) 0 0) (n := 0) (xs := []) (hs := rfl) (A := x.B) (m := x.m) (c := x.d) (news := x.r.flatMap Q.cells) (hx := rfl) (h1 := hone) (h63 := hm63) (hbytes := hm47); (first | with_reducible exact Oa | with_reducible exact Ob | with_reducible exact Oc | fail); (first | with_reducible exact Ra | with_reducible exact Rb | with_reducible exact Rc | fail); (first | with_reducible exact Fz.drew.size | with_reducible exact Fzx.drew.size | with_reducible exact Fxz.drew.size | fail); intro v6 w6 hown6 hgr6 hat6; (first | (have b6r : Below W0.heap.size W0 w6 := by with_reducible exact below_own2 Fz.drew hgr6 Cz) | (have b6r : Below W0.heap.size W0 w6 := by with_reducible exact below_own2 Fzx.drew hgr6 Cz) | (have b6r : Below W0.heap.size W0 w6 := by with_reducible exact below_own2 Fxz.drew hgr6 Cxz) | fail); (first | (with_reducible (have hL := grow_blk hgr6 Xb Nb)) | (with_reducible (have hL := grow_blk hgr6 Xc Nc)) | skip); have S6 := HMK.out _ (bel hbr b6r); have F6x : Below w6.heap.size w6 (w6.alloc (.cells #[.int .i64 q.node, .int .i64 q.room, .int .i64 q.kilos, .int .i64 q.service, .int .i64 q.frm, .int .i64 q.by_, .slice q.A q.n q.c] 47)) := (Below.refl _ _).alloc (Nat.le_refl _) _; have S6x := HMK.out _ (bel hbr (bel b6r F6x)); rw [Nat.zero_add, List.nil_append] at hown6)
      | (have h9 := hown6; clear hown6; apply step_append_rd (hgd := rfl) (s := .tmp 12) (x := .tmp 14) (t := 26) (ho := rfl) (base := W0.heap.size) (e := 47) (i := i0) (z := (.agg #[.int .i64 0, .int .i64 0, .int .i64 0, .int .i64 0, .int .i64 0, .int .i64 0, .slice none 0 0])) (size := 7) (bytes := 72) (ht := Tryz.underlying26) (hi := hi) (hz := hzz0) (hsize := hzz1) (hby := hzz2) (hzs := rfl) (hsz := by decide) (v := v6) (n := x.m) (xs := x.r.flatMap Q.cells) (hs := rfl) (A := some ⟨_, 0, none⟩) (m := 1) (c := 1) (news := q.cells) (hx := rfl) (h1 := req_one q) (h63 := hn63) (hbytes := hn47); rotate_right 1; (first | with_reducible exact h9 | with_reducible exact own_below h9 F6x | fail); (first | with_reducible exact HRX.out _ _ hL | with_reducible exact HRX.out _ _ (heap_alloc_new w6 _) | fail); (first | with_reducible exact b6r.size | with_reducible exact Nat.le_trans b6r.size F6x.size | fail); intro v7 w7 hown7 hgr7 hat7; obtain ⟨A7, k7, rfl, hRd7, hF7⟩ := own_form hown7; (first | (have b7r : Below W0.heap.size W0 w7 := by with_reducible exact below_own2 b6r hgr7 (fun g e => (h9.lt g e).1)) | (have b7r : Below W0.heap.size W0 w7 := by with_reducible exact below_own2 (bel b6r F6x) hgr7 (fun g e => (h9.lt g e).1)) | fail); have S7 := HMK.out _ (bel hbr b7r))
      | (go_at_call 17; refine (few9_any (x.with_ A7 (x.m + 1) k7 (x.r ++ [q])) _ ((hS.below hb0).below b7r) (reqs_snoc hRd7 HRN.out (fun p hp => (hQ0.2.2 p hp).below b7r) (hX0.below b7r))).mono ?_; rintro e w8 ⟨rfl, b8⟩; have b8r := bel b7r b8; have S8 := HMK.out _ (bel hbr b8r))
      | fail)
  all_goals
    have hb8 := bel hb0 b8r
    have hxm : (x.m + 1 : Nat) = (x.r ++ [q]).length := by rw [List.length_append, HRN.out]; rfl
    have HP := Lib.hid (K.few32_parts (x := x.with_ A7 (x.m + 1) k7 (x.r ++ [q])))
    obtain ⟨z, hz⟩ : ∃ z, z = K.few32 (x.with_ A7 (x.m + 1) k7 (x.r ++ [q])) := ⟨_, rfl⟩
    rw [← hz]
    have HZ := Lib.hid hz
    have HXM := Lib.hid hxm
    obtain ⟨p0, p1, p2, p3, -⟩ := S8
    clear S0 S0d S0z S0x S0zx S0xz S0zd S0xd S0zxd S0xzd S6 S6x S7 hz hxm
    cases z
    · go_wp2_with fail
      go_ret
      exact ⟨⟨false, rfl, fun h => by cases h⟩, hb8⟩
    obtain ⟨g1, g2, g3, g4, g5, g6, g7⟩ := HP.out HZ.out.symm HXM.out
    have g2 : x.sn ≤ 6 := g2
    have g3 : x.m + 1 ≤ 8 := g3
    have g6 : x.sn ≤ 4 → x.sn ≤ 2 := g6
    have g7 : x.m + 1 ≤ 6 → x.m + 1 ≤ 4 := g7
    have HG := Lib.hid (show (x.m ≤ 4 ∨ 6 < x.m) → Few33 x q from fun h => ⟨g1, g2, by omega, g4, fun p hp => g5 p (List.mem_append_left _ hp), g5 q (List.mem_append_right _ (List.mem_singleton_self q)), g6, fun h2 => by omega⟩)
    have hs2 : x.sn ≤ 2 ∨ 4 < x.sn := by omega
    clear g1 g2 g3 g4 g5 g6 g7
    by_cases h1 : x.sn ≤ 2
    · have d1 : decide ((x.sn : Int) ≤ 2) = true := by simp; omega
      have d2 : decide (x.sn ≤ 2) = true := by simp; omega
      by_cases h2 : x.m ≤ 4
      · have d3 : decide ((x.m : Int) ≤ 4) = true := by simp; omega
        have d4 : decide (x.m ≤ 4) = true := by simp; omega
        go_wp2_with fail
        go_ret
        exact ⟨⟨true, rfl, fun _ => HG.out (.inl h2)⟩, hb8⟩
      have d3 : decide ((x.m : Int) ≤ 4) = false := by simp; omega
      have d4 : decide (x.m ≤ 4) = false := by simp; omega
      by_cases h3 : 6 < x.m
      · have d5 : decide ((6 : Int) < (x.m : Int)) = true := by simp; omega
        have d6 : decide (6 < x.m) = true := by simp; omega
        go_wp2_with fail
        go_ret
        exact ⟨⟨true, rfl, fun _ => HG.out (.inr h3)⟩, hb8⟩
      have d5 : decide ((6 : Int) < (x.m : Int)) = false := by simp; omega
      have d6 : decide (6 < x.m) = false := by simp; omega
      go_wp2_with fail
      go_ret
      exact ⟨⟨false, rfl, fun h => by cases h⟩, hb8⟩
    · have d1 : decide ((x.sn : Int) ≤ 2) = false := by simp; omega
      have d2 : decide (x.sn ≤ 2) = false := by simp; omega
      have d7 : decide ((4 : Int) < (x.sn : Int)) = true := by simp; omega
      have d8 : decide (4 < x.sn) = true := by simp; omega
      by_cases h2 : x.m ≤ 4
      · have d3 : decide ((x.m : Int) ≤ 4) = true := by simp; omega
        have d4 : decide (x.m ≤ 4) = true := by simp; omega
        go_wp2_with fail
        go_ret
        exact ⟨⟨true, rfl, fun _ => HG.out (.inl h2)⟩, hb8⟩
      have d3 : decide ((x.m : Int) ≤ 4) = false := by simp; omega
      have d4 : decide (x.m ≤ 4) = false := by simp; omega
      by_cases h3 : 6 < x.m
      · have d5 : decide ((6 : Int) < (x.m : Int)) = true := by simp; omega
        have d6 : decide (6 < x.m) = true := by simp; omega
        go_wp2_with fail
        go_ret
        exact ⟨⟨true, rfl, fun _ => HG.out (.inr h3)⟩, hb8⟩
      have d5 : decide ((6 : Int) < (x.m : Int)) = false := by simp; omega
      have d6 : decide (6 < x.m) = false := by simp; omega
      go_wp2_with fail
      go_ret
      exact ⟨⟨false, rfl, fun h => by cases h⟩, hb8⟩
end Go.Proofs.YtippdjmpkafifaaGreat
namespace Go.Proofs.YtippdjmpkafifaaGreat
open Go.RowKit
set_option maxRecDepth 100000 in
set_option maxHeartbeats 4000000 in
theorem of92_any (k : Int) (w : World) : Calls Tryz.prog 92 #[.int .i64 k] w fun e w' => e = .returned (.agg #[.int .i64 1, .int .i64 0, .int .i64 k, .int .i64 5, .int .i64 1, .int .i64 1, .slice none 0 0]) ∧ Below w.heap.size w w' := by
  go_enter Tryz.func92, Tryz.ntmps92
  go_wp2_with fail
  obtain ⟨wz, hwz⟩ : ∃ wz : World, wz = w.alloc (.cells #[.int .i64 1, .int .i64 0, .int .i64 k, .int .i64 5, .int .i64 1, .int .i64 1, .slice none 0 0] 47) := ⟨_, rfl⟩
  have hZ : wz.heap[w.heap.size]? = some (.cells #[.int .i64 1, .int .i64 0, .int .i64 k, .int .i64 5, .int .i64 1, .int .i64 1, .slice none 0 0] 47 (0, 0)) := by rw [hwz]; exact heap_alloc_new _ _
  have hb : Below w.heap.size w wz := by rw [hwz]; exact (Below.refl _ _).alloc (Nat.le_refl _) _
  rw [← hwz]
  exact bodyPost_ret_by (v := .agg #[.int .i64 1, .int .i64 0, .int .i64 k, .int .i64 5, .int .i64 1, .int .i64 1, .slice none 0 0]) (results_cell_row rfl _ wz w.heap.size 47 _ (0, 0) _ rfl hZ Tryz.underlying47 rfl (by kernel_rfl)) rfl ⟨rfl, hb⟩
set_option maxRecDepth 100000 in
set_option maxHeartbeats 4000000 in
theorem example91_any (w : World) : Calls Tryz.prog 91 #[] w fun e w' => (∃ A c A2 c2 SA sc, e = .returned (.agg #[.int .i64 2, .slice A 2 c, .slice SA 1 sc, .slice none 0 0]) ∧ Roads w' A 2 K.exL32 ∧ Shifts w' SA 1 [K.exS32 A2 c2]) ∧ Below w.heap.size w w' := by
  go_enter Tryz.func91, Tryz.ntmps91
  go_wp2_with fail
  obtain ⟨l5, hl5⟩ : ∃ l5 : List Obj, l5 = [.cells #[.int .i64 2, .slice (some ⟨w.heap.size + 1, 0, none⟩) 2 2, .slice (some ⟨w.heap.size + 1 + 1 + 1 + 1, 0, none⟩) 1 1, .slice none 0 0] 44, .cells #[.int .i64 0, .int .i64 1, .int .i64 10, .int .i64 (-1), .int .i64 1, .int .i64 0, .int .i64 10, .int .i64 (-1)] 134,
    .cells #[.int .i64 2, .slice (some ⟨w.heap.size + 1, 0, none⟩) 2 2] 24, .cells #[.int .i64 5] 3, .cells #[.int .i64 1, .int .i64 0, .int .i64 0, .int .i64 60, .int .i64 0, .slice (some ⟨w.heap.size + 1 + 1 + 1, 0, none⟩) 1 1] 63] := ⟨_, rfl⟩
  obtain ⟨wz, hwz⟩ : ∃ wz : World, wz = Als w l5 := ⟨_, rfl⟩
  have hb := Als.below l5 w
  have g := Als.get l5 w
  rw [← hwz] at hb g
  have e0 := g 0 _ (by rw [hl5]; rfl)
  have e1 := g 1 _ (by rw [hl5]; rfl)
  have e3 := g 3 _ (by rw [hl5]; rfl)
  have e4 := g 4 _ (by rw [hl5]; rfl)
  rw [hl5] at hwz
  simp only [Als] at hwz
  rw [← hwz]
  refine bodyPost_ret_by (v := .agg #[.int .i64 2, .slice (some ⟨w.heap.size + 1, 0, none⟩) 2 2, .slice (some ⟨w.heap.size + 1 + 1 + 1 + 1, 0, none⟩) 1 1, .slice none 0 0]) (results_cell_row rfl _ wz w.heap.size 44 _ (0, 0) _ rfl e0 Tryz.underlying44 rfl (by kernel_rfl)) rfl ?_
  exact ⟨⟨some ⟨w.heap.size + 1, 0, none⟩, 2, some ⟨w.heap.size + 1 + 1 + 1, 0, none⟩, 1, some ⟨w.heap.size + 1 + 1 + 1 + 1, 0, none⟩, 1, rfl, ⟨rfl, Rd.of_block (cs := (K.exL32.flatMap roadCells).toArray) e1 4 2 rfl⟩, ⟨⟨rfl, Rd.of_block (cs := ([K.exS32 (some ⟨w.heap.size + 1 + 1 + 1, 0, none⟩) 1].flatMap S.cells).toArray) e4 6 1 rfl⟩, fun s hs => by rw [List.mem_singleton.1 hs]; exact ⟨rfl, Rd.of_block (cs := (intCells [5]).toArray) e3 1 1 rfl⟩⟩⟩, hb⟩
end Go.Proofs.YtippdjmpkafifaaGreat
namespace Go.Proofs.YtippdjmpkafifaaGreat
open Go.RowKit
namespace K
def ks33 : List Int := [2, 1, 3, 2, 1]
def rs33 : Nat → List Int
  | 0 => []
  | 1 => [2]
  | 2 => [2, 1]
  | 3 => [2, 1]
  | _ => [2, 1, 2]
def want33 : Nat → List Int
  | 2 => [0, 1]
  | 4 => [0, 1, 2]
  | _ => []
def see33 (R : Option (List Q) × An × Int) : Option (List Q) × Bool × List Int × Int := (R.1, R.2.1.acc, R.2.1.blk, R.2.2)
section
variable (A : Option Addr) (c : Nat)
theorem see_6 : see33 (ask33 2 exL32 [exS32 A c] [] (exQ32 6)) = (some [], false, [], 0) := by kernel_rfl
theorem see_0 : see33 (ask33 2 exL32 [exS32 A c] ([].map exQ32) (exQ32 2)) = (some ([2].map exQ32), true, [], 0) := by kernel_rfl
theorem see_1 : see33 (ask33 2 exL32 [exS32 A c] ([2].map exQ32) (exQ32 1)) = (some ([2, 1].map exQ32), true, [], 0) := by kernel_rfl
theorem see_2 : see33 (ask33 2 exL32 [exS32 A c] ([2, 1].map exQ32) (exQ32 3)) = (some ([2, 1].map exQ32), false, [0, 1], 0) := by kernel_rfl
theorem see_3 : see33 (ask33 2 exL32 [exS32 A c] ([2, 1].map exQ32) (exQ32 2)) = (some ([2, 1, 2].map exQ32), true, [], 0) := by kernel_rfl
theorem see_4 : see33 (ask33 2 exL32 [exS32 A c] ([2, 1, 2].map exQ32) (exQ32 1)) = (some ([2, 1, 2].map exQ32), false, [0, 1, 2], 0) := by kernel_rfl
theorem see_at {i : Nat} (hi : i < 5) : ∃ k, ks33[i]? = some k ∧ see33 (ask33 2 exL32 [exS32 A c] ((rs33 i).map exQ32) (exQ32 k)) = (some ((rs33 (i + 1)).map exQ32), (want33 i).isEmpty, want33 i, 0) := by
  match i, hi with
  | 0, _ => exact ⟨2, rfl, see_0 A c⟩
  | 1, _ => exact ⟨1, rfl, see_1 A c⟩
  | 2, _ => exact ⟨3, rfl, see_2 A c⟩
  | 3, _ => exact ⟨2, rfl, see_3 A c⟩
  | 4, _ => exact ⟨1, rfl, see_4 A c⟩
end
end K
end Go.Proofs.YtippdjmpkafifaaGreat
namespace Go.Proofs.YtippdjmpkafifaaGreat
open Go.RowKit
def Stays (B : Nat) (w w' : World) : Prop := ∀ g o, B ≤ g → w.heap[g]? = some o → w'.heap[g]? = some o
theorem Rd.stays {w w' : World} {size n B : Nat} {A : Option Addr} {xs : List Value} (h : Rd w size A n xs) (hs : Stays B w w') (hA : 0 < n → ∀ ad, A = some ad → B ≤ ad.block) : Rd w' size A n xs :=
  ⟨h.1, fun hn => by
    obtain ⟨ad, e, hc⟩ := h.2 hn
    refine ⟨ad, e, fun j u hu => ?_⟩
    have h1 := hc j u hu
    have hlt := cell_lt h1
    obtain ⟨o, ho⟩ : ∃ o, w.heap[(ad.add j).block]? = some o := ⟨_, Array.getElem?_eq_getElem hlt⟩
    refine (World.cell?_of_block ?_).trans h1
    rw [ho]
    exact hs _ _ (by rw [add_block]; exact hA hn ad e) ho⟩
theorem Lst.stays {α : Type} {f : α → List Value} {s n B : Nat} {w w' : World} {A : Option Addr} {l : List α} (h : Lst f s w A n l) (hs : Stays B w w') (hA : 0 < n → ∀ ad, A = some ad → B ≤ ad.block) : Lst f s w' A n l := ⟨h.1, Rd.stays h.2 hs hA⟩
theorem Ints.stays {w w' : World} {n B : Nat} {A : Option Addr} {l : List Int} (h : Ints w A n l) (hs : Stays B w w') (hA : 0 < n → ∀ ad, A = some ad → B ≤ ad.block) : Ints w' A n l := ⟨h.1, Rd.stays h.2 hs hA⟩
theorem AvAt.stays {w w' : World} {a : AV} {B : Nat} (h : AvAt w a) (hn : AvNew B a) (hs : Stays B w w') : AvAt w' a :=
  ⟨⟨Lst.stays h.t.1 hs fun _ => hn.p, fun y hy => ⟨Ints.stays (h.t.2 y hy).1 hs (hn.t y hy).1, Ints.stays (h.t.2 y hy).2 hs (hn.t y hy).2⟩⟩, Ints.stays h.v hs fun _ => hn.v, ⟨Lst.stays h.b.1 hs fun _ => hn.r, fun y hy => ⟨Ints.stays (h.b.2 y hy).1 hs (hn.b y hy).1, Lst.stays (h.b.2 y hy).2 hs (hn.b y hy).2⟩⟩⟩
theorem CsAt.stays {w w' : World} {x : Cs} {B : Nat} (h : CsAt w x) (hn : BkNew B x) (hs : Stays B w w') : CsAt w' x :=
  ⟨Lst.stays h.net hs hn.n, ⟨Lst.stays h.shifts.1 hs fun _ => hn.s, fun s hm => Ints.stays (h.shifts.2 s hm) hs (hn.r s hm)⟩, ⟨h.reqs.1, Rd.stays h.reqs.2.1 hs fun _ => hn.q, fun q hq => ⟨(h.reqs.2.2 q hq).1, Rd.stays (h.reqs.2.2 q hq).2 hs (hn.w q hq)⟩⟩, h.b1, h.b2, h.b3, h.b4, h.b5⟩
theorem Stays.below {w w' : World} (B : Nat) (h : Below w.heap.size w w') : Stays B w w' := fun _ _ _ e => blk_below h e
theorem Stays.trans {a b c : World} {B : Nat} (h : Stays B a b) (h2 : Stays B b c) : Stays B a c := fun g o hg e => h2 g o hg (h g o hg e)
theorem bel_alloc {w w' : World} (h : Below w.heap.size w w') (o : Obj) : Below w.heap.size w (w'.alloc o) := h.alloc h.size o
theorem bel_set4 {B b : Nat} {w w' : World} (h : Below B w w') (hb : B ≤ b) (u0 u1 u2 u3 : Value) : Below B w ((((w'.setCell ⟨b, 0, none⟩ u0).setCell ⟨b, 1, none⟩ u1).setCell ⟨b, 2, none⟩ u2).setCell ⟨b, 3, none⟩ u3) :=
  (((h.setCell hb u0).setCell hb u1).setCell hb u2).setCell hb u3
theorem blk_other4 {w : World} {gA gB : Nat} {csA csB : Array Value} (hA : w.heap[gA]? = some (.cells csA 44 (0, 0))) (hB : w.heap[gB]? = some (.cells csB 50 (0, 0))) (u0 u1 u2 u3 : Value) :
    ((((w.setCell ⟨gA, 0, none⟩ u0).setCell ⟨gA, 1, none⟩ u1).setCell ⟨gA, 2, none⟩ u2).setCell ⟨gA, 3, none⟩ u3).heap[gB]? = some (.cells csB 50 (0, 0)) := by
  have hne : gB ≠ gA := fun e => by
    rw [e, hA] at hB
    simp at hB
  have h := Sets.other [(⟨gA, 0, none⟩, u0), (⟨gA, 1, none⟩, u1), (⟨gA, 2, none⟩, u2), (⟨gA, 3, none⟩, u3)] w gB (fun p hp => by rw [set4_in hp]; exact hne.symm)
  simp only [Sets] at h
  rw [h]
  exact hB
structure ExB (w : World) (L : List Int) (x : Cs) : Prop where
  nd : x.nd = 2
  n : x.n = 2
  sn : x.sn = 1
  m : x.m = L.length
  l : x.l = K.exL32
  at_ : CsAt w x
  ss : x.ss.map S.bare = [K.exS32 none 0].map S.bare
  r : x.r.map Q.bare = (L.map K.exQ32).map Q.bare
  s9 : ∀ s ∈ x.ss, s.n ≤ 1000000
theorem exQ_len (L : List Int) : ∀ q ∈ L.map K.exQ32, q.l.length ≤ 1000000 := fun q hq => by
  obtain ⟨k, -, rfl⟩ := List.mem_map.1 hq
  exact Nat.zero_le _
theorem ExB.below {w w' : World} {L : List Int} {x : Cs} (h : ExB w L x) (hb : Below w.heap.size w w') : ExB w' L x := ⟨h.nd, h.n, h.sn, h.m, h.l, h.at_.below hb, h.ss, h.r, h.s9⟩
theorem ExB.stays {w w' : World} {L : List Int} {x : Cs} {B : Nat} (h : ExB w L x) (hn : BkNew B x) (hs : Stays B w w') : ExB w' L x := ⟨h.nd, h.n, h.sn, h.m, h.l, h.at_.stays hn hs, h.ss, h.r, h.s9⟩
theorem ExB.ok {w : World} {L : List Int} {x : Cs} (h : ExB w L x) (hL : L.length ≤ 3) (k : Int) : Ok33 w x (K.exQ32 k) :=
  ⟨h.at_, ⟨rfl, rfl, fun h0 => absurd h0 (Nat.lt_irrefl 0)⟩, by have := h.m; omega, same_n h.at_.reqs h.r (exQ_len L), Nat.zero_le _⟩
structure Told (w : World) (L L' : List Int) (k : Int) (acc : Bool) (blk : List Int) (x' : Cs) (a : AV) : Prop where
  av : AvAt w a
  ok : AvOk a
  acc : a.acc = acc
  v : a.v = blk
  vn : a.vn = blk.length
  an : a.an = (K.ask33 2 K.exL32 [K.exS32 none 0] (L.map K.exQ32) (K.exQ32 k)).2.1
  bk : ExB w L' x'
theorem Told.stays {w w' : World} {L L' : List Int} {k : Int} {acc : Bool} {blk : List Int} {x : Cs} {a : AV} {B : Nat} (h : Told w L L' k acc blk x a) (hn : AvNew B a) (hb : BkNew B x) (hs : Stays B w w') : Told w' L L' k acc blk x a := ⟨h.av.stays hn hs, h.ok, h.acc, h.v, h.vn, h.an, h.bk.stays hb hs⟩
theorem Told.below {w w' : World} {L L' : List Int} {k : Int} {acc : Bool} {blk : List Int} {x : Cs} {a : AV} (h : Told w L L' k acc blk x a) (hb : Below w.heap.size w w') : Told w' L L' k acc blk x a := ⟨h.av.below hb, h.ok, h.acc, h.v, h.vn, h.an, h.bk.below hb⟩
theorem ask_ex (w : World) (L L' : List Int) (k : Int) (acc : Bool) (blk : List Int) (x : Cs) (hx : ExB w L x) (hL : L.length ≤ 3) {n n' bn : Nat} (hn : L.length = n) (hn' : L'.length = n') (hbn : blk.length = bn)
    (hs : K.see33 (K.ask33 2 K.exL32 [K.exS32 none 0] (L.map K.exQ32) (K.exQ32 k)) = (some (L'.map K.exQ32), acc, blk, 0)) :
    Calls Tryz.prog 33 #[.agg #[.int .i64 2, .slice x.A 2 x.c, .slice x.SA 1 x.sc, .slice x.B n x.d], .agg #[.int .i64 1, .int .i64 0, .int .i64 k, .int .i64 5, .int .i64 1, .int .i64 1, .slice none 0 0]] w fun e w' =>
      (∃ x' a, e = .returned (.tuple #[.agg #[.int .i64 2, .slice x'.A 2 x'.c, .slice x'.SA 1 x'.sc, .slice x'.B n' x'.d], .agg #[.bool acc, .slice a.PA a.pn a.pc, .slice a.VA bn a.vc, .slice a.RA a.rn a.rc], .int .i64 0]) ∧ Told w' L L' k acc blk x' a ∧ AvNew w.heap.size a ∧ BkNew w.heap.size x') ∧ Below w.heap.size w w' := by
  subst hn hn' hbn
  have hc := ask_any x (K.exQ32 k) w (hx.ok hL k) (by rw [hx.n]; decide) (by rw [hx.sn]; decide) hx.s9
  obtain ⟨h1, h2⟩ := K.ask_same (nd := 2) (l := K.exL32) hx.r hx.ss (x := K.exQ32 k) rfl
  rw [hx.nd, hx.n, hx.sn, hx.m, hx.l] at hc
  refine Calls.mono hc ?_
  rintro e w' ⟨⟨x', a, rfl, hA, hO, hN, hB, hNa, hNx⟩, hb⟩
  obtain ⟨R, hR⟩ : ∃ R, R = K.ask33 2 K.exL32 x.ss x.r (K.exQ32 k) := ⟨_, rfl⟩
  obtain ⟨R0, hR0⟩ : ∃ R0, R0 = K.ask33 2 K.exL32 [K.exS32 none 0] (L.map K.exQ32) (K.exQ32 k) := ⟨_, rfl⟩
  have e0 : R0.2.1 = (K.ask33 2 K.exL32 [K.exS32 none 0] (L.map K.exQ32) (K.exQ32 k)).2.1 := by rw [hR0]
  rw [← hR, ← hR0] at h1 h2
  rw [← hR] at hN hB
  rw [← hR0] at hs
  rw [← hR]
  clear hR hR0 hc
  obtain ⟨r1, an, er⟩ := R
  obtain ⟨r0, an0, er0⟩ := R0
  simp only [Prod.mk.injEq] at h1
  obtain ⟨rfl, rfl⟩ := h1
  simp only [K.see33, Prod.mk.injEq] at hs
  obtain ⟨rfl, s2, s3, rfl⟩ := hs
  cases r1 with
  | none => cases h2
  | some r =>
    simp only [Option.map_some, Option.some.injEq] at h2
    obtain ⟨b1, b2, b3, b4, b5, b6, b7⟩ := hB
    have hva : a.acc = acc := s2.symm ▸ congrArg K.An.acc hN
    have hvv : a.v = blk := s3.symm ▸ congrArg K.An.blk hN
    have hvn : a.vn = blk.length := by rw [← hvv, ← hA.v.1]
    have hm : x'.m = L'.length := by
      have h6 := b5.reqs.1
      have h3 := congrArg List.length b7
      have h4 := congrArg List.length h2
      simp only [List.length_map] at h3 h4
      omega
    have hxn' : x'.n = 2 := b3.trans hx.n
    have hs' : x'.sn = 1 := b4.trans hx.sn
    have hd' : x'.nd = 2 := b1.trans hx.nd
    refine ⟨⟨x', a, by rw [hd', hxn', hs', hm, hva, hvn], ⟨hA, hO, hva, hvv, hvn, hN.trans e0, ⟨hd', hxn', hs', hm, b2.trans hx.l, b5, b6.trans hx.ss, b7.trans h2, ?_⟩⟩, hNa, hNx⟩, hb⟩
    exact same_sn b5.shifts hx.at_.shifts b6 hx.s9
theorem check_ex (w : World) (L L' : List Int) (k : Int) (acc : Bool) (blk : List Int) (x x' : Cs) (a : AV) (hx : ExB w L x) (hL : L.length ≤ 3) (ht : Told w L L' k acc blk x' a) {n bn : Nat} (hn : L.length = n) (hbn : blk.length = bn)
    (hs : K.see33 (K.ask33 2 K.exL32 [K.exS32 none 0] (L.map K.exQ32) (K.exQ32 k)) = (some (L'.map K.exQ32), acc, blk, 0)) :
    Calls Tryz.prog 37 #[.agg #[.int .i64 2, .slice x.A 2 x.c, .slice x.SA 1 x.sc, .slice x.B n x.d], .agg #[.int .i64 1, .int .i64 0, .int .i64 k, .int .i64 5, .int .i64 1, .int .i64 1, .slice none 0 0], .agg #[.bool acc, .slice a.PA a.pn a.pc, .slice a.VA bn a.vc, .slice a.RA a.rn a.rc]] w fun e w' => e = .returned (.bool true) ∧ Below w.heap.size w w' := by
  subst hn hbn
  have hc := pcheck33_any x (K.exQ32 k) a w (hx.ok hL k) ht.av ht.ok
  have hk : K.check33 x.nd x.l x.ss x.r (K.exQ32 k) a.an = true := by
    rw [hx.nd, hx.l, K.check_same hx.r hx.ss rfl, ht.an]
    exact (K.ask_check (ss := [K.exS32 none 0]) (r := L.map K.exQ32) (by decide) (by rw [List.length_map]; exact hL) (by
      have := congrArg (fun p => p.2.2.2) hs
      exact this)).1
  rw [hk, hx.nd, hx.n, hx.sn, hx.m, ht.acc, ht.vn] at hc
  exact hc
theorem BkNew.mono {B B' : Nat} {x : Cs} (h : BkNew B x) (hb : B' ≤ B) : BkNew B' x := ⟨fun h0 ad e => Nat.le_trans hb (h.n h0 ad e), fun ad e => Nat.le_trans hb (h.s ad e), fun s hs h0 ad e => Nat.le_trans hb (h.r s hs h0 ad e), fun ad e => Nat.le_trans hb (h.q ad e), h.w.mono hb⟩
theorem size_le {w w' W0 : World} (_ : Below w.heap.size w w') (h : Below W0.heap.size W0 w) : W0.heap.size ≤ w.heap.size := h.size
theorem blk_lt {w : World} {g : Nat} {o : Obj} (h : w.heap[g]? = some o) : g < w.heap.size := by
  rcases Nat.lt_or_ge g w.heap.size with h1 | h1
  · exact h1
  · rw [Array.getElem?_eq_none h1] at h; cases h
theorem blk_lt2 {w w' : World} {g : Nat} {o : Obj} (_ : Below w.heap.size w w') (h : w.heap[g]? = some o) : g < w.heap.size := blk_lt h
abbrev St4 (w : World) (b : Nat) (u0 u1 u2 u3 : Value) : World := (((w.setCell ⟨b, 0, none⟩ u0).setCell ⟨b, 1, none⟩ u1).setCell ⟨b, 2, none⟩ u2).setCell ⟨b, 3, none⟩ u3
theorem St4.sets (w : World) (b : Nat) (u0 u1 u2 u3 : Value) : St4 w b u0 u1 u2 u3 = Sets w [(⟨b, 0, none⟩, u0), (⟨b, 1, none⟩, u1), (⟨b, 2, none⟩, u2), (⟨b, 3, none⟩, u3)] := rfl
theorem St4.at_ {w : World} {b : Nat} {x0 x1 x2 x3 : Value} {t : TypeId} (h : w.heap[b]? = some (.cells #[x0, x1, x2, x3] t (0, 0))) (u0 u1 u2 u3 : Value) : (St4 w b u0 u1 u2 u3).heap[b]? = some (.cells #[u0, u1, u2, u3] t (0, 0)) := by
  rw [St4.sets]
  exact set4_blk h _ _ _ _
theorem St4.other {w : World} {b g : Nat} (h : g ≠ b) (u0 u1 u2 u3 : Value) : (St4 w b u0 u1 u2 u3).heap[g]? = w.heap[g]? := by
  rw [St4.sets]
  exact Sets.other _ w g (fun p hp => by rw [set4_in hp]; exact h.symm)
theorem St4.stays {w w' : World} {B b : Nat} (h : Stays B w w') (hb : b < B ∨ w.heap.size ≤ b) (u0 u1 u2 u3 : Value) : Stays B w (St4 w' b u0 u1 u2 u3) := fun g o hg e => by
  have := blk_lt e
  rw [St4.other (by omega)]
  exact h g o hg e
theorem St4.below {B b : Nat} {w w' : World} (h : Below B w w') (hb : B ≤ b) (u0 u1 u2 u3 : Value) : Below B w (St4 w' b u0 u1 u2 u3) := bel_set4 h hb u0 u1 u2 u3
structure Done (W0 : World) (L L' : List Int) (k : Int) (acc : Bool) (blk : List Int) (n' bn : Nat) (gA gB : Nat) (x' : Cs) (a : AV) (w : World) : Prop where
  hA : w.heap[gA]? = some (.cells #[.int .i64 2, .slice x'.A 2 x'.c, .slice x'.SA 1 x'.sc, .slice x'.B n' x'.d] 44 (0, 0))
  hB : w.heap[gB]? = some (.cells #[.bool acc, .slice a.PA a.pn a.pc, .slice a.VA bn a.vc, .slice a.RA a.rn a.rc] 50 (0, 0))
  told : Told w L L' k acc blk x' a
  bel : Below W0.heap.size W0 w
  lA : W0.heap.size ≤ gA
  lB : W0.heap.size ≤ gB
  nx : BkNew W0.heap.size x'
section
variable {W0 w2 : World} {L L' : List Int} {k : Int} {acc : Bool} {blk : List Int} {n' bn : Nat} {x' : Cs} {a : AV} {B : Nat}
theorem done1 (b : Below W0.heap.size W0 w2) (hT : Told w2 L L' k acc blk x' a) (hN : BkNew B x') (hB : W0.heap.size ≤ B) :
    Done W0 L L' k acc blk n' bn w2.heap.size (w2.heap.size + 1) x' a ((w2.alloc (.cells #[.int .i64 2, .slice x'.A 2 x'.c, .slice x'.SA 1 x'.sc, .slice x'.B n' x'.d] 44)).alloc (.cells #[.bool acc, .slice a.PA a.pn a.pc, .slice a.VA bn a.vc, .slice a.RA a.rn a.rc] 50)) :=
  have h1 := bel_alloc (Below.refl w2.heap.size w2) (.cells #[.int .i64 2, .slice x'.A 2 x'.c, .slice x'.SA 1 x'.sc, .slice x'.B n' x'.d] 44)
  ⟨blk_alloc (heap_alloc_new _ _) _, heap_alloc_at _ _ _ (World.size_alloc _ _).symm, hT.below (bel_alloc h1 _), bel_alloc (bel_alloc b _) _, b.size, Nat.le_succ_of_le b.size, hN.mono hB⟩
theorem done2 (b : Below W0.heap.size W0 w2) (hT : Told w2 L L' k acc blk x' a) (hN : BkNew B x') (hB : W0.heap.size ≤ B) :
    Done W0 L L' k acc blk n' bn (w2.heap.size + 1) w2.heap.size x' a ((w2.alloc (.cells #[.bool acc, .slice a.PA a.pn a.pc, .slice a.VA bn a.vc, .slice a.RA a.rn a.rc] 50)).alloc (.cells #[.int .i64 2, .slice x'.A 2 x'.c, .slice x'.SA 1 x'.sc, .slice x'.B n' x'.d] 44)) :=
  have h1 := bel_alloc (Below.refl w2.heap.size w2) (.cells #[.bool acc, .slice a.PA a.pn a.pc, .slice a.VA bn a.vc, .slice a.RA a.rn a.rc] 50)
  ⟨heap_alloc_at _ _ _ (World.size_alloc _ _).symm, blk_alloc (heap_alloc_new _ _) _, hT.below (bel_alloc h1 _), bel_alloc (bel_alloc b _) _, Nat.le_succ_of_le b.size, b.size, hN.mono hB⟩
theorem done3 {x0 x1 x2 x3 : Value} {gA : Nat} (b : Below W0.heap.size W0 w2) (hT : Told w2 L L' k acc blk x' a) (hNa : AvNew B a) (hN : BkNew B x') (hB : W0.heap.size ≤ B) (hA : w2.heap[gA]? = some (.cells #[x0, x1, x2, x3] 44 (0, 0))) (lA : gA < B) (zA : W0.heap.size ≤ gA) (u0 u1 u2 u3 : Value) :
    Done W0 L L' k acc blk n' bn gA w2.heap.size x' a (St4 (St4 (w2.alloc (.cells #[u0, u1, u2, u3] 50)) gA (.int .i64 2) (.slice x'.A 2 x'.c) (.slice x'.SA 1 x'.sc) (.slice x'.B n' x'.d)) w2.heap.size (.bool acc) (.slice a.PA a.pn a.pc) (.slice a.VA bn a.vc) (.slice a.RA a.rn a.rc)) := by
  have hs := blk_lt hA
  have h1 := bel_alloc (Below.refl w2.heap.size w2) (.cells #[u0, u1, u2, u3] 50)
  have hst := St4.stays (St4.stays (Stays.below B h1) (.inl lA) (.int .i64 2) (.slice x'.A 2 x'.c) (.slice x'.SA 1 x'.sc) (.slice x'.B n' x'.d)) (.inr (Nat.le_refl _)) (.bool acc) (.slice a.PA a.pn a.pc) (.slice a.VA bn a.vc) (.slice a.RA a.rn a.rc)
  refine ⟨?_, ?_, hT.stays hNa hN hst, St4.below (St4.below (bel_alloc b _) zA _ _ _ _) b.size _ _ _ _, zA, b.size, hN.mono hB⟩
  · rw [St4.other (by omega)]
    exact St4.at_ (blk_alloc hA _) _ _ _ _
  · refine St4.at_ (x0 := u0) (x1 := u1) (x2 := u2) (x3 := u3) ?_ _ _ _ _
    rw [St4.other (by omega)]
    exact heap_alloc_new _ _
theorem done4 {x0 x1 x2 x3 y0 y1 y2 y3 : Value} {gA gB : Nat} (b : Below W0.heap.size W0 w2) (hT : Told w2 L L' k acc blk x' a) (hNa : AvNew B a) (hN : BkNew B x') (hB : W0.heap.size ≤ B) (hA : w2.heap[gA]? = some (.cells #[x0, x1, x2, x3] 44 (0, 0))) (lA : gA < B) (zA : W0.heap.size ≤ gA) (hBB : w2.heap[gB]? = some (.cells #[y0, y1, y2, y3] 50 (0, 0))) (lB : gB < B) (zB : W0.heap.size ≤ gB) :
    Done W0 L L' k acc blk n' bn gA gB x' a (St4 (St4 w2 gA (.int .i64 2) (.slice x'.A 2 x'.c) (.slice x'.SA 1 x'.sc) (.slice x'.B n' x'.d)) gB (.bool acc) (.slice a.PA a.pn a.pc) (.slice a.VA bn a.vc) (.slice a.RA a.rn a.rc)) := by
  have hne : gA ≠ gB := fun e => by rw [e, hBB] at hA; simp at hA
  have hst := St4.stays (St4.stays (Stays.below B (Below.refl w2.heap.size w2)) (.inl lA) (.int .i64 2) (.slice x'.A 2 x'.c) (.slice x'.SA 1 x'.sc) (.slice x'.B n' x'.d)) (.inl lB) (.bool acc) (.slice a.PA a.pn a.pc) (.slice a.VA bn a.vc) (.slice a.RA a.rn a.rc)
  refine ⟨?_, ?_, hT.stays hNa hN hst, St4.below (St4.below b zA _ _ _ _) zB _ _ _ _, zA, zB, hN.mono hB⟩
  · rw [St4.other hne]
    exact St4.at_ hA _ _ _ _
  · refine St4.at_ (x0 := y0) (x1 := y1) (x2 := y2) (x3 := y3) ?_ _ _ _ _
    rw [St4.other hne.symm]
    exact hBB
theorem done5 {y0 y1 y2 y3 : Value} {gB : Nat} (b : Below W0.heap.size W0 w2) (hT : Told w2 L L' k acc blk x' a) (hNa : AvNew B a) (hN : BkNew B x') (hB : W0.heap.size ≤ B) (hBB : w2.heap[gB]? = some (.cells #[y0, y1, y2, y3] 50 (0, 0))) (lB : gB < B) (zB : W0.heap.size ≤ gB) :
    Done W0 L L' k acc blk n' bn w2.heap.size gB x' a (St4 (w2.alloc (.cells #[.int .i64 2, .slice x'.A 2 x'.c, .slice x'.SA 1 x'.sc, .slice x'.B n' x'.d] 44)) gB (.bool acc) (.slice a.PA a.pn a.pc) (.slice a.VA bn a.vc) (.slice a.RA a.rn a.rc)) := by
  have hs := blk_lt hBB
  have h1 := bel_alloc (Below.refl w2.heap.size w2) (.cells #[.int .i64 2, .slice x'.A 2 x'.c, .slice x'.SA 1 x'.sc, .slice x'.B n' x'.d] 44)
  have hst := St4.stays (Stays.below B h1) (.inl lB) (.bool acc) (.slice a.PA a.pn a.pc) (.slice a.VA bn a.vc) (.slice a.RA a.rn a.rc)
  refine ⟨?_, St4.at_ (blk_alloc hBB _) _ _ _ _, hT.stays hNa hN hst, St4.below (bel_alloc b _) zB _ _ _ _, b.size, zB, hN.mono hB⟩
  rw [St4.other (by omega)]
  exact heap_alloc_new _ _
end
end Go.Proofs.YtippdjmpkafifaaGreat
namespace Go.Proofs.YtippdjmpkafifaaGreat
open Go.RowKit
set_option maxRecDepth 100000 in
set_option maxHeartbeats 32000000 in
theorem psmall_any (w : World) : Calls Tryz.prog 30 #[] w fun e w' => e = .returned (.bool true) ∧ Below w.heap.size w w' := by
  go_enter Tryz.func30, Tryz.ntmps30
  go_wp2_with fail
  refine (example91_any _).mono ?_
  rintro e w0 ⟨⟨A, c, A2, c2, SA, sc, rfl, hR0, hS0⟩, b0⟩
  obtain ⟨x, hx⟩ : ∃ x : Cs, x = ⟨2, A, 2, c, K.exL32, SA, 1, sc, [K.exS32 A2 c2], none, 0, 0, []⟩ := ⟨_, rfl⟩
  obtain ⟨W0, hW0⟩ : ∃ W0 : World, W0 = w0.alloc (.cells #[.int .i64 2, .slice A 2 c, .slice SA 1 sc, .slice none 0 0] 44) := ⟨_, rfl⟩
  obtain ⟨g, hg⟩ : ∃ g, g = w0.heap.size := ⟨_, rfl⟩
  have hB0 : W0.heap[g]? = some (.cells #[.int .i64 2, .slice x.A 2 x.c, .slice x.SA 1 x.sc, .slice x.B 0 x.d] 44 (0, 0)) := by rw [hW0, hg, hx]; exact heap_alloc_new _ _
  have hgw : w.heap.size ≤ g := by rw [hg]; exact b0.size
  have hgW : g < W0.heap.size := by rw [hg, hW0, World.size_alloc]; exact Nat.lt_succ_self _
  have bW : Below w0.heap.size w0 W0 := by rw [hW0]; exact (Below.refl _ _).alloc (Nat.le_refl _) _
  have hbW := bel b0 bW
  have hEX : ExB W0 [] x := by
    have h1 := Lst.below hR0 bW
    have h2 := hS0.below bW
    rw [hx]
    exact ⟨rfl, rfl, rfl, rfl, rfl, ⟨h1, h2, ⟨rfl, ⟨rfl, fun h => absurd h (Nat.lt_irrefl 0)⟩, fun y h => (by cases h)⟩, (show (2 : Nat) ≤ 1000000000 by decide), fun s hs => by rw [List.mem_singleton.1 hs]; exact (show (1 : Nat) ≤ 1000000000 by decide), (show (1 : Nat) ≤ 1000000000 by decide), (show (0 : Nat) ≤ 1000000000 by decide), fun y h => (by cases h)⟩, rfl, rfl, fun s hs => by rw [List.mem_singleton.1 hs]; exact (show (1 : Nat) ≤ 1000000 by decide)⟩
  have HMK := Lib.hid (show ∀ w', Below W0.heap.size W0 w' → (fun w' : World => w'.cell? ⟨g, 0, none⟩ = some (.int .i64 2) ∧ w'.cell? ⟨g, 1, none⟩ = some (.slice x.A 2 x.c) ∧ w'.cell? ⟨g, 2, none⟩ = some (.slice x.SA 1 x.sc) ∧ w'.cell? ⟨g, 3, none⟩ = some (.slice x.B 0 x.d)) w' from fun w' h =>
    ⟨blk_cell (blk_below h hB0) 0 _ rfl, blk_cell (blk_below h hB0) 1 _ rfl, blk_cell (blk_below h hB0) 2 _ rfl, blk_cell (blk_below h hB0) 3 _ rfl⟩)
  have HOK := Lib.hid (show ∀ w', Below W0.heap.size W0 w' → ExB w' [] x from fun w' h => hEX.below h)
  have hs6 : K.see33 (K.ask33 2 K.exL32 [K.exS32 none 0] (([] : List Int).map K.exQ32) (K.exQ32 6)) = (some (([] : List Int).map K.exQ32), false, [], 0) := K.see_6 none 0
  go_upto_region 2 with fail
  have ex : (Value.agg #[.int .i64 2, .slice A 2 c, .slice SA 1 sc, .slice none 0 0]) = .agg #[.int .i64 2, .slice x.A 2 x.c, .slice x.SA 1 x.sc, .slice x.B 0 x.d] := by rw [hx]
  rw [← hW0, ← hg, ex]
  clear hW0 hg ex hx hR0 hS0 bW
  have hR00 : Below W0.heap.size W0 W0 := Below.refl _ _
  have S0 := HMK.out _ hR00
  have S0d := HMK.out _ hR00.drew
  have z0 : W0.heap.size ≤ W0.heap.size := Nat.le_refl _
  have z0d : W0.heap.size ≤ W0.drew.heap.size := Nat.le_refl _
  have z0s : W0.heap.size ≤ W0.heap.size + 1 := Nat.le_succ _
  go_cut [2, 3, 4] from 12 to 19 (fun v2 v3 v4 wc => ∃ gA gB x' a, v2 = .pointer (some ⟨gA, 0, none⟩) ∧ v3 = .pointer (some ⟨gB, 0, none⟩) ∧ v4 = .int .i64 0 ∧ Done W0 [] [] 6 false [] 0 0 gA gB x' a wc)
  case first =>
    go_region_held3 (fun w' : World => w'.cell? ⟨g, 0, none⟩ = some (.int .i64 2) ∧ w'.cell? ⟨g, 1, none⟩ = some (.slice x.A 2 x.c) ∧ w'.cell? ⟨g, 2, none⟩ = some (.slice x.SA 1 x.sc) ∧ w'.cell? ⟨g, 3, none⟩ = some (.slice x.B 0 x.d))
      (first | with_reducible exact HMK.out _ b2r | with_reducible exact HMK.out _ (bel_alloc b2r _) | with_reducible exact HMK.out _ (bel_alloc (bel_alloc b2r _) _) | with_reducible exact HMK.out _ b1r | with_reducible exact HMK.out _ (bel_alloc b1r _) | with_reducible exact HMK.out _ (bel_alloc (bel_alloc b1r _) _) | with_reducible exact HMK.out _ hR00 | with_reducible exact HMK.out _ (bel_alloc hR00 _) | with_reducible exact HMK.out _ (bel_alloc (bel_alloc hR00 _) _) | with_reducible exact HMK.out _ (hR00).drew | with_reducible exact HMK.out _ ((bel_alloc hR00 _)).drew | with_reducible exact HMK.out _ ((bel_alloc (bel_alloc hR00 _) _)).drew | with_reducible exact HMK.out _ hR00.drew | with_reducible exact HMK.out _ (bel_alloc hR00.drew _) | with_reducible exact HMK.out _ (bel_alloc (bel_alloc hR00.drew _) _) | with_reducible exact HMK.out _ (bel_set4 b2r (by assumption) _ _ _ _) | with_reducible exact HMK.out _ (bel_set4 (bel_alloc b2r _) (by assumption) _ _ _ _) | with_reducible exact HMK.out _ (bel_set4 (bel_alloc (bel_alloc b2r _) _) (by assumption) _ _ _ _) | with_reducible exact HMK.out _ (bel_set4 (bel_set4 b2r (by assumption) _ _ _ _) (by assumption) _ _ _ _) | with_reducible exact HMK.out _ (bel_set4 (bel_set4 (bel_alloc b2r _) (by assumption) _ _ _ _) (by assumption) _ _ _ _) | with_reducible exact HMK.out _ (bel_set4 (bel_set4 (bel_alloc (bel_alloc b2r _) _) (by assumption) _ _ _ _) (by assumption) _ _ _ _) | fail)
      (first
      | (go_at_call 92; refine (of92_any 6 _).mono ?_; rintro e w1 ⟨rfl, b1⟩; have b1r : Below W0.heap.size W0 w1 := (by (first | (with_reducible exact bel hR00 b1) | (with_reducible exact bel (bel_alloc hR00 _) b1) | (with_reducible exact bel (bel_alloc (bel_alloc hR00 _) _) b1) | (with_reducible exact bel (hR00).drew b1) | (with_reducible exact bel ((bel_alloc hR00 _)).drew b1) | (with_reducible exact bel ((bel_alloc (bel_alloc hR00 _) _)).drew b1) | (with_reducible exact bel hR00.drew b1) | (with_reducible exact bel (bel_alloc hR00.drew _) b1) | (with_reducible exact bel (bel_alloc (bel_alloc hR00.drew _) _) b1))); have z1r := b1r.size; have z1s := Nat.le_succ_of_le z1r; (first | (with_reducible (have lA := blk_lt2 b1 hA; have hA := blk_below b1 hA)) | (with_reducible (have lA := blk_lt2 b1 (blk_alloc hA _); have hA := blk_below b1 (blk_alloc hA _))) | (with_reducible (have lA := blk_lt2 b1 (heap_alloc_at _ (.cells #[.int .i64 0, .slice none 0 0, .slice none 0 0, .slice none 0 0] 44) _ (World.size_alloc _ _).symm); have hA := blk_below b1 (heap_alloc_at _ (.cells #[.int .i64 0, .slice none 0 0, .slice none 0 0, .slice none 0 0] 44) _ (World.size_alloc _ _).symm))) | (with_reducible (have lA := blk_lt2 b1 (heap_alloc_new _ (.cells #[.int .i64 0, .slice none 0 0, .slice none 0 0, .slice none 0 0] 44)); have hA := blk_below b1 (heap_alloc_new _ (.cells #[.int .i64 0, .slice none 0 0, .slice none 0 0, .slice none 0 0] 44)))) | (with_reducible (have lA := blk_lt2 b1 (blk_alloc (heap_alloc_new _ (.cells #[.int .i64 0, .slice none 0 0, .slice none 0 0, .slice none 0 0] 44)) (.cells #[.bool false, .slice none 0 0, .slice none 0 0, .slice none 0 0] 50)); have hA := blk_below b1 (blk_alloc (heap_alloc_new _ (.cells #[.int .i64 0, .slice none 0 0, .slice none 0 0, .slice none 0 0] 44)) (.cells #[.bool false, .slice none 0 0, .slice none 0 0, .slice none 0 0] 50)))) | (with_reducible (have lA := blk_lt2 b1 (drew_fact hA); have hA := blk_below b1 (drew_fact hA))) | (with_reducible (have lA := blk_lt2 b1 (drew_fact (blk_alloc hA _)); have hA := blk_below b1 (drew_fact (blk_alloc hA _)))) | (with_reducible (have lA := blk_lt2 b1 (drew_fact (heap_alloc_at _ (.cells #[.int .i64 0, .slice none 0 0, .slice none 0 0, .slice none 0 0] 44) _ (World.size_alloc _ _).symm)); have hA := blk_below b1 (drew_fact (heap_alloc_at _ (.cells #[.int .i64 0, .slice none 0 0, .slice none 0 0, .slice none 0 0] 44) _ (World.size_alloc _ _).symm)))) | (with_reducible (have lA := blk_lt2 b1 (drew_fact (heap_alloc_new _ (.cells #[.int .i64 0, .slice none 0 0, .slice none 0 0, .slice none 0 0] 44))); have hA := blk_below b1 (drew_fact (heap_alloc_new _ (.cells #[.int .i64 0, .slice none 0 0, .slice none 0 0, .slice none 0 0] 44))))) | (with_reducible (have lA := blk_lt2 b1 (drew_fact (blk_alloc (heap_alloc_new _ (.cells #[.int .i64 0, .slice none 0 0, .slice none 0 0, .slice none 0 0] 44)) (.cells #[.bool false, .slice none 0 0, .slice none 0 0, .slice none 0 0] 50))); have hA := blk_below b1 (drew_fact (blk_alloc (heap_alloc_new _ (.cells #[.int .i64 0, .slice none 0 0, .slice none 0 0, .slice none 0 0] 44)) (.cells #[.bool false, .slice none 0 0, .slice none 0 0, .slice none 0 0] 50))))) | skip); (first | (with_reducible (have lB := blk_lt2 b1 hB; have hB := blk_below b1 hB)) | (with_reducible (have lB := blk_lt2 b1 (blk_alloc hB _); have hB := blk_below b1 (blk_alloc hB _))) | (with_reducible (have lB := blk_lt2 b1 (heap_alloc_at _ (.cells #[.bool false, .slice none 0 0, .slice none 0 0, .slice none 0 0] 50) _ (World.size_alloc _ _).symm); have hB := blk_below b1 (heap_alloc_at _ (.cells #[.bool false, .slice none 0 0, .slice none 0 0, .slice none 0 0] 50) _ (World.size_alloc _ _).symm))) | (with_reducible (have lB := blk_lt2 b1 (heap_alloc_new _ (.cells #[.bool false, .slice none 0 0, .slice none 0 0, .slice none 0 0] 50)); have hB := blk_below b1 (heap_alloc_new _ (.cells #[.bool false, .slice none 0 0, .slice none 0 0, .slice none 0 0] 50)))) | (with_reducible (have lB := blk_lt2 b1 (blk_alloc (heap_alloc_new _ (.cells #[.bool false, .slice none 0 0, .slice none 0 0, .slice none 0 0] 50)) (.cells #[.int .i64 0, .slice none 0 0, .slice none 0 0, .slice none 0 0] 44)); have hB := blk_below b1 (blk_alloc (heap_alloc_new _ (.cells #[.bool false, .slice none 0 0, .slice none 0 0, .slice none 0 0] 50)) (.cells #[.int .i64 0, .slice none 0 0, .slice none 0 0, .slice none 0 0] 44)))) | (with_reducible (have lB := blk_lt2 b1 (drew_fact hB); have hB := blk_below b1 (drew_fact hB))) | (with_reducible (have lB := blk_lt2 b1 (drew_fact (blk_alloc hB _)); have hB := blk_below b1 (drew_fact (blk_alloc hB _)))) | (with_reducible (have lB := blk_lt2 b1 (drew_fact (heap_alloc_at _ (.cells #[.bool false, .slice none 0 0, .slice none 0 0, .slice none 0 0] 50) _ (World.size_alloc _ _).symm)); have hB := blk_below b1 (drew_fact (heap_alloc_at _ (.cells #[.bool false, .slice none 0 0, .slice none 0 0, .slice none 0 0] 50) _ (World.size_alloc _ _).symm)))) | (with_reducible (have lB := blk_lt2 b1 (drew_fact (heap_alloc_new _ (.cells #[.bool false, .slice none 0 0, .slice none 0 0, .slice none 0 0] 50))); have hB := blk_below b1 (drew_fact (heap_alloc_new _ (.cells #[.bool false, .slice none 0 0, .slice none 0 0, .slice none 0 0] 50))))) | (with_reducible (have lB := blk_lt2 b1 (drew_fact (blk_alloc (heap_alloc_new _ (.cells #[.bool false, .slice none 0 0, .slice none 0 0, .slice none 0 0] 50)) (.cells #[.int .i64 0, .slice none 0 0, .slice none 0 0, .slice none 0 0] 44))); have hB := blk_below b1 (drew_fact (blk_alloc (heap_alloc_new _ (.cells #[.bool false, .slice none 0 0, .slice none 0 0, .slice none 0 0] 50)) (.cells #[.int .i64 0, .slice none 0 0, .slice none 0 0, .slice none 0 0] 44))))) | skip))
      | (go_at_call 33; (first | (with_reducible (refine (ask_ex _ [] [] 6 false [] x (HOK.out _ b1r) (Nat.zero_le _) (n := 0) (n' := 0) (bn := 0) rfl rfl rfl hs6).mono ?_; rintro e w2 ⟨⟨x', a, rfl, hT, hNa, hNx⟩, b2⟩; have b2r := bel b1r b2; have z2r := b2r.size; have z2s := Nat.le_succ_of_le z2r; have hWB := size_le b2 b1r)) | (with_reducible (refine (ask_ex _ [] [] 6 false [] x (HOK.out _ (bel_alloc b1r _)) (Nat.zero_le _) (n := 0) (n' := 0) (bn := 0) rfl rfl rfl hs6).mono ?_; rintro e w2 ⟨⟨x', a, rfl, hT, hNa, hNx⟩, b2⟩; have b2r := bel (bel_alloc b1r _) b2; have z2r := b2r.size; have z2s := Nat.le_succ_of_le z2r; have hWB := size_le b2 (bel_alloc b1r _))) | (with_reducible (refine (ask_ex _ [] [] 6 false [] x (HOK.out _ (bel_alloc (bel_alloc b1r _) _)) (Nat.zero_le _) (n := 0) (n' := 0) (bn := 0) rfl rfl rfl hs6).mono ?_; rintro e w2 ⟨⟨x', a, rfl, hT, hNa, hNx⟩, b2⟩; have b2r := bel (bel_alloc (bel_alloc b1r _) _) b2; have z2r := b2r.size; have z2s := Nat.le_succ_of_le z2r; have hWB := size_le b2 (bel_alloc (bel_alloc b1r _) _)))); (first | (with_reducible (have lA := blk_lt2 b2 hA; have hA := blk_below b2 hA)) | (with_reducible (have lA := blk_lt2 b2 (blk_alloc hA _); have hA := blk_below b2 (blk_alloc hA _))) | (with_reducible (have lA := blk_lt2 b2 (heap_alloc_at _ (.cells #[.int .i64 0, .slice none 0 0, .slice none 0 0, .slice none 0 0] 44) _ (World.size_alloc _ _).symm); have hA := blk_below b2 (heap_alloc_at _ (.cells #[.int .i64 0, .slice none 0 0, .slice none 0 0, .slice none 0 0] 44) _ (World.size_alloc _ _).symm))) | (with_reducible (have lA := blk_lt2 b2 (heap_alloc_new _ (.cells #[.int .i64 0, .slice none 0 0, .slice none 0 0, .slice none 0 0] 44)); have hA := blk_below b2 (heap_alloc_new _ (.cells #[.int .i64 0, .slice none 0 0, .slice none 0 0, .slice none 0 0] 44)))) | (with_reducible (have lA := blk_lt2 b2 (blk_alloc (heap_alloc_new _ (.cells #[.int .i64 0, .slice none 0 0, .slice none 0 0, .slice none 0 0] 44)) (.cells #[.bool false, .slice none 0 0, .slice none 0 0, .slice none 0 0] 50)); have hA := blk_below b2 (blk_alloc (heap_alloc_new _ (.cells #[.int .i64 0, .slice none 0 0, .slice none 0 0, .slice none 0 0] 44)) (.cells #[.bool false, .slice none 0 0, .slice none 0 0, .slice none 0 0] 50)))) | (with_reducible (have lA := blk_lt2 b2 (drew_fact hA); have hA := blk_below b2 (drew_fact hA))) | (with_reducible (have lA := blk_lt2 b2 (drew_fact (blk_alloc hA _)); have hA := blk_below b2 (drew_fact (blk_alloc hA _)))) | (with_reducible (have lA := blk_lt2 b2 (drew_fact (heap_alloc_at _ (.cells #[.int .i64 0, .slice none 0 0, .slice none 0 0, .slice none 0 0] 44) _ (World.size_alloc _ _).symm)); have hA := blk_below b2 (drew_fact (heap_alloc_at _ (.cells #[.int .i64 0, .slice none 0 0, .slice none 0 0, .slice none 0 0] 44) _ (World.size_alloc _ _).symm)))) | (with_reducible (have lA := blk_lt2 b2 (drew_fact (heap_alloc_new _ (.cells #[.int .i64 0, .slice none 0 0, .slice none 0 0, .slice none 0 0] 44))); have hA := blk_below b2 (drew_fact (heap_alloc_new _ (.cells #[.int .i64 0, .slice none 0 0, .slice none 0 0, .slice none 0 0] 44))))) | (with_reducible (have lA := blk_lt2 b2 (drew_fact (blk_alloc (heap_alloc_new _ (.cells #[.int .i64 0, .slice none 0 0, .slice none 0 0, .slice none 0 0] 44)) (.cells #[.bool false, .slice none 0 0, .slice none 0 0, .slice none 0 0] 50))); have hA := blk_below b2 (drew_fact (blk_alloc (heap_alloc_new _ (.cells #[.int .i64 0, .slice none 0 0, .slice none 0 0, .slice none 0 0] 44)) (.cells #[.bool false, .slice none 0 0, .slice none 0 0, .slice none 0 0] 50))))) | skip); (first | (with_reducible (have lB := blk_lt2 b2 hB; have hB := blk_below b2 hB)) | (with_reducible (have lB := blk_lt2 b2 (blk_alloc hB _); have hB := blk_below b2 (blk_alloc hB _))) | (with_reducible (have lB := blk_lt2 b2 (heap_alloc_at _ (.cells #[.bool false, .slice none 0 0, .slice none 0 0, .slice none 0 0] 50) _ (World.size_alloc _ _).symm); have hB := blk_below b2 (heap_alloc_at _ (.cells #[.bool false, .slice none 0 0, .slice none 0 0, .slice none 0 0] 50) _ (World.size_alloc _ _).symm))) | (with_reducible (have lB := blk_lt2 b2 (heap_alloc_new _ (.cells #[.bool false, .slice none 0 0, .slice none 0 0, .slice none 0 0] 50)); have hB := blk_below b2 (heap_alloc_new _ (.cells #[.bool false, .slice none 0 0, .slice none 0 0, .slice none 0 0] 50)))) | (with_reducible (have lB := blk_lt2 b2 (blk_alloc (heap_alloc_new _ (.cells #[.bool false, .slice none 0 0, .slice none 0 0, .slice none 0 0] 50)) (.cells #[.int .i64 0, .slice none 0 0, .slice none 0 0, .slice none 0 0] 44)); have hB := blk_below b2 (blk_alloc (heap_alloc_new _ (.cells #[.bool false, .slice none 0 0, .slice none 0 0, .slice none 0 0] 50)) (.cells #[.int .i64 0, .slice none 0 0, .slice none 0 0, .slice none 0 0] 44)))) | (with_reducible (have lB := blk_lt2 b2 (drew_fact hB); have hB := blk_below b2 (drew_fact hB))) | (with_reducible (have lB := blk_lt2 b2 (drew_fact (blk_alloc hB _)); have hB := blk_below b2 (drew_fact (blk_alloc hB _)))) | (with_reducible (have lB := blk_lt2 b2 (drew_fact (heap_alloc_at _ (.cells #[.bool false, .slice none 0 0, .slice none 0 0, .slice none 0 0] 50) _ (World.size_alloc _ _).symm)); have hB := blk_below b2 (drew_fact (heap_alloc_at _ (.cells #[.bool false, .slice none 0 0, .slice none 0 0, .slice none 0 0] 50) _ (World.size_alloc _ _).symm)))) | (with_reducible (have lB := blk_lt2 b2 (drew_fact (heap_alloc_new _ (.cells #[.bool false, .slice none 0 0, .slice none 0 0, .slice none 0 0] 50))); have hB := blk_below b2 (drew_fact (heap_alloc_new _ (.cells #[.bool false, .slice none 0 0, .slice none 0 0, .slice none 0 0] 50))))) | (with_reducible (have lB := blk_lt2 b2 (drew_fact (blk_alloc (heap_alloc_new _ (.cells #[.bool false, .slice none 0 0, .slice none 0 0, .slice none 0 0] 50)) (.cells #[.int .i64 0, .slice none 0 0, .slice none 0 0, .slice none 0 0] 44))); have hB := blk_below b2 (drew_fact (blk_alloc (heap_alloc_new _ (.cells #[.bool false, .slice none 0 0, .slice none 0 0, .slice none 0 0] 50)) (.cells #[.int .i64 0, .slice none 0 0, .slice none 0 0, .slice none 0 0] 44))))) | skip); (first | (with_reducible (have fA := blk_free hA; have yA0 := blk_cell hA 0 _ rfl; have yA1 := blk_cell hA 1 _ rfl; have yA2 := blk_cell hA 2 _ rfl; have yA3 := blk_cell hA 3 _ rfl)) | skip); (first | (with_reducible (have fB := blk_free hB; have yB0 := blk_cell hB 0 _ rfl; have yB1 := blk_cell hB 1 _ rfl; have yB2 := blk_cell hB 2 _ rfl; have yB3 := blk_cell hB 3 _ rfl)) | skip); (first | (with_reducible (have fAB := blk_free (blk_alloc hA (.cells #[.bool false, .slice none 0 0, .slice none 0 0, .slice none 0 0] 50)); have yAB0 := blk_cell (blk_alloc hA (.cells #[.bool false, .slice none 0 0, .slice none 0 0, .slice none 0 0] 50)) 0 _ rfl; have yAB1 := blk_cell (blk_alloc hA (.cells #[.bool false, .slice none 0 0, .slice none 0 0, .slice none 0 0] 50)) 1 _ rfl; have yAB2 := blk_cell (blk_alloc hA (.cells #[.bool false, .slice none 0 0, .slice none 0 0, .slice none 0 0] 50)) 2 _ rfl; have yAB3 := blk_cell (blk_alloc hA (.cells #[.bool false, .slice none 0 0, .slice none 0 0, .slice none 0 0] 50)) 3 _ rfl)) | skip); (first | (with_reducible (have fBA := blk_free (blk_alloc hB (.cells #[.int .i64 0, .slice none 0 0, .slice none 0 0, .slice none 0 0] 44)); have yBA0 := blk_cell (blk_alloc hB (.cells #[.int .i64 0, .slice none 0 0, .slice none 0 0, .slice none 0 0] 44)) 0 _ rfl; have yBA1 := blk_cell (blk_alloc hB (.cells #[.int .i64 0, .slice none 0 0, .slice none 0 0, .slice none 0 0] 44)) 1 _ rfl; have yBA2 := blk_cell (blk_alloc hB (.cells #[.int .i64 0, .slice none 0 0, .slice none 0 0, .slice none 0 0] 44)) 2 _ rfl; have yBA3 := blk_cell (blk_alloc hB (.cells #[.int .i64 0, .slice none 0 0, .slice none 0 0, .slice none 0 0] 44)) 3 _ rfl)) | skip); (first | (with_reducible (have fBN := blk_free (blk_alloc hB (.cells #[.int .i64 2, .slice x'.A 2 x'.c, .slice x'.SA 1 x'.sc, .slice x'.B 0 x'.d] 44)); have yBN0 := blk_cell (blk_alloc hB (.cells #[.int .i64 2, .slice x'.A 2 x'.c, .slice x'.SA 1 x'.sc, .slice x'.B 0 x'.d] 44)) 0 _ rfl; have yBN1 := blk_cell (blk_alloc hB (.cells #[.int .i64 2, .slice x'.A 2 x'.c, .slice x'.SA 1 x'.sc, .slice x'.B 0 x'.d] 44)) 1 _ rfl; have yBN2 := blk_cell (blk_alloc hB (.cells #[.int .i64 2, .slice x'.A 2 x'.c, .slice x'.SA 1 x'.sc, .slice x'.B 0 x'.d] 44)) 2 _ rfl; have yBN3 := blk_cell (blk_alloc hB (.cells #[.int .i64 2, .slice x'.A 2 x'.c, .slice x'.SA 1 x'.sc, .slice x'.B 0 x'.d] 44)) 3 _ rfl)) | skip); (first | (with_reducible (have fBS := blk_free (blk_other4 hA hB (.int .i64 2) (.slice x'.A 2 x'.c) (.slice x'.SA 1 x'.sc) (.slice x'.B 0 x'.d)); have yBS0 := blk_cell (blk_other4 hA hB (.int .i64 2) (.slice x'.A 2 x'.c) (.slice x'.SA 1 x'.sc) (.slice x'.B 0 x'.d)) 0 _ rfl; have yBS1 := blk_cell (blk_other4 hA hB (.int .i64 2) (.slice x'.A 2 x'.c) (.slice x'.SA 1 x'.sc) (.slice x'.B 0 x'.d)) 1 _ rfl; have yBS2 := blk_cell (blk_other4 hA hB (.int .i64 2) (.slice x'.A 2 x'.c) (.slice x'.SA 1 x'.sc) (.slice x'.B 0 x'.d)) 2 _ rfl; have yBS3 := blk_cell (blk_other4 hA hB (.int .i64 2) (.slice x'.A 2 x'.c) (.slice x'.SA 1 x'.sc) (.slice x'.B 0 x'.d)) 3 _ rfl)) | skip); (first | (with_reducible (have fBF := blk_free (blk_other4 (blk_alloc hA (.cells #[.bool false, .slice none 0 0, .slice none 0 0, .slice none 0 0] 50)) (heap_alloc_new _ (.cells #[.bool false, .slice none 0 0, .slice none 0 0, .slice none 0 0] 50)) (.int .i64 2) (.slice x'.A 2 x'.c) (.slice x'.SA 1 x'.sc) (.slice x'.B 0 x'.d)); have yBF0 := blk_cell (blk_other4 (blk_alloc hA (.cells #[.bool false, .slice none 0 0, .slice none 0 0, .slice none 0 0] 50)) (heap_alloc_new _ (.cells #[.bool false, .slice none 0 0, .slice none 0 0, .slice none 0 0] 50)) (.int .i64 2) (.slice x'.A 2 x'.c) (.slice x'.SA 1 x'.sc) (.slice x'.B 0 x'.d)) 0 _ rfl; have yBF1 := blk_cell (blk_other4 (blk_alloc hA (.cells #[.bool false, .slice none 0 0, .slice none 0 0, .slice none 0 0] 50)) (heap_alloc_new _ (.cells #[.bool false, .slice none 0 0, .slice none 0 0, .slice none 0 0] 50)) (.int .i64 2) (.slice x'.A 2 x'.c) (.slice x'.SA 1 x'.sc) (.slice x'.B 0 x'.d)) 1 _ rfl; have yBF2 := blk_cell (blk_other4 (blk_alloc hA (.cells #[.bool false, .slice none 0 0, .slice none 0 0, .slice none 0 0] 50)) (heap_alloc_new _ (.cells #[.bool false, .slice none 0 0, .slice none 0 0, .slice none 0 0] 50)) (.int .i64 2) (.slice x'.A 2 x'.c) (.slice x'.SA 1 x'.sc) (.slice x'.B 0 x'.d)) 2 _ rfl; have yBF3 := blk_cell (blk_other4 (blk_alloc hA (.cells #[.bool false, .slice none 0 0, .slice none 0 0, .slice none 0 0] 50)) (heap_alloc_new _ (.cells #[.bool false, .slice none 0 0, .slice none 0 0, .slice none 0 0] 50)) (.int .i64 2) (.slice x'.A 2 x'.c) (.slice x'.SA 1 x'.sc) (.slice x'.B 0 x'.d)) 3 _ rfl)) | skip))
      | fail)
    all_goals go_wp2_with fail
    all_goals go_meet
    all_goals (first
      | with_reducible exact ⟨_, _, x', a, rfl, rfl, rfl, done1 b2r hT hNx hWB⟩
      | with_reducible exact ⟨_, _, x', a, rfl, rfl, rfl, done2 b2r hT hNx hWB⟩
      | with_reducible exact ⟨_, _, x', a, rfl, rfl, rfl, done3 b2r hT hNa hNx hWB hA lA (by assumption) _ _ _ _⟩
      | with_reducible exact ⟨_, _, x', a, rfl, rfl, rfl, done4 b2r hT hNa hNx hWB hA lA (by assumption) hB lB (by assumption)⟩
      | with_reducible exact ⟨_, _, x', a, rfl, rfl, rfl, done5 b2r hT hNa hNx hWB hB lB (by assumption)⟩
      | trace_state)
  case rest =>
    obtain ⟨gA, gB, x', a, rfl, rfl, rfl, hD⟩ := hcut
    have hbg := bel hR00 hD.bel
    have hBg := blk_below hD.bel hB0
    obtain ⟨hDA, hDB, hT, hbc, hgA, hgB, hNx⟩ := hD
    have HM3 := Lib.hid (show ∀ w', Below wc.heap.size wc w' → (fun w' : World => w'.cell? ⟨g, 0, none⟩ = some (.int .i64 2) ∧ w'.cell? ⟨g, 1, none⟩ = some (.slice x.A 2 x.c) ∧ w'.cell? ⟨g, 2, none⟩ = some (.slice x.SA 1 x.sc) ∧ w'.cell? ⟨g, 3, none⟩ = some (.slice x.B 0 x.d) ∧ w'.cell? ⟨gB, 0, none⟩ = some (.bool false) ∧ w'.cell? ⟨gB, 1, none⟩ = some (.slice a.PA a.pn a.pc) ∧ w'.cell? ⟨gB, 2, none⟩ = some (.slice a.VA 0 a.vc) ∧ w'.cell? ⟨gB, 3, none⟩ = some (.slice a.RA a.rn a.rc)) w' from fun w' h =>
      ⟨blk_cell (blk_below h hBg) 0 _ rfl, blk_cell (blk_below h hBg) 1 _ rfl, blk_cell (blk_below h hBg) 2 _ rfl, blk_cell (blk_below h hBg) 3 _ rfl, blk_cell (blk_below h hDB) 0 _ rfl, blk_cell (blk_below h hDB) 1 _ rfl, blk_cell (blk_below h hDB) 2 _ rfl, blk_cell (blk_below h hDB) 3 _ rfl⟩)
    have hR3 : Below wc.heap.size wc wc := Below.refl _ _
    have hR3d : Below wc.heap.size wc wc.drew := hR3.drew
    have S0 := HM3.out _ hR3
    have S0d := HM3.out _ hR3d
    have hxc := HOK.out _ hbc
    have HX3 := Lib.hid (show ∀ w', Below wc.heap.size wc w' → ExB w' [] x from fun w' h => hxc.below h)
    have HT3 := Lib.hid (show ∀ w', Below wc.heap.size wc w' → Told w' [] [] 6 false [] x' a from fun w' h => hT.below h)
    go_upto_region 3 with fail
    go_region_held3 (fun w' : World => w'.cell? ⟨g, 0, none⟩ = some (.int .i64 2) ∧ w'.cell? ⟨g, 1, none⟩ = some (.slice x.A 2 x.c) ∧ w'.cell? ⟨g, 2, none⟩ = some (.slice x.SA 1 x.sc) ∧ w'.cell? ⟨g, 3, none⟩ = some (.slice x.B 0 x.d) ∧ w'.cell? ⟨gB, 0, none⟩ = some (.bool false) ∧ w'.cell? ⟨gB, 1, none⟩ = some (.slice a.PA a.pn a.pc) ∧ w'.cell? ⟨gB, 2, none⟩ = some (.slice a.VA 0 a.vc) ∧ w'.cell? ⟨gB, 3, none⟩ = some (.slice a.RA a.rn a.rc))
      (first | with_reducible exact S2 | with_reducible exact S1 | with_reducible exact S0d | with_reducible exact S0 | fail)
      (first
        | (go_at_call 92; refine (of92_any 6 _).mono ?_; rintro e w4 ⟨rfl, b4⟩; have b4r := bel hR3d b4; have S1 := HM3.out _ b4r)
        | (go_at_call 37; refine (check_ex _ [] [] 6 false [] x x' a (HX3.out _ b4r) (Nat.zero_le _) (HT3.out _ b4r) (n := 0) (bn := 0) rfl rfl hs6).mono ?_; rintro e w5 ⟨rfl, b5⟩; have b5r := bel b4r b5; have S2 := HM3.out _ b5r)
        | fail)
    have hbw5 : Below W0.heap.size W0 w5 := bel hbc b5r
    have hBg5 := blk_below b5r hBg
    have hx5 := HX3.out _ b5r
    clear S0 S0d S1 S2 HM3 HX3 HT3 hR3 hR3d b4r b4 b5 b5r hxc hbg hDA hDB hT hNx hBg hgA hgB
    obtain ⟨ad5, h5⟩ : ∃ ad : Addr, ad = ⟨w5.heap.size, 0, none⟩ := ⟨_, rfl⟩
    obtain ⟨ad6, h6⟩ : ∃ ad : Addr, ad = ⟨w5.heap.size + 1 + 1 + 1, 0, none⟩ := ⟨_, rfl⟩
    obtain ⟨l5, hl5⟩ : ∃ l5 : List Obj, l5 = [.cells #[.int .i64 2, .int .i64 1, .int .i64 3, .int .i64 2, .int .i64 1] 3, .cells #[.int .i64 0, .int .i64 1] 3, .cells #[.int .i64 0, .int .i64 1, .int .i64 2] 3,
      .cells #[.slice none 0 0, .slice none 0 0, .slice (some ⟨w5.heap.size + 1, 0, none⟩) 2 2, .slice none 0 0, .slice (some ⟨w5.heap.size + 1 + 1, 0, none⟩) 3 3] 48] := ⟨_, rfl⟩
    obtain ⟨W5, hW5⟩ : ∃ W5 : World, W5 = Als w5 l5 := ⟨_, rfl⟩
    have b55 := Als.below l5 w5
    have hget := Als.get l5 w5
    rw [← hW5] at b55 hget
    have hI5 : Ints W5 (some ad5) 5 K.ks33 := ⟨rfl, by rw [h5]; exact Rd.of_block (cs := (intCells K.ks33).toArray) (hget 0 _ (by rw [hl5]; rfl)) 1 5 rfl⟩
    have hI6 : ∀ i, i < 5 → ∃ VA vc, W5.cell? (ad6.add i) = some (.slice VA (K.want33 i).length vc) ∧ Ints W5 VA (K.want33 i).length (K.want33 i) ∧ ∀ ad, VA = some ad → W0.heap.size ≤ ad.block := by
      have hs5 := hbw5.size
      have e1 := hget 1 _ (by rw [hl5]; rfl)
      have e2 := hget 2 _ (by rw [hl5]; rfl)
      have e3 := hget 3 _ (by rw [hl5]; rfl)
      intro i hi
      match i, hi with
      | 0, _ => exact ⟨none, 0, by rw [h6]; exact blk_cell e3 0 _ rfl, ints_nil _, fun ad e => (by cases e)⟩
      | 1, _ => exact ⟨none, 0, by rw [h6]; exact blk_cell e3 1 _ rfl, ints_nil _, fun ad e => (by cases e)⟩
      | 2, _ => exact ⟨some ⟨w5.heap.size + 1, 0, none⟩, 2, by rw [h6]; exact blk_cell e3 2 _ rfl, ⟨rfl, Rd.of_block (cs := (intCells [0, 1]).toArray) e1 1 2 rfl⟩, fun ad e => by injection e with e; rw [← e]; exact Nat.le_succ_of_le hs5⟩
      | 3, _ => exact ⟨none, 0, by rw [h6]; exact blk_cell e3 3 _ rfl, ints_nil _, fun ad e => (by cases e)⟩
      | 4, _ => exact ⟨some ⟨w5.heap.size + 1 + 1, 0, none⟩, 3, by rw [h6]; exact blk_cell e3 4 _ rfl, ⟨rfl, Rd.of_block (cs := (intCells [0, 1, 2]).toArray) e2 1 3 rfl⟩, fun ad e => by injection e with e; rw [← e]; exact Nat.le_succ_of_le (Nat.le_succ_of_le hs5)⟩
    have hz5 : W0.heap.size ≤ ad5.block := by rw [h5]; exact hbw5.size
    have hz6 : W0.heap.size ≤ ad6.block := by rw [h6]; exact Nat.le_succ_of_le (Nat.le_succ_of_le (Nat.le_succ_of_le hbw5.size))
    have hBg6 := blk_below b55 hBg5
    have hx6 := hx5.below b55
    have hbw6 := bel hbw5 b55
    rw [hl5] at hW5
    simp only [Als] at hW5
    clear hl5 hget
    go_wp2_with fail
    rw [← hW5, ← h5, ← h6]
    clear hW5 h5 h6 b55 hx5 hBg5 hbw5
    have H6 := Lib.hid hI6
    clear hI6
    go_loopw [7] (fun v7 wr => ∃ (i : Nat) (xi : Cs), v7 = .int .i64 i ∧ i ≤ 5 ∧ wr.heap[g]? = some (.cells #[.int .i64 2, .slice xi.A 2 xi.c, .slice xi.SA 1 xi.sc, .slice xi.B (K.rs33 i).length xi.d] 44 (0, 0)) ∧ ExB wr (K.rs33 i) xi ∧ Stays W0.heap.size W5 wr ∧ Below w.heap.size w wr) (fun v7 _ => 5 - (intOf v7).toNat)
    case atStart => exact ⟨0, x, rfl, Nat.zero_le _, hBg6, hx6, fun _ _ _ e => e, bel hbW hbw6⟩
    case round =>
      clear hBg6 hx6
      obtain ⟨i, xi, rfl, hi5, hBi, hXi, hst, hbr⟩ := hrel
      have hwz := hbw6.size
      by_cases hlt : i < 5
      · obtain ⟨k, hk5, hsee⟩ := K.see_at none 0 hlt
        obtain ⟨ad', k', hA', hk', ck⟩ := (Ints.stays hI5 hst (fun _ ad e => by injection e with e; rw [← e]; exact hz5)).at_ hlt
        injection hA' with hA'
        subst hA'
        obtain rfl : k = k' := by rw [hk5] at hk'; injection hk' with h
        obtain ⟨VA, vc, c6, hV6, hVz⟩ := H6.out i hlt
        have hL3 : (K.rs33 i).length ≤ 3 := by
          match i, hlt with
          | 0, _ => decide
          | 1, _ => decide
          | 2, _ => decide
          | 3, _ => decide
          | 4, _ => decide
        have hW3 : (K.want33 i).length ≤ 1000000000 := by
          match i, hlt with
          | 0, _ => decide
          | 1, _ => decide
          | 2, _ => decide
          | 3, _ => decide
          | 4, _ => decide
        have c6r : wr.cell? (ad6.add i) = some (.slice VA (K.want33 i).length vc) := by
          have hlt6 := cell_lt c6
          obtain ⟨o, ho⟩ : ∃ o, W5.heap[(ad6.add i).block]? = some o := ⟨_, Array.getElem?_eq_getElem hlt6⟩
          refine (World.cell?_of_block ?_).trans c6
          rw [ho]
          exact hst _ _ (by rw [add_block]; exact hz6) ho
        have hV6r : Ints wr VA (K.want33 i).length (K.want33 i) := hV6.stays hst (fun _ => hVz)
        obtain ⟨L, hL⟩ : ∃ L, L = K.rs33 i := ⟨_, rfl⟩
        obtain ⟨L2, hL2⟩ : ∃ L2, L2 = K.rs33 (i + 1) := ⟨_, rfl⟩
        obtain ⟨bl, hbl⟩ : ∃ bl, bl = K.want33 i := ⟨_, rfl⟩
        obtain ⟨acc, hacc⟩ : ∃ acc, acc = bl.isEmpty := ⟨_, rfl⟩
        rw [← hbl, ← hacc, ← hL, ← hL2] at hsee
        rw [← hbl] at hW3 c6r hV6r
        rw [← hL] at hBi hXi hL3
        obtain ⟨n, hn⟩ : ∃ n, n = L.length := ⟨_, rfl⟩
        obtain ⟨n2, hn2⟩ : ∃ n, n = L2.length := ⟨_, rfl⟩
        obtain ⟨bn, hbn⟩ : ∃ n, n = bl.length := ⟨_, rfl⟩
        rw [← hn] at hBi
        rw [← hbn] at c6r hV6r
        have hbn9 : bn ≤ 1000000000 := by rw [hbn]; exact hW3
        have HN := Lib.hid hn.symm
        have HN2 := Lib.hid hn2.symm
        have HBN := Lib.hid hbn.symm
        have HL2 := Lib.hid hL2
        have HSEE := Lib.hid hsee
        have HAC := Lib.hid (show (acc = true ∧ bn = 0) ∨ (acc = false ∧ 0 < bn) by
          rw [hacc, hbn]
          cases bl with
          | nil => exact .inl ⟨rfl, rfl⟩
          | cons y l => exact .inr ⟨rfl, Nat.succ_pos _⟩)
        clear hn hn2 hbn hacc hbl hL hL2 hsee hk5 hk' c6 hV6 hVz hW3
        have hgr := blk_lt hBi
        have hWr : W0.heap.size ≤ wr.heap.size := by
          have h1 := hst _ _ hz5 (Array.getElem?_eq_getElem (show ad5.block < W5.heap.size from by
            have h2 := (hI5.at_ (k := 0) (by decide))
            obtain ⟨ad, k0, e, -, h3⟩ := h2
            injection e with e
            have := cell_lt h3
            rw [add_block, ← e] at this
            exact this))
          have := blk_lt h1
          omega
        have k0 : (0 : Int) ≤ (i : Int) := by omega
        have k1 : (i : Int) < 5 := by omega
        have HMK := Lib.hid (show ∀ w', Below wr.heap.size wr w' → (fun w' : World => w'.cell? ⟨g, 0, none⟩ = some (.int .i64 2) ∧ w'.cell? ⟨g, 1, none⟩ = some (.slice xi.A 2 xi.c) ∧ w'.cell? ⟨g, 2, none⟩ = some (.slice xi.SA 1 xi.sc) ∧ w'.cell? ⟨g, 3, none⟩ = some (.slice xi.B n xi.d) ∧ w'.cell? (ad5.add i) = some (.int .i64 k)) w' from fun w' h =>
          ⟨blk_cell (blk_below h hBi) 0 _ rfl, blk_cell (blk_below h hBi) 1 _ rfl, blk_cell (blk_below h hBi) 2 _ rfl, blk_cell (blk_below h hBi) 3 _ rfl, (h.cell (cell_lt ck)).trans ck⟩)
        have HOK := Lib.hid (show ∀ w', Below wr.heap.size wr w' → ExB w' L xi from fun w' h => hXi.below h)
        go_upto_region 10 with fail
        have hR00 : Below wr.heap.size wr wr := Below.refl _ _
        have S0 := HMK.out _ hR00
        have S0d := HMK.out _ hR00.drew
        have z0 : wr.heap.size ≤ wr.heap.size := Nat.le_refl _
        have z0d : wr.heap.size ≤ wr.drew.heap.size := Nat.le_refl _
        have z0s : wr.heap.size ≤ wr.heap.size + 1 := Nat.le_succ _
        go_cut [8, 9, 10] from 48 to 59 (fun v8 v9 v10 wc => ∃ gA gB x' a, v8 = .pointer (some ⟨gA, 0, none⟩) ∧ v9 = .pointer (some ⟨gB, 0, none⟩) ∧ v10 = .int .i64 0 ∧ Done wr L L2 k acc bl n2 bn gA gB x' a wc)
        case first =>
          go_region_held3 (fun w' : World => w'.cell? ⟨g, 0, none⟩ = some (.int .i64 2) ∧ w'.cell? ⟨g, 1, none⟩ = some (.slice xi.A 2 xi.c) ∧ w'.cell? ⟨g, 2, none⟩ = some (.slice xi.SA 1 xi.sc) ∧ w'.cell? ⟨g, 3, none⟩ = some (.slice xi.B n xi.d) ∧ w'.cell? (ad5.add i) = some (.int .i64 k))
            (first | with_reducible exact HMK.out _ b2r | with_reducible exact HMK.out _ (bel_alloc b2r _) | with_reducible exact HMK.out _ (bel_alloc (bel_alloc b2r _) _) | with_reducible exact HMK.out _ b1r | with_reducible exact HMK.out _ (bel_alloc b1r _) | with_reducible exact HMK.out _ (bel_alloc (bel_alloc b1r _) _) | with_reducible exact HMK.out _ hR00 | with_reducible exact HMK.out _ (bel_alloc hR00 _) | with_reducible exact HMK.out _ (bel_alloc (bel_alloc hR00 _) _) | with_reducible exact HMK.out _ (hR00).drew | with_reducible exact HMK.out _ ((bel_alloc hR00 _)).drew | with_reducible exact HMK.out _ ((bel_alloc (bel_alloc hR00 _) _)).drew | with_reducible exact HMK.out _ hR00.drew | with_reducible exact HMK.out _ (bel_alloc hR00.drew _) | with_reducible exact HMK.out _ (bel_alloc (bel_alloc hR00.drew _) _) | with_reducible exact HMK.out _ (bel_set4 b2r (by assumption) _ _ _ _) | with_reducible exact HMK.out _ (bel_set4 (bel_alloc b2r _) (by assumption) _ _ _ _) | with_reducible exact HMK.out _ (bel_set4 (bel_alloc (bel_alloc b2r _) _) (by assumption) _ _ _ _) | with_reducible exact HMK.out _ (bel_set4 (bel_set4 b2r (by assumption) _ _ _ _) (by assumption) _ _ _ _) | with_reducible exact HMK.out _ (bel_set4 (bel_set4 (bel_alloc b2r _) (by assumption) _ _ _ _) (by assumption) _ _ _ _) | with_reducible exact HMK.out _ (bel_set4 (bel_set4 (bel_alloc (bel_alloc b2r _) _) (by assumption) _ _ _ _) (by assumption) _ _ _ _) | fail)
            (first
            | (go_at_call 92; refine (of92_any k _).mono ?_; rintro e w1 ⟨rfl, b1⟩; have b1r : Below wr.heap.size wr w1 := (by (first | (with_reducible exact bel hR00 b1) | (with_reducible exact bel (bel_alloc hR00 _) b1) | (with_reducible exact bel (bel_alloc (bel_alloc hR00 _) _) b1) | (with_reducible exact bel (hR00).drew b1) | (with_reducible exact bel ((bel_alloc hR00 _)).drew b1) | (with_reducible exact bel ((bel_alloc (bel_alloc hR00 _) _)).drew b1) | (with_reducible exact bel hR00.drew b1) | (with_reducible exact bel (bel_alloc hR00.drew _) b1) | (with_reducible exact bel (bel_alloc (bel_alloc hR00.drew _) _) b1))); have z1r := b1r.size; have z1s := Nat.le_succ_of_le z1r; (first | (with_reducible (have lA := blk_lt2 b1 hA; have hA := blk_below b1 hA)) | (with_reducible (have lA := blk_lt2 b1 (blk_alloc hA _); have hA := blk_below b1 (blk_alloc hA _))) | (with_reducible (have lA := blk_lt2 b1 (heap_alloc_at _ (.cells #[.int .i64 0, .slice none 0 0, .slice none 0 0, .slice none 0 0] 44) _ (World.size_alloc _ _).symm); have hA := blk_below b1 (heap_alloc_at _ (.cells #[.int .i64 0, .slice none 0 0, .slice none 0 0, .slice none 0 0] 44) _ (World.size_alloc _ _).symm))) | (with_reducible (have lA := blk_lt2 b1 (heap_alloc_new _ (.cells #[.int .i64 0, .slice none 0 0, .slice none 0 0, .slice none 0 0] 44)); have hA := blk_below b1 (heap_alloc_new _ (.cells #[.int .i64 0, .slice none 0 0, .slice none 0 0, .slice none 0 0] 44)))) | (with_reducible (have lA := blk_lt2 b1 (blk_alloc (heap_alloc_new _ (.cells #[.int .i64 0, .slice none 0 0, .slice none 0 0, .slice none 0 0] 44)) (.cells #[.bool false, .slice none 0 0, .slice none 0 0, .slice none 0 0] 50)); have hA := blk_below b1 (blk_alloc (heap_alloc_new _ (.cells #[.int .i64 0, .slice none 0 0, .slice none 0 0, .slice none 0 0] 44)) (.cells #[.bool false, .slice none 0 0, .slice none 0 0, .slice none 0 0] 50)))) | (with_reducible (have lA := blk_lt2 b1 (drew_fact hA); have hA := blk_below b1 (drew_fact hA))) | (with_reducible (have lA := blk_lt2 b1 (drew_fact (blk_alloc hA _)); have hA := blk_below b1 (drew_fact (blk_alloc hA _)))) | (with_reducible (have lA := blk_lt2 b1 (drew_fact (heap_alloc_at _ (.cells #[.int .i64 0, .slice none 0 0, .slice none 0 0, .slice none 0 0] 44) _ (World.size_alloc _ _).symm)); have hA := blk_below b1 (drew_fact (heap_alloc_at _ (.cells #[.int .i64 0, .slice none 0 0, .slice none 0 0, .slice none 0 0] 44) _ (World.size_alloc _ _).symm)))) | (with_reducible (have lA := blk_lt2 b1 (drew_fact (heap_alloc_new _ (.cells #[.int .i64 0, .slice none 0 0, .slice none 0 0, .slice none 0 0] 44))); have hA := blk_below b1 (drew_fact (heap_alloc_new _ (.cells #[.int .i64 0, .slice none 0 0, .slice none 0 0, .slice none 0 0] 44))))) | (with_reducible (have lA := blk_lt2 b1 (drew_fact (blk_alloc (heap_alloc_new _ (.cells #[.int .i64 0, .slice none 0 0, .slice none 0 0, .slice none 0 0] 44)) (.cells #[.bool false, .slice none 0 0, .slice none 0 0, .slice none 0 0] 50))); have hA := blk_below b1 (drew_fact (blk_alloc (heap_alloc_new _ (.cells #[.int .i64 0, .slice none 0 0, .slice none 0 0, .slice none 0 0] 44)) (.cells #[.bool false, .slice none 0 0, .slice none 0 0, .slice none 0 0] 50))))) | skip); (first | (with_reducible (have lB := blk_lt2 b1 hB; have hB := blk_below b1 hB)) | (with_reducible (have lB := blk_lt2 b1 (blk_alloc hB _); have hB := blk_below b1 (blk_alloc hB _))) | (with_reducible (have lB := blk_lt2 b1 (heap_alloc_at _ (.cells #[.bool false, .slice none 0 0, .slice none 0 0, .slice none 0 0] 50) _ (World.size_alloc _ _).symm); have hB := blk_below b1 (heap_alloc_at _ (.cells #[.bool false, .slice none 0 0, .slice none 0 0, .slice none 0 0] 50) _ (World.size_alloc _ _).symm))) | (with_reducible (have lB := blk_lt2 b1 (heap_alloc_new _ (.cells #[.bool false, .slice none 0 0, .slice none 0 0, .slice none 0 0] 50)); have hB := blk_below b1 (heap_alloc_new _ (.cells #[.bool false, .slice none 0 0, .slice none 0 0, .slice none 0 0] 50)))) | (with_reducible (have lB := blk_lt2 b1 (blk_alloc (heap_alloc_new _ (.cells #[.bool false, .slice none 0 0, .slice none 0 0, .slice none 0 0] 50)) (.cells #[.int .i64 0, .slice none 0 0, .slice none 0 0, .slice none 0 0] 44)); have hB := blk_below b1 (blk_alloc (heap_alloc_new _ (.cells #[.bool false, .slice none 0 0, .slice none 0 0, .slice none 0 0] 50)) (.cells #[.int .i64 0, .slice none 0 0, .slice none 0 0, .slice none 0 0] 44)))) | (with_reducible (have lB := blk_lt2 b1 (drew_fact hB); have hB := blk_below b1 (drew_fact hB))) | (with_reducible (have lB := blk_lt2 b1 (drew_fact (blk_alloc hB _)); have hB := blk_below b1 (drew_fact (blk_alloc hB _)))) | (with_reducible (have lB := blk_lt2 b1 (drew_fact (heap_alloc_at _ (.cells #[.bool false, .slice none 0 0, .slice none 0 0, .slice none 0 0] 50) _ (World.size_alloc _ _).symm)); have hB := blk_below b1 (drew_fact (heap_alloc_at _ (.cells #[.bool false, .slice none 0 0, .slice none 0 0, .slice none 0 0] 50) _ (World.size_alloc _ _).symm)))) | (with_reducible (have lB := blk_lt2 b1 (drew_fact (heap_alloc_new _ (.cells #[.bool false, .slice none 0 0, .slice none 0 0, .slice none 0 0] 50))); have hB := blk_below b1 (drew_fact (heap_alloc_new _ (.cells #[.bool false, .slice none 0 0, .slice none 0 0, .slice none 0 0] 50))))) | (with_reducible (have lB := blk_lt2 b1 (drew_fact (blk_alloc (heap_alloc_new _ (.cells #[.bool false, .slice none 0 0, .slice none 0 0, .slice none 0 0] 50)) (.cells #[.int .i64 0, .slice none 0 0, .slice none 0 0, .slice none 0 0] 44))); have hB := blk_below b1 (drew_fact (blk_alloc (heap_alloc_new _ (.cells #[.bool false, .slice none 0 0, .slice none 0 0, .slice none 0 0] 50)) (.cells #[.int .i64 0, .slice none 0 0, .slice none 0 0, .slice none 0 0] 44))))) | skip))
            | (go_at_call 33; (first | (with_reducible (refine (ask_ex _ L L2 k acc bl xi (HOK.out _ b1r) hL3 (n := n) (n' := n2) (bn := bn) HN.out HN2.out HBN.out HSEE.out).mono ?_; rintro e w2 ⟨⟨x', a, rfl, hT, hNa, hNx⟩, b2⟩; have b2r := bel b1r b2; have z2r := b2r.size; have z2s := Nat.le_succ_of_le z2r; have hWB := size_le b2 b1r)) | (with_reducible (refine (ask_ex _ L L2 k acc bl xi (HOK.out _ (bel_alloc b1r _)) hL3 (n := n) (n' := n2) (bn := bn) HN.out HN2.out HBN.out HSEE.out).mono ?_; rintro e w2 ⟨⟨x', a, rfl, hT, hNa, hNx⟩, b2⟩; have b2r := bel (bel_alloc b1r _) b2; have z2r := b2r.size; have z2s := Nat.le_succ_of_le z2r; have hWB := size_le b2 (bel_alloc b1r _))) | (with_reducible (refine (ask_ex _ L L2 k acc bl xi (HOK.out _ (bel_alloc (bel_alloc b1r _) _)) hL3 (n := n) (n' := n2) (bn := bn) HN.out HN2.out HBN.out HSEE.out).mono ?_; rintro e w2 ⟨⟨x', a, rfl, hT, hNa, hNx⟩, b2⟩; have b2r := bel (bel_alloc (bel_alloc b1r _) _) b2; have z2r := b2r.size; have z2s := Nat.le_succ_of_le z2r; have hWB := size_le b2 (bel_alloc (bel_alloc b1r _) _)))); (first | (with_reducible (have lA := blk_lt2 b2 hA; have hA := blk_below b2 hA)) | (with_reducible (have lA := blk_lt2 b2 (blk_alloc hA _); have hA := blk_below b2 (blk_alloc hA _))) | (with_reducible (have lA := blk_lt2 b2 (heap_alloc_at _ (.cells #[.int .i64 0, .slice none 0 0, .slice none 0 0, .slice none 0 0] 44) _ (World.size_alloc _ _).symm); have hA := blk_below b2 (heap_alloc_at _ (.cells #[.int .i64 0, .slice none 0 0, .slice none 0 0, .slice none 0 0] 44) _ (World.size_alloc _ _).symm))) | (with_reducible (have lA := blk_lt2 b2 (heap_alloc_new _ (.cells #[.int .i64 0, .slice none 0 0, .slice none 0 0, .slice none 0 0] 44)); have hA := blk_below b2 (heap_alloc_new _ (.cells #[.int .i64 0, .slice none 0 0, .slice none 0 0, .slice none 0 0] 44)))) | (with_reducible (have lA := blk_lt2 b2 (blk_alloc (heap_alloc_new _ (.cells #[.int .i64 0, .slice none 0 0, .slice none 0 0, .slice none 0 0] 44)) (.cells #[.bool false, .slice none 0 0, .slice none 0 0, .slice none 0 0] 50)); have hA := blk_below b2 (blk_alloc (heap_alloc_new _ (.cells #[.int .i64 0, .slice none 0 0, .slice none 0 0, .slice none 0 0] 44)) (.cells #[.bool false, .slice none 0 0, .slice none 0 0, .slice none 0 0] 50)))) | (with_reducible (have lA := blk_lt2 b2 (drew_fact hA); have hA := blk_below b2 (drew_fact hA))) | (with_reducible (have lA := blk_lt2 b2 (drew_fact (blk_alloc hA _)); have hA := blk_below b2 (drew_fact (blk_alloc hA _)))) | (with_reducible (have lA := blk_lt2 b2 (drew_fact (heap_alloc_at _ (.cells #[.int .i64 0, .slice none 0 0, .slice none 0 0, .slice none 0 0] 44) _ (World.size_alloc _ _).symm)); have hA := blk_below b2 (drew_fact (heap_alloc_at _ (.cells #[.int .i64 0, .slice none 0 0, .slice none 0 0, .slice none 0 0] 44) _ (World.size_alloc _ _).symm)))) | (with_reducible (have lA := blk_lt2 b2 (drew_fact (heap_alloc_new _ (.cells #[.int .i64 0, .slice none 0 0, .slice none 0 0, .slice none 0 0] 44))); have hA := blk_below b2 (drew_fact (heap_alloc_new _ (.cells #[.int .i64 0, .slice none 0 0, .slice none 0 0, .slice none 0 0] 44))))) | (with_reducible (have lA := blk_lt2 b2 (drew_fact (blk_alloc (heap_alloc_new _ (.cells #[.int .i64 0, .slice none 0 0, .slice none 0 0, .slice none 0 0] 44)) (.cells #[.bool false, .slice none 0 0, .slice none 0 0, .slice none 0 0] 50))); have hA := blk_below b2 (drew_fact (blk_alloc (heap_alloc_new _ (.cells #[.int .i64 0, .slice none 0 0, .slice none 0 0, .slice none 0 0] 44)) (.cells #[.bool false, .slice none 0 0, .slice none 0 0, .slice none 0 0] 50))))) | skip); (first | (with_reducible (have lB := blk_lt2 b2 hB; have hB := blk_below b2 hB)) | (with_reducible (have lB := blk_lt2 b2 (blk_alloc hB _); have hB := blk_below b2 (blk_alloc hB _))) | (with_reducible (have lB := blk_lt2 b2 (heap_alloc_at _ (.cells #[.bool false, .slice none 0 0, .slice none 0 0, .slice none 0 0] 50) _ (World.size_alloc _ _).symm); have hB := blk_below b2 (heap_alloc_at _ (.cells #[.bool false, .slice none 0 0, .slice none 0 0, .slice none 0 0] 50) _ (World.size_alloc _ _).symm))) | (with_reducible (have lB := blk_lt2 b2 (heap_alloc_new _ (.cells #[.bool false, .slice none 0 0, .slice none 0 0, .slice none 0 0] 50)); have hB := blk_below b2 (heap_alloc_new _ (.cells #[.bool false, .slice none 0 0, .slice none 0 0, .slice none 0 0] 50)))) | (with_reducible (have lB := blk_lt2 b2 (blk_alloc (heap_alloc_new _ (.cells #[.bool false, .slice none 0 0, .slice none 0 0, .slice none 0 0] 50)) (.cells #[.int .i64 0, .slice none 0 0, .slice none 0 0, .slice none 0 0] 44)); have hB := blk_below b2 (blk_alloc (heap_alloc_new _ (.cells #[.bool false, .slice none 0 0, .slice none 0 0, .slice none 0 0] 50)) (.cells #[.int .i64 0, .slice none 0 0, .slice none 0 0, .slice none 0 0] 44)))) | (with_reducible (have lB := blk_lt2 b2 (drew_fact hB); have hB := blk_below b2 (drew_fact hB))) | (with_reducible (have lB := blk_lt2 b2 (drew_fact (blk_alloc hB _)); have hB := blk_below b2 (drew_fact (blk_alloc hB _)))) | (with_reducible (have lB := blk_lt2 b2 (drew_fact (heap_alloc_at _ (.cells #[.bool false, .slice none 0 0, .slice none 0 0, .slice none 0 0] 50) _ (World.size_alloc _ _).symm)); have hB := blk_below b2 (drew_fact (heap_alloc_at _ (.cells #[.bool false, .slice none 0 0, .slice none 0 0, .slice none 0 0] 50) _ (World.size_alloc _ _).symm)))) | (with_reducible (have lB := blk_lt2 b2 (drew_fact (heap_alloc_new _ (.cells #[.bool false, .slice none 0 0, .slice none 0 0, .slice none 0 0] 50))); have hB := blk_below b2 (drew_fact (heap_alloc_new _ (.cells #[.bool false, .slice none 0 0, .slice none 0 0, .slice none 0 0] 50))))) | (with_reducible (have lB := blk_lt2 b2 (drew_fact (blk_alloc (heap_alloc_new _ (.cells #[.bool false, .slice none 0 0, .slice none 0 0, .slice none 0 0] 50)) (.cells #[.int .i64 0, .slice none 0 0, .slice none 0 0, .slice none 0 0] 44))); have hB := blk_below b2 (drew_fact (blk_alloc (heap_alloc_new _ (.cells #[.bool false, .slice none 0 0, .slice none 0 0, .slice none 0 0] 50)) (.cells #[.int .i64 0, .slice none 0 0, .slice none 0 0, .slice none 0 0] 44))))) | skip); (first | (with_reducible (have fA := blk_free hA; have yA0 := blk_cell hA 0 _ rfl; have yA1 := blk_cell hA 1 _ rfl; have yA2 := blk_cell hA 2 _ rfl; have yA3 := blk_cell hA 3 _ rfl)) | skip); (first | (with_reducible (have fB := blk_free hB; have yB0 := blk_cell hB 0 _ rfl; have yB1 := blk_cell hB 1 _ rfl; have yB2 := blk_cell hB 2 _ rfl; have yB3 := blk_cell hB 3 _ rfl)) | skip); (first | (with_reducible (have fAB := blk_free (blk_alloc hA (.cells #[.bool false, .slice none 0 0, .slice none 0 0, .slice none 0 0] 50)); have yAB0 := blk_cell (blk_alloc hA (.cells #[.bool false, .slice none 0 0, .slice none 0 0, .slice none 0 0] 50)) 0 _ rfl; have yAB1 := blk_cell (blk_alloc hA (.cells #[.bool false, .slice none 0 0, .slice none 0 0, .slice none 0 0] 50)) 1 _ rfl; have yAB2 := blk_cell (blk_alloc hA (.cells #[.bool false, .slice none 0 0, .slice none 0 0, .slice none 0 0] 50)) 2 _ rfl; have yAB3 := blk_cell (blk_alloc hA (.cells #[.bool false, .slice none 0 0, .slice none 0 0, .slice none 0 0] 50)) 3 _ rfl)) | skip); (first | (with_reducible (have fBA := blk_free (blk_alloc hB (.cells #[.int .i64 0, .slice none 0 0, .slice none 0 0, .slice none 0 0] 44)); have yBA0 := blk_cell (blk_alloc hB (.cells #[.int .i64 0, .slice none 0 0, .slice none 0 0, .slice none 0 0] 44)) 0 _ rfl; have yBA1 := blk_cell (blk_alloc hB (.cells #[.int .i64 0, .slice none 0 0, .slice none 0 0, .slice none 0 0] 44)) 1 _ rfl; have yBA2 := blk_cell (blk_alloc hB (.cells #[.int .i64 0, .slice none 0 0, .slice none 0 0, .slice none 0 0] 44)) 2 _ rfl; have yBA3 := blk_cell (blk_alloc hB (.cells #[.int .i64 0, .slice none 0 0, .slice none 0 0, .slice none 0 0] 44)) 3 _ rfl)) | skip); (first | (with_reducible (have fBN := blk_free (blk_alloc hB (.cells #[.int .i64 2, .slice x'.A 2 x'.c, .slice x'.SA 1 x'.sc, .slice x'.B n2 x'.d] 44)); have yBN0 := blk_cell (blk_alloc hB (.cells #[.int .i64 2, .slice x'.A 2 x'.c, .slice x'.SA 1 x'.sc, .slice x'.B n2 x'.d] 44)) 0 _ rfl; have yBN1 := blk_cell (blk_alloc hB (.cells #[.int .i64 2, .slice x'.A 2 x'.c, .slice x'.SA 1 x'.sc, .slice x'.B n2 x'.d] 44)) 1 _ rfl; have yBN2 := blk_cell (blk_alloc hB (.cells #[.int .i64 2, .slice x'.A 2 x'.c, .slice x'.SA 1 x'.sc, .slice x'.B n2 x'.d] 44)) 2 _ rfl; have yBN3 := blk_cell (blk_alloc hB (.cells #[.int .i64 2, .slice x'.A 2 x'.c, .slice x'.SA 1 x'.sc, .slice x'.B n2 x'.d] 44)) 3 _ rfl)) | skip); (first | (with_reducible (have fBS := blk_free (blk_other4 hA hB (.int .i64 2) (.slice x'.A 2 x'.c) (.slice x'.SA 1 x'.sc) (.slice x'.B n2 x'.d)); have yBS0 := blk_cell (blk_other4 hA hB (.int .i64 2) (.slice x'.A 2 x'.c) (.slice x'.SA 1 x'.sc) (.slice x'.B n2 x'.d)) 0 _ rfl; have yBS1 := blk_cell (blk_other4 hA hB (.int .i64 2) (.slice x'.A 2 x'.c) (.slice x'.SA 1 x'.sc) (.slice x'.B n2 x'.d)) 1 _ rfl; have yBS2 := blk_cell (blk_other4 hA hB (.int .i64 2) (.slice x'.A 2 x'.c) (.slice x'.SA 1 x'.sc) (.slice x'.B n2 x'.d)) 2 _ rfl; have yBS3 := blk_cell (blk_other4 hA hB (.int .i64 2) (.slice x'.A 2 x'.c) (.slice x'.SA 1 x'.sc) (.slice x'.B n2 x'.d)) 3 _ rfl)) | skip); (first | (with_reducible (have fBF := blk_free (blk_other4 (blk_alloc hA (.cells #[.bool false, .slice none 0 0, .slice none 0 0, .slice none 0 0] 50)) (heap_alloc_new _ (.cells #[.bool false, .slice none 0 0, .slice none 0 0, .slice none 0 0] 50)) (.int .i64 2) (.slice x'.A 2 x'.c) (.slice x'.SA 1 x'.sc) (.slice x'.B n2 x'.d)); have yBF0 := blk_cell (blk_other4 (blk_alloc hA (.cells #[.bool false, .slice none 0 0, .slice none 0 0, .slice none 0 0] 50)) (heap_alloc_new _ (.cells #[.bool false, .slice none 0 0, .slice none 0 0, .slice none 0 0] 50)) (.int .i64 2) (.slice x'.A 2 x'.c) (.slice x'.SA 1 x'.sc) (.slice x'.B n2 x'.d)) 0 _ rfl; have yBF1 := blk_cell (blk_other4 (blk_alloc hA (.cells #[.bool false, .slice none 0 0, .slice none 0 0, .slice none 0 0] 50)) (heap_alloc_new _ (.cells #[.bool false, .slice none 0 0, .slice none 0 0, .slice none 0 0] 50)) (.int .i64 2) (.slice x'.A 2 x'.c) (.slice x'.SA 1 x'.sc) (.slice x'.B n2 x'.d)) 1 _ rfl; have yBF2 := blk_cell (blk_other4 (blk_alloc hA (.cells #[.bool false, .slice none 0 0, .slice none 0 0, .slice none 0 0] 50)) (heap_alloc_new _ (.cells #[.bool false, .slice none 0 0, .slice none 0 0, .slice none 0 0] 50)) (.int .i64 2) (.slice x'.A 2 x'.c) (.slice x'.SA 1 x'.sc) (.slice x'.B n2 x'.d)) 2 _ rfl; have yBF3 := blk_cell (blk_other4 (blk_alloc hA (.cells #[.bool false, .slice none 0 0, .slice none 0 0, .slice none 0 0] 50)) (heap_alloc_new _ (.cells #[.bool false, .slice none 0 0, .slice none 0 0, .slice none 0 0] 50)) (.int .i64 2) (.slice x'.A 2 x'.c) (.slice x'.SA 1 x'.sc) (.slice x'.B n2 x'.d)) 3 _ rfl)) | skip))
            | fail)
          all_goals go_wp2_with fail
          all_goals go_meet
          all_goals (first
            | with_reducible exact ⟨_, _, x', a, rfl, rfl, rfl, done1 b2r hT hNx hWB⟩
            | with_reducible exact ⟨_, _, x', a, rfl, rfl, rfl, done2 b2r hT hNx hWB⟩
            | with_reducible exact ⟨_, _, x', a, rfl, rfl, rfl, done3 b2r hT hNa hNx hWB hA lA (by assumption) _ _ _ _⟩
            | with_reducible exact ⟨_, _, x', a, rfl, rfl, rfl, done4 b2r hT hNa hNx hWB hA lA (by assumption) hB lB (by assumption)⟩
            | with_reducible exact ⟨_, _, x', a, rfl, rfl, rfl, done5 b2r hT hNa hNx hWB hB lB (by assumption)⟩
            | trace_state)
        case rest =>
          obtain ⟨gA, gB, x', a, rfl, rfl, rfl, hD⟩ := hcut
          have hBg := blk_below hD.bel hBi
          obtain ⟨hDA, hDB, hT, hbc, hgA, hgB, hNx⟩ := hD
          have hckc := (hbc.cell (cell_lt ck)).trans ck
          have hc6c := (hbc.cell (cell_lt c6r)).trans c6r
          have hVc := hV6r.below hbc
          have HM3 := Lib.hid (show ∀ w', Below wc.heap.size wc w' → (fun w' : World => w'.cell? ⟨g, 0, none⟩ = some (.int .i64 2) ∧ w'.cell? ⟨g, 1, none⟩ = some (.slice xi.A 2 xi.c) ∧ w'.cell? ⟨g, 2, none⟩ = some (.slice xi.SA 1 xi.sc) ∧ w'.cell? ⟨g, 3, none⟩ = some (.slice xi.B n xi.d) ∧ w'.cell? ⟨gB, 0, none⟩ = some (.bool acc) ∧ w'.cell? ⟨gB, 1, none⟩ = some (.slice a.PA a.pn a.pc) ∧ w'.cell? ⟨gB, 2, none⟩ = some (.slice a.VA bn a.vc) ∧ w'.cell? ⟨gB, 3, none⟩ = some (.slice a.RA a.rn a.rc) ∧ w'.cell? (ad5.add i) = some (.int .i64 k) ∧ w'.cell? (ad6.add i) = some (.slice VA bn vc)) w' from fun w' h =>
            ⟨blk_cell (blk_below h hBg) 0 _ rfl, blk_cell (blk_below h hBg) 1 _ rfl, blk_cell (blk_below h hBg) 2 _ rfl, blk_cell (blk_below h hBg) 3 _ rfl, blk_cell (blk_below h hDB) 0 _ rfl, blk_cell (blk_below h hDB) 1 _ rfl, blk_cell (blk_below h hDB) 2 _ rfl, blk_cell (blk_below h hDB) 3 _ rfl, (h.cell (cell_lt hckc)).trans hckc, (h.cell (cell_lt hc6c)).trans hc6c⟩)
          have hR3 : Below wc.heap.size wc wc := Below.refl _ _
          have hR3d : Below wc.heap.size wc wc.drew := hR3.drew
          have S0 := HM3.out _ hR3
          have S0d := HM3.out _ hR3d
          have hxc := HOK.out _ hbc
          have HX3 := Lib.hid (show ∀ w', Below wc.heap.size wc w' → ExB w' L xi from fun w' h => hxc.below h)
          have HT3 := Lib.hid (show ∀ w', Below wc.heap.size wc w' → Told w' L L2 k acc bl x' a from fun w' h => hT.below h)
          have HV3 := Lib.hid (show ∀ w', Below wc.heap.size wc w' → Ints w' VA bn bl from fun w' h => hVc.below h)
          have HA3 := Lib.hid (show ∀ w', Below wc.heap.size wc w' → Ints w' a.VA bn bl from fun w' h => by
            have h1 := (hT.below h).av.v
            rw [hT.v, hT.vn, HBN.out] at h1
            exact h1)
          have hsd : (decide (bl = bl)) = true := decide_eq_true rfl
          rcases HAC.out with ⟨rfl, rfl⟩ | ⟨rfl, hb0⟩
          · clear HAC
            go_upto_region 11 with fail
            go_region_held3 (fun w' : World => w'.cell? ⟨g, 0, none⟩ = some (.int .i64 2) ∧ w'.cell? ⟨g, 1, none⟩ = some (.slice xi.A 2 xi.c) ∧ w'.cell? ⟨g, 2, none⟩ = some (.slice xi.SA 1 xi.sc) ∧ w'.cell? ⟨g, 3, none⟩ = some (.slice xi.B n xi.d) ∧ w'.cell? ⟨gB, 0, none⟩ = some (.bool true) ∧ w'.cell? ⟨gB, 1, none⟩ = some (.slice a.PA a.pn a.pc) ∧ w'.cell? ⟨gB, 2, none⟩ = some (.slice a.VA 0 a.vc) ∧ w'.cell? ⟨gB, 3, none⟩ = some (.slice a.RA a.rn a.rc) ∧ w'.cell? (ad5.add i) = some (.int .i64 k) ∧ w'.cell? (ad6.add i) = some (.slice VA 0 vc))
              (first | with_reducible exact S3 | with_reducible exact S2 | with_reducible exact S1 | with_reducible exact S0d | with_reducible exact S0 | fail)
              (first
                | (go_at_call 93; refine (sameInts_any a.VA VA 0 0 a.vc vc bl bl _ (HA3.out _ hR3d) (HV3.out _ hR3d) hbn9 hbn9).mono ?_; rintro e w3 ⟨rfl, b3⟩; rw [hsd]; have b3r := bel hR3d b3; have S3 := HM3.out _ b3r)
                | (go_at_call 92; refine (of92_any k _).mono ?_; rintro e w4 ⟨rfl, b4⟩; have b4r := bel b3r b4; have S1 := HM3.out _ b4r)
                | (go_at_call 37; refine (check_ex _ L L2 k true bl xi x' a (HX3.out _ b4r) hL3 (HT3.out _ b4r) (n := n) (bn := 0) HN.out HBN.out HSEE.out).mono ?_; rintro e w5 ⟨rfl, b5⟩; have b5r := bel b4r b5; have S2 := HM3.out _ b5r)
                | fail)
            have bcr := bel hbc b5r
            have hG5 := blk_below b5r hBg
            have hA5 := blk_below b5r hDA
            have f0 := blk_free hG5
            have g0 := blk_cell hG5 0 _ rfl
            have g1 := blk_cell hG5 1 _ rfl
            have g2 := blk_cell hG5 2 _ rfl
            have g3 := blk_cell hG5 3 _ rfl
            have y0 := blk_cell hA5 0 _ rfl
            have y1 := blk_cell hA5 1 _ rfl
            have y2 := blk_cell hA5 2 _ rfl
            have y3 := blk_cell hA5 3 _ rfl
            have hx5 := (HT3.out _ b5r).bk
            clear S0 S0d S1 S2 S3
            go_wp2_with fail
            go_roundw
            case rel =>
              refine ⟨i + 1, x', by go_num, hlt, ?_, ?_, ?_, ?_⟩
              · rw [← HL2.out, HN2.out]
                exact St4.at_ hG5 _ _ _ _
              · rw [← HL2.out]
                exact hx5.stays hNx (St4.stays (Stays.below _ (Below.refl _ _)) (.inl hgr) _ _ _ _)
              · exact St4.stays (hst.trans (Stays.below _ bcr)) (.inl hgW) _ _ _ _
              · exact St4.below (bel hbr bcr) hgw _ _ _ _
            case measure => simp [intOf]; omega
          · clear HAC
            have e1 : ((bn : Int) == 0) = false := by simp; omega
            have e2 : decide ((bn : Int) = 0) = false := by simp; omega
            have e3 : decide (bn = 0) = false := by simp; omega
            have e4 : (bn == 0) = false := by simp; omega
            go_upto_region 11 with fail
            go_region_held3 (fun w' : World => w'.cell? ⟨g, 0, none⟩ = some (.int .i64 2) ∧ w'.cell? ⟨g, 1, none⟩ = some (.slice xi.A 2 xi.c) ∧ w'.cell? ⟨g, 2, none⟩ = some (.slice xi.SA 1 xi.sc) ∧ w'.cell? ⟨g, 3, none⟩ = some (.slice xi.B n xi.d) ∧ w'.cell? ⟨gB, 0, none⟩ = some (.bool false) ∧ w'.cell? ⟨gB, 1, none⟩ = some (.slice a.PA a.pn a.pc) ∧ w'.cell? ⟨gB, 2, none⟩ = some (.slice a.VA bn a.vc) ∧ w'.cell? ⟨gB, 3, none⟩ = some (.slice a.RA a.rn a.rc) ∧ w'.cell? (ad5.add i) = some (.int .i64 k) ∧ w'.cell? (ad6.add i) = some (.slice VA bn vc))
              (first | with_reducible exact S3 | with_reducible exact S2 | with_reducible exact S1 | with_reducible exact S0d | with_reducible exact S0 | fail)
              (first
                | (go_at_call 93; refine (sameInts_any a.VA VA bn bn a.vc vc bl bl _ (HA3.out _ hR3d) (HV3.out _ hR3d) hbn9 hbn9).mono ?_; rintro e w3 ⟨rfl, b3⟩; rw [hsd]; have b3r := bel hR3d b3; have S3 := HM3.out _ b3r)
                | (go_at_call 92; refine (of92_any k _).mono ?_; rintro e w4 ⟨rfl, b4⟩; have b4r := bel b3r b4; have S1 := HM3.out _ b4r)
                | (go_at_call 37; refine (check_ex _ L L2 k false bl xi x' a (HX3.out _ b4r) hL3 (HT3.out _ b4r) (n := n) (bn := bn) HN.out HBN.out HSEE.out).mono ?_; rintro e w5 ⟨rfl, b5⟩; have b5r := bel b4r b5; have S2 := HM3.out _ b5r)
                | fail)
            have bcr := bel hbc b5r
            have hG5 := blk_below b5r hBg
            have hA5 := blk_below b5r hDA
            have f0 := blk_free hG5
            have g0 := blk_cell hG5 0 _ rfl
            have g1 := blk_cell hG5 1 _ rfl
            have g2 := blk_cell hG5 2 _ rfl
            have g3 := blk_cell hG5 3 _ rfl
            have y0 := blk_cell hA5 0 _ rfl
            have y1 := blk_cell hA5 1 _ rfl
            have y2 := blk_cell hA5 2 _ rfl
            have y3 := blk_cell hA5 3 _ rfl
            have hx5 := (HT3.out _ b5r).bk
            clear S0 S0d S1 S2 S3
            go_wp2_with fail
            go_roundw
            case rel =>
              refine ⟨i + 1, x', by go_num, hlt, ?_, ?_, ?_, ?_⟩
              · rw [← HL2.out, HN2.out]
                exact St4.at_ hG5 _ _ _ _
              · rw [← HL2.out]
                exact hx5.stays hNx (St4.stays (Stays.below _ (Below.refl _ _)) (.inl hgr) _ _ _ _)
              · exact St4.stays (hst.trans (Stays.below _ bcr)) (.inl hgW) _ _ _ _
              · exact St4.below (bel hbr bcr) hgw _ _ _ _
            case measure => simp [intOf]; omega
      · obtain rfl : i = 5 := by omega
        have hl5 : (K.rs33 5).length = 3 := rfl
        rw [hl5] at hBi
        have y0 := blk_cell hBi 0 _ rfl
        have y1 := blk_cell hBi 1 _ rfl
        have y2 := blk_cell hBi 2 _ rfl
        have y3 := blk_cell hBi 3 _ rfl
        clear hl5
        go_wp2_with fail
        go_ret
        exact ⟨rfl, hbr⟩
end Go.Proofs.YtippdjmpkafifaaGreat
