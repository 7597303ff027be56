/-
The walk of the law RouteBest.
-/
import Derived.Test.YtjcdpfpdjcannaaPS
import Derived.Test.YtjcdpfpdjcannaaVF
namespace Go.Proofs.Ytjcdpfpdjcannaa
open Go.RowKit

set_option maxRecDepth 100000 in
set_option maxHeartbeats 16000000 in
theorem best_law_any (x : C) (V : Option Addr) (vn vc : Nat) (v : List Int) (OA : Option Addr) (on oc : Nat) (o : List Int) (w : World) (hN : Roads w x.A x.n x.l) (hS0 : Ints w x.s.A x.s.n x.s.l) (hQ : Reqs w x.B x.m x.r) (hV : Ints w V vn v) (hvc : vn ≤ vc) (hO : Ints w OA on o) :
    Calls Try.prog 13 #[.agg #[.int .i64 x.nd, .slice x.A x.n x.c], .agg #[.int .i64 x.s.day, .int .i64 x.s.depot, .int .i64 x.s.start, .int .i64 x.s.end_, .int .i64 x.s.tare, .slice x.s.A x.s.n x.s.c], .slice x.B x.m x.d, .slice V vn vc, .slice OA on oc] w fun e w' => e = .returned (.bool true) ∧ Below w.heap.size w w' := by
  obtain ⟨w1, hw1⟩ : ∃ w1 : World, w1 = w.alloc (.cells #[.int .i64 x.nd, .slice x.A x.n x.c] 24) := ⟨_, rfl⟩
  obtain ⟨w2, hw2⟩ : ∃ w2 : World, w2 = w1.alloc (.cells #[.int .i64 x.s.day, .int .i64 x.s.depot, .int .i64 x.s.start, .int .i64 x.s.end_, .int .i64 x.s.tare, .slice x.s.A x.s.n x.s.c] 27) := ⟨_, rfl⟩
  have z1 : w1.heap.size = w.heap.size + 1 := by rw [hw1]; exact World.size_alloc _ _
  have b01 : Below w.heap.size w w1 := by rw [hw1]; exact (Below.refl _ _).alloc (Nat.le_refl _) _
  have b12 : Below w1.heap.size w1 w2 := by rw [hw2]; exact (Below.refl _ _).alloc (Nat.le_refl _) _
  have hP : Net w2 w.heap.size x.nd x.A x.n x.c := by
    have h1 : Net w1 w.heap.size x.nd x.A x.n x.c := by rw [hw1]; exact Net.new _ _ _ _ _
    exact h1.below b12
  have hS : Shf w2 (w.heap.size + 1) x.s := by rw [← z1, hw2]; exact Shf.new _ _
  have hb := bel b01 b12
  go_enter Try.func13, Try.ntmps13
  go_wp2_with fail
  rw [← hw1, ← hw2]
  clear hw1 hw2 z1 b01 b12
  refine (sane31_any _).mono ?_
  rintro e w3 ⟨rfl, b3⟩
  have hP := hP.below b3
  have hS := hS.below b3
  have hb := bel hb b3
  clear b3
  have p0 := hP.c0
  have p1 := hP.c1
  obtain ⟨s0, s1, s2, s3, s4, s5⟩ := hS.cells
  go_wp2_with fail
  refine (few31_any x V vn vc _ (hQ.below hb)).mono ?_
  rintro e w4 ⟨rfl, b4⟩
  have hP := hP.below b4
  have hS := hS.below b4
  have hb := bel hb b4
  clear b4 p0 p1 s0 s1 s2 s3 s4 s5
  have p0 := hP.c0
  have p1 := hP.c1
  obtain ⟨s0, s1, s2, s3, s4, s5⟩ := hS.cells
  cases hf : K.few31 x.nd x.n x.s x.r vn
  · clear hf
    go_wp2_with fail
    go_ret
    exact ⟨rfl, hb⟩
  obtain ⟨hf0, hvs⟩ : K.few30 x.nd x.n x.s x.r = true ∧ K.size31 vn = true := by simpa [K.few31] using hf
  obtain ⟨hf1, hf2, hf3, hf4⟩ := K.few_parts hf0
  have hx : At w x := ⟨hN, hS0, hQ, by omega, by omega, by rw [hQ.1]; omega, fun q hq => by have := hf4 q hq; omega⟩
  have hm6 : x.m ≤ 6 := by rw [hQ.1]; exact hf3
  have hv20 : vn ≤ 20 := by simp only [K.size31, Bool.or_eq_true, Bool.and_eq_true, decide_eq_true_eq] at hvs; omega
  clear hf1 hf2 hf3 hf4 hf hf0 hvs
  by_cases hl6 : 20 < on
  · go_wp2_with fail
    go_ret
    exact ⟨rfl, hb⟩
  have hl6' : decide ((20 : Int) < (on : Int)) = false := by simp; omega
  go_wp2_with fail
  refine (right31_any x V vn vc v _ (hx.below hb) (hV.below hb) (by omega)).mono ?_
  rintro e w5 ⟨rfl, b5⟩
  have hP := hP.below b5
  have hS := hS.below b5
  have hb := bel hb b5
  clear b5 p0 p1 s0 s1 s2 s3 s4 s5
  have p0 := hP.c0
  have p1 := hP.c1
  obtain ⟨s0, s1, s2, s3, s4, s5⟩ := hS.cells
  cases hok : K.ok31 x.nd x.l x.s x.r v
  · clear hok
    go_wp2_with fail
    go_ret
    exact ⟨rfl, hb⟩
  have HOK := Lib.hid hok
  clear hok
  have hv6 : vn ≤ 6 := by rw [hV.1]; exact (K.ok31_parts HOK.out).2.2.2.2.1
  have HVN := Lib.hid hV.1
  go_wp2_with fail
  refine (best_any x V vn vc v _ (hx.below hb) (hV.below hb) hvc (by omega)).mono ?_
  rintro e w6 ⟨⟨A0, n0, c0, B0, m0, d0, rfl, hI0, hJ0⟩, b6⟩
  obtain ⟨Y, hY⟩ : ∃ Y, Y = K.bestOut x.nd x.l x.s x.r v := ⟨_, rfl⟩
  rw [← hY] at hI0 hJ0 ⊢
  have HYL := Lib.hid (show (Y.2 = 4 ∧ ∀ o : List Int, o.Perm v → (K.run x.nd x.l x.s x.r o).e ≠ 0) ∨ (Y.2 = 0 ∧ K.check x.nd x.l x.s x.r Y.1 = true ∧ K.inSet Y.1.stops v = true ∧ Y.1.times.length = Y.1.stops.length ∧ ∀ o : List Int, o.Perm v → (K.run x.nd x.l x.s x.r o).e = 0 → Y.1.end_ ≤ (K.run x.nd x.l x.s x.r o).tour.end_ ∧ (Y.1.end_ = (K.run x.nd x.l x.s x.r o).tour.end_ → K.lexle Y.1.stops o = true)) by
    rw [hY]
    cases hbs : K.best x.nd x.l x.s x.r v with
    | none =>
      rw [K.bestOut_none HOK.out hbs]
      refine .inl ⟨rfl, fun o hp he => ?_⟩
      obtain ⟨t, ht, -⟩ := K.best_law HOK.out hp he
      rw [hbs] at ht; cases ht
    | some t =>
      rw [K.bestOut_some HOK.out hbs]
      obtain ⟨h1, h2, h5⟩ := K.best_tour HOK.out hbs
      refine .inr ⟨rfl, ?_, (K.inSet_perm HOK.out (by rw [← hQ.1]; omega)).2 h1, h5, fun o hp he => ?_⟩
      · unfold K.check; rw [h2]; simp
      · obtain ⟨t', ht, h3⟩ := K.best_law HOK.out hp he
        rw [hbs] at ht
        injection ht with ht
        subst ht
        exact h3)
  clear hY
  obtain ⟨w7, hw7⟩ : ∃ w7 : World, w7 = w6.alloc (.cells #[.int .i64 0, .slice A0 n0 c0, .slice B0 m0 d0, .int .i64 Y.1.end_] 30) := ⟨_, rfl⟩
  have b67 : Below w6.heap.size w6 w7 := by rw [hw7]; exact (Below.refl _ _).alloc (Nat.le_refl _) _
  have hT : TBlk w7 w6.heap.size 0 (.slice A0 n0 c0) (.slice B0 m0 d0) Y.1.end_ := by rw [hw7]; exact heap_alloc_new _ _
  have hP := hP.below (bel b6 b67)
  have hS := hS.below (bel b6 b67)
  have hb := bel hb (bel b6 b67)
  have hI0 := hI0.below b67
  have hJ0 := hJ0.below b67
  clear b6 b67 p0 p1 s0 s1 s2 s3 s4 s5
  have p0 := hP.c0
  have p1 := hP.c1
  obtain ⟨s0, s1, s2, s3, s4, s5⟩ := hS.cells
  obtain ⟨t0, t1, t2, t3⟩ := hT.cells
  have HP := Lib.hid hP
  have HS := Lib.hid hS
  have HB := Lib.hid hb
  have HT := Lib.hid hT
  have HI0 := Lib.hid hI0
  have HJ0 := Lib.hid hJ0
  rw [hw7] at p0 p1 s0 s1 s2 s3 s4 s5 t0 t1 t2 t3
  clear hP hS hb hT hI0 hJ0
  have hno : ∀ (R : K.Res), R = K.run x.nd x.l x.s x.r o → Y.2 = 4 → o.Perm v → (R.e == 0) = false := fun R hR h4 hp => by
    rcases HYL.out with ⟨-, h⟩ | ⟨h, -⟩
    · rw [hR]; simpa using h o hp
    · omega
  rcases HYL.out with ⟨hy4, hyn⟩ | ⟨hy0, hyc, hyi, hyt, hyl⟩
  · have c1 : (Y.2 != 0) = true := by simp [hy4]
    have c2 : (Y.2 != 4) = false := by simp [hy4]
    have c3 : (Y.2 == 0) = false := by simp [hy4]
    have HYN := Lib.hid hyn
    clear hno hyn hy4
    go_wp2_with fail
    rw [← hw7]
    refine (inSet_any OA V on vn oc vc o v _ (hO.below HB.out) (hV.below HB.out) (by omega) (by omega)).mono ?_
    rintro e w8 ⟨rfl, b8⟩
    cases hin : K.inSet o v
    · clear hin
      go_wp2_with fail
      go_ret
      exact ⟨rfl, bel HB.out b8⟩
    have hp := (K.inSet_perm HOK.out (by rw [← hQ.1]; omega)).1 hin
    have hne := HYN.out o hp
    have hP := HP.out.below b8
    have hS := HS.out.below b8
    have hb := bel HB.out b8
    clear hin p0 p1 s0 s1 s2 s3 s4 s5 t0 t1 t2 t3
    have p0 := hP.c0
    have p1 := hP.c1
    obtain ⟨s0, s1, s2, s3, s4, s5⟩ := hS.cells
    go_wp2_with fail
    refine (run_any x OA on oc o _ (hx.below hb) (hO.below hb) (by omega)).mono ?_
    rintro e w9 ⟨⟨A1, n1, c4, A2, n2, c5, rfl, -, -, -⟩, b9⟩
    obtain ⟨R, hR⟩ : ∃ R, R = K.run x.nd x.l x.s x.r o := ⟨_, rfl⟩
    rw [← hR] at hne ⊢
    have c6 : (R.e != 0) = true := by simpa using hne
    clear hR hne
    go_wp2_with fail
    go_ret
    exact ⟨rfl, bel hb (bel b9 ((Below.refl _ _).alloc (Nat.le_refl _) _))⟩
  · have c1 : (Y.2 != 0) = false := by simp [hy0]
    have c2 : (Y.2 != 4) = true := by simp [hy0]
    have c3 : (Y.2 == 0) = true := by simp [hy0]
    have HYC := Lib.hid hyc
    have HYI := Lib.hid hyi
    have HYL2 := Lib.hid hyl
    have hn0 : n0 ≤ 6 := by
      rw [HI0.out.1, ((K.inSet_perm HOK.out (by rw [← hQ.1]; omega)).1 hyi).length_eq, ← HVN.out]; exact hv6
    have hm0 : m0 ≤ 6 := by rw [HJ0.out.1, hyt, ← HI0.out.1]; exact hn0
    clear hno hyl hyc hyi hyt HYL hy0
    go_wp2_with fail
    rw [← hw7]
    refine (tcheck_any x ⟨0, A0, n0, c0, B0, m0, d0, Y.1⟩ _ (hx.below HB.out) ⟨HI0.out, HJ0.out, by show n0 ≤ 1000000000; omega, by show m0 ≤ 1000000000; omega⟩ (by show n0 ≤ 100000; omega)).mono ?_
    rw [HYC.out]
    rintro e w8 ⟨rfl, b8⟩
    have hP := HP.out.below b8
    have hS := HS.out.below b8
    have hb := bel HB.out b8
    have hT := HT.out.below b8
    have hI0 := HI0.out.below b8
    have hJ0 := HJ0.out.below b8
    clear HP HS HB HT HI0 HJ0 hw7 p0 p1 s0 s1 s2 s3 s4 s5 t0 t1 t2 t3 b8
    have p0 := hP.c0
    have p1 := hP.c1
    obtain ⟨s0, s1, s2, s3, s4, s5⟩ := hS.cells
    obtain ⟨t0, t1, t2, t3⟩ := hT.cells
    go_wp2_with fail
    refine (inSet_any A0 V n0 vn c0 vc Y.1.stops v _ hI0 (hV.below hb) (by omega) (by omega)).mono ?_
    rw [HYI.out]
    rintro e w9 ⟨rfl, b9⟩
    have hP := hP.below b9
    have hS := hS.below b9
    have hb := bel hb b9
    have hT := hT.below b9
    have hI0 := hI0.below b9
    clear b9 p0 p1 s0 s1 s2 s3 s4 s5 t0 t1 t2 t3
    have p0 := hP.c0
    have p1 := hP.c1
    obtain ⟨s0, s1, s2, s3, s4, s5⟩ := hS.cells
    obtain ⟨t0, t1, t2, t3⟩ := hT.cells
    go_wp2_with fail
    refine (inSet_any OA V on vn oc vc o v _ (hO.below hb) (hV.below hb) (by omega) (by omega)).mono ?_
    rintro e wa ⟨rfl, ba⟩
    cases hin : K.inSet o v
    · clear hin
      go_wp2_with fail
      go_ret
      exact ⟨rfl, bel hb ba⟩
    have HIN := Lib.hid ((K.inSet_perm HOK.out (by rw [← hQ.1]; omega)).1 hin)
    have hno : n0 = on := by
      have h1 := HIN.out.length_eq
      have h2 := ((K.inSet_perm HOK.out (by rw [← hQ.1]; omega)).1 HYI.out).length_eq
      rw [hI0.1, h2, ← h1, ← hO.1]
    subst hno
    have hP := hP.below ba
    have hS := hS.below ba
    have hb := bel hb ba
    have hT := hT.below ba
    have hI0 := hI0.below ba
    clear hin ba p0 p1 s0 s1 s2 s3 s4 s5 t0 t1 t2 t3
    have p0 := hP.c0
    have p1 := hP.c1
    obtain ⟨s0, s1, s2, s3, s4, s5⟩ := hS.cells
    go_wp2_with fail
    refine (run_any x OA n0 oc o _ (hx.below hb) (hO.below hb) (by omega)).mono ?_
    rintro e wb ⟨⟨A1, n1, c4, A2, n2, c5, rfl, -, -, -⟩, bb⟩
    obtain ⟨R, hR⟩ : ∃ R, R = K.run x.nd x.l x.s x.r o := ⟨_, rfl⟩
    rw [← hR]
    obtain ⟨wc, hwc⟩ : ∃ wc : World, wc = wb.alloc (.cells #[.int .i64 0, .slice A1 n1 c4, .slice A2 n2 c5, .int .i64 R.tour.end_] 30) := ⟨_, rfl⟩
    have bbc : Below wb.heap.size wb wc := by rw [hwc]; exact (Below.refl _ _).alloc (Nat.le_refl _) _
    have hU : TBlk wc wb.heap.size 0 (.slice A1 n1 c4) (.slice A2 n2 c5) R.tour.end_ := by rw [hwc]; exact heap_alloc_new _ _
    have hT := hT.below (bel bb bbc)
    have hI0 := hI0.below (bel bb bbc)
    have hb := bel hb (bel bb bbc)
    clear bb bbc p0 p1 s0 s1 s2 s3 s4 s5 hP hS
    cases e1 : (R.e == 0)
    · have e1' : (R.e != 0) = true := by simp [bne, e1]
      clear hR
      go_wp2_with fail
      go_ret
      rw [← hwc]
      exact ⟨rfl, hb⟩
    have e1' : (R.e != 0) = false := by simp [bne, e1]
    obtain ⟨hle, hlex⟩ := HYL2.out o HIN.out (by rw [← hR]; simpa using e1)
    rw [← hR] at hle hlex
    have hle' : decide (R.tour.end_ < Y.1.end_) = false := by simp; omega
    obtain ⟨z, hz⟩ : ∃ z, (R.tour.end_ == Y.1.end_) = z := ⟨_, rfl⟩
    have HLX := Lib.hid (show z = true → K.lexle Y.1.stops o = true from fun h => hlex (by rw [h] at hz; exact (show R.tour.end_ = Y.1.end_ by simpa using hz).symm))
    have HYN := Lib.hid hI0.1
    have HON := Lib.hid hO.1
    clear hle hlex e1 hR
    obtain ⟨t0, t1, t2, t3⟩ := hT.cells
    obtain ⟨u0, u1, u2, u3⟩ := hU.cells
    have HU := Lib.hid hU
    rw [hwc] at t0 t1 t2 t3 u0 u1 u2 u3
    clear hU
    go_wp2_with fail
    rw [← hwc]
    clear hwc t0 t1 t2 t3 u0 u1 u2 u3
    go_loopw [17] (fun v17 wr => ∃ k : Nat, v17 = .int .i64 k ∧ k ≤ n0 ∧ Hid (z = true → K.lexle (Y.1.stops.drop k) (o.drop k) = true) ∧ Below wc.heap.size wc wr) (fun v17 _ => n0 - (intOf v17).toNat)
    case atStart => exact ⟨0, rfl, by omega, by show _ → _; rw [List.drop_zero, List.drop_zero]; exact HLX.out, Below.refl _ _⟩
    case round =>
      obtain ⟨k, rfl, hk, hr, hbr⟩ := hrel
      have hTr := hT.below hbr
      have hUr := HU.out.below hbr
      obtain ⟨t0, t1, t2, t3⟩ := hTr.cells
      obtain ⟨u0, u1, u2, u3⟩ := hUr.cells
      by_cases hlt : k < n0
      · have k0 : (0 : Int) ≤ (k : Int) := by omega
        have k1 : (k : Int) < (n0 : Int) := by omega
        cases z
        · go_wp2_with fail
          go_ret
          exact ⟨rfl, bel hb hbr⟩
        · obtain ⟨ado, y, rfl, hy, cy⟩ := (hO.below (bel hb hbr)).at_ hlt
          obtain ⟨adt, y2, rfl, hy2, cy2⟩ := (hI0.below hbr).at_ hlt
          have hlx := hr.out rfl
          rw [K.lexle_at hy2 hy] at hlx
          clear hr hy hy2
          cases e2 : (y == y2)
          · have hlt2 : decide (y2 < y) = true := by rw [if_neg (fun h => by rw [h] at e2; simp at e2)] at hlx; exact hlx
            have e3 : (y != y2) = true := by simp [bne, e2]
            clear hlx
            go_wp2_with fail
            go_quiet (fail)
            go_wp2_with fail
            go_quiet (fail)
            go_wp2_with fail
            go_ret
            exact ⟨rfl, below_drewN (below_drewN (bel hb hbr) _) _⟩
          · have HX := Lib.hid (show true = true → K.lexle (Y.1.stops.drop (k + 1)) (o.drop (k + 1)) = true from fun _ => by rw [if_pos (by simpa using (by simpa using e2 : y = y2).symm)] at hlx; exact hlx)
            have e3 : (y != y2) = false := by simp [bne, e2]
            clear hlx
            go_wp2_with fail
            go_quiet (fail)
            go_wp2_with fail
            go_roundw
            case rel => exact ⟨k + 1, by go_num, by omega, HX.out, below_drewN hbr _⟩
            case measure => simp [intOf]; omega
      · go_wp2_with fail
        go_ret
        exact ⟨rfl, bel hb hbr⟩
end Go.Proofs.Ytjcdpfpdjcannaa
