/-
The walk of the law RouteEarlier.
-/
import Derived.Test.YtjcdpfpdjcannaaPS
import Derived.Test.YtjcdpfpdjcannaaVE
namespace Go.Proofs.Ytjcdpfpdjcannaa
open Go.RowKit

set_option maxRecDepth 100000 in
set_option maxHeartbeats 16000000 in
theorem earlier_any (x : C) (V : Option Addr) (vn vc : Nat) (v : List Int) (OA : Option Addr) (on oc : Nat) (o : List Int) (w : World) (hN : Roads w x.A x.n x.l) (hS0 : Ints w x.s.A x.s.n x.s.l) (hQ : Reqs w x.B x.m x.r) (hV : Ints w V vn v) (hvc : vn ≤ vc) (hO : Ints w OA on o) :
    Calls Try.prog 12 #[.agg #[.int .i64 x.nd, .slice x.A x.n x.c], .agg #[.int .i64 x.s.day, .int .i64 x.s.depot, .int .i64 x.s.start, .int .i64 x.s.end_, .int .i64 x.s.tare, .slice x.s.A x.s.n x.s.c], .slice x.B x.m x.d, .slice V vn vc, .slice OA on oc] w fun e w' => e = .returned (.bool true) ∧ Below w.heap.size w w' := by
  obtain ⟨w1, hw1⟩ : ∃ w1 : World, w1 = w.alloc (.cells #[.int .i64 x.nd, .slice x.A x.n x.c] 24) := ⟨_, rfl⟩
  obtain ⟨w2, hw2⟩ : ∃ w2 : World, w2 = w1.alloc (.cells #[.int .i64 x.s.day, .int .i64 x.s.depot, .int .i64 x.s.start, .int .i64 x.s.end_, .int .i64 x.s.tare, .slice x.s.A x.s.n x.s.c] 27) := ⟨_, rfl⟩
  have z1 : w1.heap.size = w.heap.size + 1 := by rw [hw1]; exact World.size_alloc _ _
  have b01 : Below w.heap.size w w1 := by rw [hw1]; exact (Below.refl _ _).alloc (Nat.le_refl _) _
  have b12 : Below w1.heap.size w1 w2 := by rw [hw2]; exact (Below.refl _ _).alloc (Nat.le_refl _) _
  have hP : Net w2 w.heap.size x.nd x.A x.n x.c := by
    have h1 : Net w1 w.heap.size x.nd x.A x.n x.c := by rw [hw1]; exact Net.new _ _ _ _ _
    exact h1.below b12
  have hS : Shf w2 (w.heap.size + 1) x.s := by rw [← z1, hw2]; exact Shf.new _ _
  have hb := bel b01 b12
  go_enter Try.func12, Try.ntmps12
  go_wp2_with fail
  rw [← hw1, ← hw2]
  clear hw1 hw2 z1 b01 b12
  refine (sane31_any _).mono ?_
  rintro e w3 ⟨rfl, b3⟩
  have hP := hP.below b3
  have hS := hS.below b3
  have hb := bel hb b3
  clear b3
  have p0 := hP.c0
  have p1 := hP.c1
  obtain ⟨s0, s1, s2, s3, s4, s5⟩ := hS.cells
  go_wp2_with fail
  refine (few31_any x V vn vc _ (hQ.below hb)).mono ?_
  rintro e w4 ⟨rfl, b4⟩
  have hP := hP.below b4
  have hS := hS.below b4
  have hb := bel hb b4
  clear b4 p0 p1 s0 s1 s2 s3 s4 s5
  have p0 := hP.c0
  have p1 := hP.c1
  obtain ⟨s0, s1, s2, s3, s4, s5⟩ := hS.cells
  cases hf : K.few31 x.nd x.n x.s x.r vn
  · clear hf
    go_wp2_with fail
    go_ret
    exact ⟨rfl, hb⟩
  obtain ⟨hf0, hvs⟩ : K.few30 x.nd x.n x.s x.r = true ∧ K.size31 vn = true := by simpa [K.few31] using hf
  obtain ⟨hf1, hf2, hf3, hf4⟩ := K.few_parts hf0
  have hx : At w x := ⟨hN, hS0, hQ, by omega, by omega, by rw [hQ.1]; omega, fun q hq => by have := hf4 q hq; omega⟩
  have hm6 : x.m ≤ 6 := by rw [hQ.1]; exact hf3
  have hv20 : vn ≤ 20 := by simp only [K.size31, Bool.or_eq_true, Bool.and_eq_true, decide_eq_true_eq] at hvs; omega
  clear hf1 hf2 hf3 hf4 hf hf0 hvs
  by_cases hl6 : 6 < on
  · go_wp2_with fail
    go_ret
    exact ⟨rfl, hb⟩
  have hl6' : decide ((6 : Int) < (on : Int)) = false := by simp; omega
  go_wp2_with fail
  refine (right31_any x V vn vc v _ (hx.below hb) (hV.below hb) (by omega)).mono ?_
  rintro e w5 ⟨rfl, b5⟩
  have hP := hP.below b5
  have hS := hS.below b5
  have hb := bel hb b5
  clear b5 p0 p1 s0 s1 s2 s3 s4 s5
  have p0 := hP.c0
  have p1 := hP.c1
  obtain ⟨s0, s1, s2, s3, s4, s5⟩ := hS.cells
  cases hok : K.ok31 x.nd x.l x.s x.r v
  · clear hok
    go_wp2_with fail
    go_ret
    exact ⟨rfl, hb⟩
  have HOK := Lib.hid hok
  clear hok
  have hv6 : vn ≤ 6 := by rw [hV.1]; exact (K.ok31_parts HOK.out).2.2.2.2.1
  go_wp2_with fail
  refine (isSet_any OA on oc o (x.m : Int) _ (hO.below hb) (by omega)).mono ?_
  rintro e w6 ⟨rfl, b6⟩
  have hP := hP.below b6
  have hS := hS.below b6
  have hb := bel hb b6
  clear b6 p0 p1 s0 s1 s2 s3 s4 s5
  have p0 := hP.c0
  have p1 := hP.c1
  obtain ⟨s0, s1, s2, s3, s4, s5⟩ := hS.cells
  cases hset : T.isSet (x.m : Int) o
  · clear hset
    go_wp2_with fail
    go_ret
    exact ⟨rfl, hb⟩
  obtain ⟨hset1, hset2⟩ := T.isSet_iff.1 hset
  have HRG := Lib.hid hset1
  have HND := Lib.hid hset2
  clear hset hset1 hset2
  by_cases ho0 : on = 0
  · have ho0' : ((on : Int) == 0) = true := by simp [ho0]
    go_wp2_with fail
    go_ret
    exact ⟨rfl, hb⟩
  have ho0' : ((on : Int) == 0) = false := by simp; omega
  have HON := Lib.hid hO.1
  have HVN := Lib.hid hV.1
  go_wp2_with fail
  go_loopw [12, 13, 14] (fun v12 v13 v14 wr => ∃ (k b p : Nat), v12 = .int .i64 b ∧ v13 = .int .i64 p ∧ v14 = .int .i64 k ∧ k ≤ on ∧ b ≤ 64 * k ∧ Hid (K.bitsGo v o 0 0 = K.bitsGo v (o.drop k) (b : Int) (p : Int)) ∧ Below w6.heap.size w6 wr) (fun _ _ v14 _ => on - (intOf v14).toNat)
  case atStart => exact ⟨0, 0, 0, rfl, rfl, rfl, by omega, by omega, by show _ = _; rw [List.drop_zero]; rfl, Below.refl _ _⟩
  case round =>
    obtain ⟨k, b, p, rfl, rfl, rfl, hk, hb64, hr, hbr⟩ := hrel
    by_cases hlt : k < on
    · obtain ⟨ado, y, rfl, hy, cyw⟩ := hO.at_ hlt
      have HS := Lib.hid (hr.out.trans (K.bitsGo_at (v := v) hy (b : Int) (p : Int)))
      have k0 : (0 : Int) ≤ (k : Int) := by omega
      have k1 : (k : Int) < (on : Int) := by omega
      clear hy hr
      go_wp2_with fail
      go_loopw [15, 16] (fun v15 v16 wi => ∃ (i : Nat) (q : Int), v16 = .int .i64 i ∧ v15 = .int .i64 q ∧ i ≤ vn ∧ Hid (K.place v y = K.placeGo y (v.drop i) i q) ∧ Below w6.heap.size w6 wi) (fun _ v16 _ => vn - (intOf v16).toNat)
      case atStart => exact ⟨0, -1, rfl, rfl, by omega, by show _ = _; rw [List.drop_zero]; rfl, hbr⟩
      case round =>
        clear hbr
        obtain ⟨i, q, rfl, rfl, hi, hq, hbr⟩ := hrel
        have hbw := bel hb hbr
        by_cases hlti : i < vn
        · obtain ⟨adv, z, rfl, hz, cz⟩ := (hV.below hbw).at_ hlti
          have cy := (hbw.cell (cell_lt cyw)).trans cyw
          have HQ2 := Lib.hid (hq.out.trans (K.placeGo_at (x := y) hz q))
          have k2 : (0 : Int) ≤ (i : Int) := by omega
          have k3 : (i : Int) < (vn : Int) := by omega
          clear hz hq
          cases e1 : (z == y)
          · have HQ3 := Lib.hid (show K.place v y = K.placeGo y (v.drop (i + 1)) (i + 1) q by rw [HQ2.out, if_neg (fun h => by rw [h] at e1; simp at e1)])
            go_wp2_with fail
            go_quiet (fail)
            go_wp2_with fail
            go_roundw
            case rel => exact ⟨i + 1, q, by go_num, rfl, by omega, HQ3.out, below_drewN hbr _⟩
            case measure => simp [intOf]; omega
          · have HQ3 := Lib.hid (show K.place v y = K.placeGo y (v.drop (i + 1)) (i + 1) (i : Int) by rw [HQ2.out, if_pos (by simpa using e1)])
            go_wp2_with fail
            go_quiet (fail)
            go_wp2_with fail
            go_roundw
            case rel => exact ⟨i + 1, (i : Int), by go_num, rfl, by omega, HQ3.out, below_drewN hbr _⟩
            case measure => simp [intOf]; omega
        · have HQ3 := Lib.hid (show K.place v y = q by rw [hq.out, List.drop_eq_nil_of_le (by rw [← HVN.out]; omega)]; rfl)
          have hqb := K.place_bd v y
          rw [HQ3.out, ← HVN.out] at hqb
          clear hq
          by_cases hq0 : q < 0
          · go_wp2_with fail
            go_ret
            exact ⟨rfl, hbw⟩
          obtain ⟨m, hm⟩ : ∃ m : Nat, q = (m : Int) := ⟨q.toNat, by omega⟩
          subst hm
          have hm6 : m < 6 := by omega
          obtain ⟨N, hN⟩ : ∃ N, N = 2 ^ m := ⟨_, rfl⟩
          have hN64 : N ≤ 64 := by rw [hN]; exact Nat.pow_le_pow_right (by omega) (show m ≤ 6 by omega)
          have HX := Lib.hid (show K.bitsGo v o 0 0 = K.bitsGo v (o.drop (k + 1)) ((b + N : Nat) : Int) (m : Int) by
            rw [HS.out, HQ3.out, if_neg (by omega), hN]; simp)
          have HN := Lib.hid hN
          clear hN HS HQ3
          have hw3 : IntKind.i64.wrap ((b : Int) + (N : Int)) = ((b + N : Nat) : Int) := by rw [IntWalk.i64_in _ (by omega)]; omega
          have hw4 : wrap64 ((b : Int) + (N : Int)) = ((b + N : Nat) : Int) := by rw [← IntWalk.i64_left]; exact hw3
          have hw5 : decide ((m : Int) < 0) = false := by simp
          have hbN : b + N ≤ 64 * (k + 1) := by rw [Nat.mul_succ]; exact Nat.add_le_add hb64 hN64
          have hw1 : IntKind.i64.wrap ((2 : Int) ^ m) = (N : Int) := by rw [wrap_pow (by omega), HN.out]; simp
          have hw2 : wrap64 ((2 : Int) ^ m) = (N : Int) := by rw [← IntWalk.i64_left]; exact hw1
          go_wp2_with fail
          clear hw1 hw2
          go_roundw
          case rel => exact ⟨k + 1, b + N, m, rfl, rfl, by go_num, by omega, hbN, HX.out, hbr⟩
          case measure => simp [intOf]; omega
    · have HX := Lib.hid (show K.bitsGo v o 0 0 = some ((b : Int), (p : Int)) by rw [hr.out, List.drop_eq_nil_of_le (by rw [← HON.out]; omega)]; rfl)
      have hP := hP.below hbr
      have hS := hS.below hbr
      have hb := bel hb hbr
      clear hr p0 p1 s0 s1 s2 s3 s4 s5
      have p0 := hP.c0
      have p1 := hP.c1
      obtain ⟨s0, s1, s2, s3, s4, s5⟩ := hS.cells
      go_wp2_with fail
      refine (run_any x OA on oc o _ (hx.below hb) (hO.below hb) (by omega)).mono ?_
      rintro e w7 ⟨⟨A1, n1, c1, A2, n2, c2, rfl, hI1, hI2, -⟩, b7⟩
      obtain ⟨R, hR⟩ : ∃ R, R = K.run x.nd x.l x.s x.r o := ⟨_, rfl⟩
      rw [← hR] at hI1 hI2 ⊢
      have HR := Lib.hid hR
      clear hR
      obtain ⟨w8, hw8⟩ : ∃ w8 : World, w8 = w7.alloc (.cells #[.int .i64 0, .slice A1 n1 c1, .slice A2 n2 c2, .int .i64 R.tour.end_] 30) := ⟨_, rfl⟩
      have b78 : Below w7.heap.size w7 w8 := by rw [hw8]; exact (Below.refl _ _).alloc (Nat.le_refl _) _
      have hT : TBlk w8 w7.heap.size 0 (.slice A1 n1 c1) (.slice A2 n2 c2) R.tour.end_ := by rw [hw8]; exact heap_alloc_new _ _
      have hP := hP.below (bel b7 b78)
      have hS := hS.below (bel b7 b78)
      have hb := bel hb (bel b7 b78)
      have hI2 := hI2.below b78
      clear b7 b78 hI1 p0 p1 s0 s1 s2 s3 s4 s5
      cases e1 : (R.e == 0)
      · have e1' : (R.e != 0) = true := by simp [bne, e1]
        go_wp2_with fail
        go_ret
        rw [← hw8]
        exact ⟨rfl, hb⟩
      have e1' : (R.e != 0) = false := by simp [bne, e1]
      have hone : o ≠ [] := fun h => by rw [h] at HON; exact ho0 HON.out
      have HLAW := Lib.hid (K.earlier_law HOK.out hone HND.out HX.out (by rw [← HR.out]; simpa using e1))
      rw [← HR.out] at HLAW
      have hn2 : n2 = on := by rw [hI2.1, HLAW.out.1, HON.out]
      subst hn2
      clear e1 hone
      obtain ⟨t0, t1, t2, t3⟩ := hT.cells
      have p0 := hP.c0
      have p1 := hP.c1
      obtain ⟨s0, s1, s2, s3, s4, s5⟩ := hS.cells
      have HP := Lib.hid hP
      have HS := Lib.hid hS
      have HB := Lib.hid hb
      have HT := Lib.hid hT
      rw [hw8] at p0 p1 s0 s1 s2 s3 s4 s5 t2
      clear hP hS hb hT t0 t1 t3
      go_wp2_with fail
      rw [← hw8]
      refine (labels30_any x V vn vc v _ (hx.below HB.out) (hV.below HB.out) hvc (by omega)).mono ?_
      rintro e w9 ⟨⟨KA, kn, kc, rfl, hK⟩, b9⟩
      have hkl : kn ≤ 1000 := by rw [hK.1]; exact K.labs_len _ _ _ _ _
      clear p0 p1 s0 s1 s2 s3 s4 s5 t2 hw8
      go_wp2_with fail
      refine (at31_any KA kn kc _ (b : Int) (p : Int) _ hK (by omega)).mono ?_
      obtain ⟨X, hX⟩ : ∃ X, X = K.atLab (b : Int) (p : Int) (K.labs x.nd x.l x.s x.r v) := ⟨_, rfl⟩
      rw [← hX] at HLAW ⊢
      clear hX
      rintro e wa ⟨rfl, ba⟩
      obtain ⟨-, hX0, kl, yl, hkl, hyl, hle, hy0, hy1⟩ := HLAW.out
      have hT := HT.out.below (bel b9 ba)
      have hI2 := hI2.below (bel b9 ba)
      have hb := bel HB.out (bel b9 ba)
      obtain ⟨t0, t1, t2, t3⟩ := hT.cells
      obtain ⟨ad2, y2, rfl, hy2, cy2⟩ := hI2.at_ (show n2 - 1 < n2 by omega)
      obtain ⟨ado, k2, rfl, hk2, ck2⟩ := (hO.below hb).at_ (show n2 - 1 < n2 by omega)
      rw [HON.out] at hy2 hk2
      rw [hyl] at hy2
      rw [hkl] at hk2
      injection hy2 with hy2
      injection hk2 with hk2
      subst hy2 hk2
      obtain ⟨j, hj⟩ : ∃ j : Nat, j = n2 - 1 := ⟨_, rfl⟩
      rw [← hj] at cy2 ck2
      have hw6 : IntKind.i64.wrap ((n2 : Int) - 1) = (j : Int) := by rw [IntWalk.i64_in _ (by omega)]; omega
      have hw7 : wrap64 ((n2 : Int) - 1) = (j : Int) := by rw [← IntWalk.i64_left]; exact hw6
      have k0 : (0 : Int) ≤ (j : Int) := by omega
      have k1 : (j : Int) < (n2 : Int) := by omega
      have hkr := HRG.out kl (List.mem_of_getElem? hkl)
      have hsv := (K.case31 HOK.out).ok kl (K.bitsGo_mem o _ _ _ HX.out kl (List.mem_of_getElem? hkl))
      obtain ⟨m, hm⟩ : ∃ m : Nat, kl = (m : Int) := ⟨kl.toNat, by omega⟩
      subst hm
      obtain ⟨adq, q, hB, hgq, -, -, -, -, e3, -⟩ := (hQ.below hb).at_ (show m < x.m by omega)
      rw [K.req_get hgq] at hsv hle
      obtain ⟨hs0, hs1, -⟩ := hsv
      have k2 : (0 : Int) ≤ (m : Int) := by omega
      have k3 : (m : Int) < (x.m : Int) := by omega
      have hsum : IntKind.i64.wrap (yl + q.service) = yl + q.service := IntWalk.i64_in _ (by omega)
      have hsum2 : wrap64 (yl + q.service) = yl + q.service := by rw [← IntWalk.i64_left]; exact hsum
      have c1 : decide (0 ≤ X) = true := by simp; omega
      have c2 : decide (X ≤ yl + q.service) = true := by simp; omega
      rw [hB]
      clear hj hy0 hy1 hkr hyl hkl hgq HLAW hs0 hs1 t0 t1 t3
      go_wp2_with fail
      go_quiet (fail)
      go_wp2_with fail
      go_ret
      exact ⟨rfl, below_drewN hb _⟩
end Go.Proofs.Ytjcdpfpdjcannaa
