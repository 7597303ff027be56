/-
The walk of the reference's arrival.
-/
import Derived.Test.YtjcdpfpdjcannaaBW
import Derived.Deep.Light
namespace Go.Proofs.Ytjcdpfpdjcannaa
open Go.RowKit

/-- An entry of a list of shortest ways. -/
theorem way_read {nd : Int} {l : List Ro} {a k : Int} {tg : Nat} {w : World} {A : Option Addr} {n : Nat} (hI : Ints w A n (K.times nd l a k)) (hne : K.netErr nd l = 0) (ha : 0 ≤ a ∧ a < nd) (htg : (tg : Int) < nd) :
    ∃ ad, A = some ad ∧ w.cell? (ad.add tg) = some (.int .i64 (K.way nd l a k (tg : Int))) ∧ (tg : Int) < (n : Int) := by
  have hn : n = nd.toNat := by rw [hI.1]; exact K.times_len hne ha
  have hdt : tg < n := by omega
  obtain ⟨ad, y, rfl, hy, cy⟩ := hI.at_ hdt
  refine ⟨ad, rfl, ?_, by omega⟩
  rw [cy]
  unfold K.way G.at_
  rw [Int.toNat_natCast, hy]
  rfl

set_option maxRecDepth 100000 in
set_option maxHeartbeats 16000000 in
theorem arrival_any (x : C) (V : Option Addr) (vn vc : Nat) (v : List Int) (A : Option Addr) (tn tc : Nat) (ts : List Int) (m tg : Nat) (w : World) (hok : K.ok31 x.nd x.l x.s x.r v = true) (hx : At w x) (hV : Ints w V vn v) (hT : Ints w A tn ts)
    (hts : ∀ i, i < vn → ∃ y, ts[m * 6 + i]? = some y ∧ (m.testBit i = true → y = K.lab x.nd x.l x.s x.r v m i)) (hm : m < 64) (hto : (tg : Int) < x.nd) :
    Calls Try.prog 89 #[.agg #[.int .i64 x.nd, .slice x.A x.n x.c], .agg #[.int .i64 x.s.day, .int .i64 x.s.depot, .int .i64 x.s.start, .int .i64 x.s.end_, .int .i64 x.s.tare, .slice x.s.A x.s.n x.s.c], .slice x.B x.m x.d, .slice V vn vc, .slice A tn tc, .int .i64 m, .int .i64 tg] w fun e w' => e = .returned (.int .i64 (K.locF x.nd x.l x.s x.r v m tg)) ∧ Below w.heap.size w w' := by
  obtain ⟨w1, hw1⟩ : ∃ w1 : World, w1 = w.alloc (.cells #[.int .i64 x.nd, .slice x.A x.n x.c] 24) := ⟨_, rfl⟩
  obtain ⟨w2, hw2⟩ : ∃ w2 : World, w2 = w1.alloc (.cells #[.int .i64 x.s.day, .int .i64 x.s.depot, .int .i64 x.s.start, .int .i64 x.s.end_, .int .i64 x.s.tare, .slice x.s.A x.s.n x.s.c] 27) := ⟨_, rfl⟩
  have z1 : w1.heap.size = w.heap.size + 1 := by rw [hw1]; exact World.size_alloc _ _
  have b01 : Below w.heap.size w w1 := by rw [hw1]; exact (Below.refl _ _).alloc (Nat.le_refl _) _
  have b12 : Below w1.heap.size w1 w2 := by rw [hw2]; exact (Below.refl _ _).alloc (Nat.le_refl _) _
  have hP : Net w2 w.heap.size x.nd x.A x.n x.c := by
    have h1 : Net w1 w.heap.size x.nd x.A x.n x.c := by rw [hw1]; exact Net.new _ _ _ _ _
    exact h1.below b12
  have hS : Shf w2 (w.heap.size + 1) x.s := by rw [← z1, hw2]; exact Shf.new _ _
  have hb := bel b01 b12
  have HOK := Lib.hid hok
  have HC := Lib.hid (K.case31 hok)
  have HVN := Lib.hid hV.1
  have hv6 : vn ≤ 6 := by rw [hV.1]; exact (K.ok31_parts hok).2.2.2.2.1
  obtain ⟨hne, hck, hdp, -, -, -⟩ := K.ok31_parts hok
  obtain ⟨-, ⟨d0, -⟩, st0, st1, en1⟩ := K.check_parts hck
  have HNE := Lib.hid hne
  have HTS := Lib.hid hts
  clear hne hck hok hts
  go_enter Try.func89, Try.ntmps89
  go_wp2_with fail
  rw [← hw1, ← hw2]
  clear hw1 hw2 z1 b01 b12
  have hmk : ∀ w', Below w2.heap.size w2 w' → (fun w' : World => Below w2.heap.size w2 w' ∧ w'.cell? ⟨w.heap.size + 1, 0, none⟩ = some (.int .i64 x.s.day) ∧ w'.cell? ⟨w.heap.size + 1, 1, none⟩ = some (.int .i64 x.s.depot) ∧ w'.cell? ⟨w.heap.size + 1, 2, none⟩ = some (.int .i64 x.s.start) ∧ w'.cell? ⟨w.heap.size + 1, 3, none⟩ = some (.int .i64 x.s.end_) ∧ w'.cell? ⟨w.heap.size + 1, 4, none⟩ = some (.int .i64 x.s.tare) ∧ w'.cell? ⟨w.heap.size + 1, 5, none⟩ = some (.slice x.s.A x.s.n x.s.c)) w' := fun w' h => ⟨h, (hS.below h).cells⟩
  have S0 := hmk _ (Below.refl _ _)
  have hSd : ∀ w', (fun w' : World => Below w2.heap.size w2 w' ∧ w'.cell? ⟨w.heap.size + 1, 0, none⟩ = some (.int .i64 x.s.day) ∧ w'.cell? ⟨w.heap.size + 1, 1, none⟩ = some (.int .i64 x.s.depot) ∧ w'.cell? ⟨w.heap.size + 1, 2, none⟩ = some (.int .i64 x.s.start) ∧ w'.cell? ⟨w.heap.size + 1, 3, none⟩ = some (.int .i64 x.s.end_) ∧ w'.cell? ⟨w.heap.size + 1, 4, none⟩ = some (.int .i64 x.s.tare) ∧ w'.cell? ⟨w.heap.size + 1, 5, none⟩ = some (.slice x.s.A x.s.n x.s.c)) w' → (fun w' : World => Below w2.heap.size w2 w' ∧ w'.cell? ⟨w.heap.size + 1, 0, none⟩ = some (.int .i64 x.s.day) ∧ w'.cell? ⟨w.heap.size + 1, 1, none⟩ = some (.int .i64 x.s.depot) ∧ w'.cell? ⟨w.heap.size + 1, 2, none⟩ = some (.int .i64 x.s.start) ∧ w'.cell? ⟨w.heap.size + 1, 3, none⟩ = some (.int .i64 x.s.end_) ∧ w'.cell? ⟨w.heap.size + 1, 4, none⟩ = some (.int .i64 x.s.tare) ∧ w'.cell? ⟨w.heap.size + 1, 5, none⟩ = some (.slice x.s.A x.s.n x.s.c)) w'.drew := fun w' h => hmk _ h.1.drew
  have hVx : ∀ w', Below w2.heap.size w2 w' → Ints w' V vn v := fun w' h => (hV.below hb).below h
  have hAr : ∀ w', Below w2.heap.size w2 w' → Ints w' x.s.A x.s.n x.s.l := fun w' h => ((hx.below hb).below h).rooms
  have hAq : ∀ w', Below w2.heap.size w2 w' → Reqs w' x.B x.m x.r := fun w' h => ((hx.below hb).below h).reqs
  have hr256 : m < 256 := by omega
  have hv8 : vn ≤ 8 := by omega
  have hpl : (K.part v m).length ≤ 1000000000 := by have h1 := K.part_len v m; rw [← HVN.out] at h1; omega
  go_region_held3 (fun w' : World => Below w2.heap.size w2 w' ∧ w'.cell? ⟨w.heap.size + 1, 0, none⟩ = some (.int .i64 x.s.day) ∧ w'.cell? ⟨w.heap.size + 1, 1, none⟩ = some (.int .i64 x.s.depot) ∧ w'.cell? ⟨w.heap.size + 1, 2, none⟩ = some (.int .i64 x.s.start) ∧ w'.cell? ⟨w.heap.size + 1, 3, none⟩ = some (.int .i64 x.s.end_) ∧ w'.cell? ⟨w.heap.size + 1, 4, none⟩ = some (.int .i64 x.s.tare) ∧ w'.cell? ⟨w.heap.size + 1, 5, none⟩ = some (.slice x.s.A x.s.n x.s.c))
    (first | assumption | exact S0 | exact hSd _ (by assumption))
    (first
      | (go_at_call 35; refine (part31_any V vn vc v m _ (hVx _ (And.left (by assumption))) hv8 hr256).mono ?_; rintro e wb ⟨⟨RA, rn, rc, rfl, hR⟩, bb⟩; have S1 := hmk _ (bel (And.left (by assumption)) bb); have hrn : rn ≤ 1000000000 := by (rw [hR.1]; exact hpl))
      | (go_at_call 52; refine (rweight_any x.s x.B x.m x.d x.r RA rn rc (K.part v m) _ (hAr _ S1.1) hx.b2 (hAq _ S1.1) hx.b3 hx.b4 hR hrn).mono ?_; rintro e wc ⟨rfl, bc⟩; have S2 := hmk _ (bel S1.1 bc))
      | fail)
  obtain ⟨wt, hwt⟩ : ∃ wt, wt = T.weight x.s x.r (K.part v m) := ⟨_, rfl⟩
  rw [← hwt]
  have HWT := Lib.hid hwt
  have b2c := S2.1
  have hP := hP.below b2c
  have hS := hS.below b2c
  have hb := bel hb b2c
  clear S0 S1 S2 hSd hmk hVx hAr hAq hR hrn hpl hwt bb bc b2c hr256 hv8
  have p0 := hP.c0
  have p1 := hP.c1
  obtain ⟨s0, s1, s2, s3, s4, s5⟩ := hS.cells
  have k3 : (0 : Int) ≤ (tg : Int) := by omega
  by_cases hm0 : m = 0
  · subst hm0
    have hF := K.locF_zero (nd := x.nd) (l := x.l) (s := x.s) (r := x.r) (v := v) (tg : Int)
    rw [← HWT.out] at hF
    go_wp2_with fail
    refine (rtimes_any x.nd x.A x.n x.c x.l x.s.depot wt _ (hx.below hb).net hx.b1).mono ?_
    rintro e wy ⟨⟨TA, yn, yc, rfl, hTI⟩, bwy⟩
    obtain ⟨y, hway⟩ : ∃ y, y = K.way x.nd x.l x.s.depot wt (tg : Int) := ⟨_, rfl⟩
    obtain ⟨ady, rfl, cy, j4⟩ := way_read hTI HNE.out ⟨d0, hdp⟩ hto
    have hyb := K.way_bd x.nd x.l x.s.depot wt (tg : Int)
    rw [← hway] at hyb hF cy
    have s2 := ((hS.below bwy).cells).2.2.1
    clear hway hTI p0 p1 s0 s1 s3 s4 s5
    have hsm : IntKind.i64.wrap (x.s.start + y) = x.s.start + y := IntWalk.i64_in _ (by omega)
    have hsm2 : wrap64 (x.s.start + y) = x.s.start + y := by rw [← IntWalk.i64_left]; exact hsm
    by_cases hy0 : y < 0
    · have c1 : decide (y < 0) = true := decide_eq_true hy0
      rw [if_pos hy0] at hF
      have HF := Lib.hid hF
      clear hF
      go_wp2_with fail
      go_ret
      exact ⟨by rw [HF.out]; rfl, bel hb bwy⟩
    · have c1 : decide (y < 0) = false := decide_eq_false hy0
      rw [if_neg hy0, if_neg (by omega)] at hF
      have HF := Lib.hid hF
      clear hF
      go_wp2_with fail
      go_ret
      exact ⟨by rw [HF.out]; rfl, bel hb bwy⟩
  · have hm0b : ((m : Int) == 0) = false := by simp; exact hm0
    have hm0n : (m == 0) = false := by simp; exact hm0
    go_wp2_with fail
    have HP := Lib.hid hP
    have HS := Lib.hid hS
    have HB := Lib.hid hb
    clear hb hP hS p0 p1 s0 s1 s2 s3 s4 s5
    go_loopw [17, 18] (fun v17 v18 wr => ∃ (i : Nat) (f : Int), v17 = .int .i64 f ∧ v18 = .int .i64 i ∧ i ≤ vn ∧ Hid (f = K.locGo x.nd x.l x.s x.r v m (tg : Int) i) ∧ Below wc.heap.size wc wr) (fun _ v18 _ => vn - (intOf v18).toNat)
    case atStart => exact ⟨0, -1, rfl, rfl, by omega, rfl, Below.refl _ _⟩
    case round =>
      obtain ⟨i, f, rfl, rfl, hi, hf, hbr⟩ := hrel
      have hb := bel HB.out hbr
      have hfb := K.locGo_bd HC.out m (tg : Int) i
      rw [← hf.out] at hfb
      by_cases hlt : i < vn
      · obtain ⟨z, hz, hzi⟩ := HTS.out i hlt
        have HZI := Lib.hid hzi
        clear hzi
        obtain ⟨m6, hm6⟩ : ∃ m6 : Nat, m6 = m * 6 := ⟨_, rfl⟩
        obtain ⟨j, hj⟩ : ∃ j : Nat, j = m6 + i := ⟨_, rfl⟩
        rw [← hm6, ← hj] at hz
        have hmt : j < tn := by rw [hT.1]; exact (List.getElem?_eq_some_iff.1 hz).1
        obtain ⟨adt, z2, rfl, hz2, cz⟩ := (hT.below hb).at_ hmt
        rw [hz] at hz2
        injection hz2 with hz2
        subst hz2
        have kw1 : IntKind.i64.wrap ((m : Int) * 6) = (m6 : Int) := by rw [IntWalk.i64_in _ (by omega)]; omega
        have kw3 : IntKind.i64.wrap ((m6 : Int) + (i : Int)) = (j : Int) := by rw [IntWalk.i64_in _ (by omega)]; omega
        have kk0 : (0 : Int) ≤ (j : Int) := by omega
        have kk1 : (j : Int) < (tn : Int) := by omega
        have kk2 : (0 : Int) ≤ (i : Int) := by omega
        have kk3 : (i : Int) < (vn : Int) := by omega
        have hi8 : i < 8 := by omega
        have hm256 : m < 256 := by omega
        have hlt' : decide (i < vn) = true := decide_eq_true hlt
        have hlti : decide ((i : Int) < (vn : Int)) = true := decide_eq_true kk3
        clear hz hm6 hj hmt
        go_upto_region 12 with fail
        clear kw1 kw3 kk0 kk1 cz
        cases hbit : m.testBit i
        · have hb1 : bits BinOp.and IntKind.i64 ((m : Int) / 2 ^ i) 1 = 0 := by rw [bit_at hm256 hi8, hbit]; rfl
          have HF := Lib.hid (show f = K.locGo x.nd x.l x.s x.r v m (tg : Int) (i + 1) by rw [K.locGo_skip (K.lab_no hbit)]; exact hf.out)
          clear hf
          go_wp2_with fail
          clear hb1
          go_roundw
          case rel => (go_light; exact ⟨i + 1, f, rfl, by go_num, hlt, HF.out, hbr⟩)
          case measure => (go_light; simp [intOf] <;> omega)
        · have hb1 : bits BinOp.and IntKind.i64 ((m : Int) / 2 ^ i) 1 = 1 := by rw [bit_at hm256 hi8, hbit]; rfl
          have hzl := HZI.out hbit
          have hlb := K.lab_bd (nd := x.nd) (l := x.l) (s := x.s) (r := x.r) HC.out m i
          rw [← hzl] at hlb
          have HZL := Lib.hid hzl
          clear hzl
          by_cases hz0 : 0 ≤ z
          · have c1 : decide (0 ≤ z) = true := decide_eq_true hz0
            go_upto_region 13 with fail
            clear hb1 hbit
            obtain ⟨adv, k, rfl, hki, ci⟩ := (hV.below hb).at_ hlt
            obtain ⟨hk0, hk1, hkn⟩ := K.setGo_nodes _ _ (K.ok31_parts HOK.out).2.2.2.2.2 _ (List.mem_of_getElem? hki)
            obtain ⟨j, rfl⟩ : ∃ j : Nat, k = (j : Int) := ⟨k.toNat, by omega⟩
            have hjm : j < x.m := by rw [hx.reqs.1]; omega
            obtain ⟨adq, q, hqB, hgq, -, e0, -⟩ := ((hx.below hb).reqs).at_ hjm
            have HQB := Lib.hid hqB
            have HKI := Lib.hid hki
            have hrq := K.req_get hgq
            rw [hrq] at hkn
            have HRQ := Lib.hid hrq
            have hqn : 0 ≤ q.node := by
              have h1 := (K.ok31_parts HOK.out).2.2.2.1 q (List.mem_of_getElem? hgq)
              exact (K.right_req h1).1.1
            have hP := HP.out.below hbr
            have p0 := hP.c0
            have p1 := hP.c1
            have hRd : ∀ w', Below wr.heap.size wr w' → Roads w' x.A x.n x.l := fun w' h => Lst.below ((hx.below hb).net) h
            obtain ⟨y, hway⟩ : ∃ y, y = K.way x.nd x.l q.node wt (tg : Int) := ⟨_, rfl⟩
            have hyb := K.way_bd x.nd x.l q.node wt (tg : Int)
            rw [← hway] at hyb
            have HWY := Lib.hid hway
            have j1 : (j : Int) < (x.m : Int) := by omega
            have j2 : (0 : Int) ≤ (j : Int) := by omega
            rw [hqB]
            clear hP hki hgq hqB hrq hway hjm hk0 hk1
            go_cut [20] from 65 to 78 (fun v20 wx => v20 = .int .i64 y ∧ Below wc.heap.size wc wx)
            case first =>
              go_region_with (first | (go_at_call 70; refine (rtimes_any x.nd x.A x.n x.c x.l q.node wt _ (hRd _ (Below.refl _ _).drew) hx.b1).mono ?_; rintro e wy ⟨⟨TA, yn, yc, rfl, hTI⟩, bwy⟩; obtain ⟨ady, rfl, cy, j4⟩ := way_read hTI HNE.out ⟨hqn, hkn⟩ hto; rw [← HWY.out] at cy) | fail)
              all_goals (clear p0 p1 e0 ci; go_wp2_with fail; go_meet)
              all_goals (exact ⟨rfl, bel hbr (bel (Below.refl _ _).drew bwy)⟩)
            case rest =>
              obtain ⟨rfl, hbx⟩ := hcut
              clear p0 p1 hRd e0 ci j1 j2
              have hb := bel HB.out hbx
              by_cases hy0 : 0 ≤ y
              · have c2 : decide (0 ≤ y) = true := decide_eq_true hy0
                obtain ⟨sm, hsm⟩ : ∃ sm, sm = z + y := ⟨_, rfl⟩
                have ksm : IntKind.i64.wrap (z + y) = sm := by rw [IntWalk.i64_in _ (by omega)]; exact hsm.symm
                obtain ⟨g, hg⟩ : ∃ g, g = K.lessV f sm := ⟨_, rfl⟩
                have HF := Lib.hid (show g = K.locGo x.nd x.l x.s x.r v m (tg : Int) (i + 1) by
                  rw [K.locGo_less HC.out HKI.out (by rw [← HZL.out]; exact hz0) (by rw [HRQ.out, ← HWT.out, ← HWY.out]; exact hy0), ← hf.out, ← HZL.out, HRQ.out, ← HWT.out, ← HWY.out, ← hsm]
                  exact hg)
                clear hf hsm
                go_wp2_with fail
                refine (less106_any f sm _).mono ?_
                rw [← hg]
                rintro e w8 ⟨rfl, rfl⟩
                clear ksm hg
                go_wp2_with fail
                rw [← HQB.out]
                go_roundw
                case rel => (go_light; exact ⟨i + 1, g, rfl, by go_num, hlt, HF.out, hbx⟩)
                case measure => (go_light; simp [intOf] <;> omega)
              · have c2 : decide (0 ≤ y) = false := decide_eq_false hy0
                have HF := Lib.hid (show f = K.locGo x.nd x.l x.s x.r v m (tg : Int) (i + 1) by
                  rw [K.locGo_none HKI.out (by rw [HRQ.out, ← HWT.out, ← HWY.out]; omega)]
                  exact hf.out)
                clear hf
                go_wp2_with fail
                rw [← HQB.out]
                go_roundw
                case rel => (go_light; exact ⟨_, _, ⟨i + 1, f, rfl, by go_num, hlt, HF.out⟩, rfl, rfl, rfl, rfl⟩)
                case measure => (go_light; simp [intOf] <;> omega)
          · have c1 : decide (0 ≤ z) = false := decide_eq_false hz0
            have HF := Lib.hid (show f = K.locGo x.nd x.l x.s x.r v m (tg : Int) (i + 1) by rw [K.locGo_skip (by rw [← HZL.out]; omega)]; exact hf.out)
            clear hf
            go_wp2_with fail
            clear hb1
            go_roundw
            case rel => (go_light; exact ⟨i + 1, f, rfl, by go_num, hlt, HF.out, hbr⟩)
            case measure => (go_light; simp [intOf] <;> omega)
      · have HF := Lib.hid (show K.locF x.nd x.l x.s x.r v m (tg : Int) = f by rw [K.locF_pos hm0, ← HVN.out, show vn = i by omega]; exact hf.out.symm)
        clear hf
        go_wp2_with fail
        go_ret
        exact ⟨by rw [HF.out]; rfl, hb⟩
end Go.Proofs.Ytjcdpfpdjcannaa
