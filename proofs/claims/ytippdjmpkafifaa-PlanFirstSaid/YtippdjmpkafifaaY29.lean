/-
Plans: the walk of possible (PlanFirst's statement).
-/
import Derived.Test.YtippdjmpkafifaaY28
namespace Go.Proofs.Ytippdjmpkafifaa
open Go.RowKit

set_option maxRecDepth 100000 in
set_option maxHeartbeats 16000000 in
theorem possible21_any (x : Cs) (LA : Option Addr) (ln lc : Nat) (d : List Nat) (w : World) (hx : CsAt w x) (hl : Ints w LA ln (K.nat d)) (hln : ln ≤ 1000) (hsn : x.sn ≤ 1000) :
    Calls Try.prog 21 #[.agg #[.int .i64 x.nd, .slice x.A x.n x.c], .slice x.SA x.sn x.sc, .slice x.B x.m x.d, .slice LA ln lc] w fun e w' => e = .returned (.bool (A.possible (K.feas x.nd x.l x.ss x.r) x.sn d)) ∧ Below w.heap.size w w' := by
  obtain ⟨R, hR⟩ : ∃ R, R = A.possible (K.feas x.nd x.l x.ss x.r) x.sn d := ⟨_, rfl⟩
  obtain ⟨P, hPP⟩ : ∃ P : Nat → Bool, P = fun s => (A.share d s 0).isEmpty || K.feas x.nd x.l x.ss x.r s (A.share d s 0) := ⟨_, rfl⟩
  have HR := Lib.hid (show R = (List.range' 0 (x.sn - 0)).all P by rw [hR, hPP, A.possible, List.range_eq_range', Nat.sub_zero])
  have HP := Lib.hid hPP
  rw [← hR]
  clear hR hPP
  have HDL := Lib.hid (show ln = d.length by have := hl.1; rw [this]; exact List.length_map _)
  obtain ⟨w1, hw1⟩ : ∃ w1 : World, w1 = w.alloc (.cells #[.int .i64 x.nd, .slice x.A x.n x.c] 24) := ⟨_, rfl⟩
  have hN1 : Net w1 w.heap.size x.nd x.A x.n x.c := by rw [hw1]; exact Net.new w x.nd x.A x.n x.c
  have hb1 : Below w.heap.size w w1 := by rw [hw1]; exact (Below.refl _ _).alloc (Nat.le_refl _) _
  obtain ⟨G0, hG0⟩ : ∃ G0, G0 = w.heap.size := ⟨_, rfl⟩
  rw [← hG0] at hN1
  go_enter Try.func21, Try.ntmps21
  go_wp2_with fail
  rw [← hw1, ← hG0]
  clear hw1 hG0
  go_loopw [9] (fun v9 wr => ∃ k : Nat, v9 = .int .i64 k ∧ k ≤ x.sn ∧ Hid (R = (List.range' k (x.sn - k)).all P) ∧ Below w1.heap.size w1 wr) (fun v9 _ => x.sn - (intOf v9).toNat)
  case atStart => exact ⟨0, rfl, Nat.zero_le _, HR.out, Below.refl _ _⟩
  case round =>
    obtain ⟨k, rfl, hk, hrr, hbr⟩ := hrel
    by_cases hlt : k < x.sn
    rotate_left
    · have hd : decide ((k : Int) < (x.sn : Int)) = false := by simp; omega
      have hd2 : decide (k < x.sn) = false := by simp; omega
      have HX := Lib.hid (show R = true by rw [hrr.out, show x.sn - k = 0 by omega]; rfl)
      clear hlt
      go_wp2_with fail
      go_ret
      exact ⟨by rw [HX.out]; rfl, bel hb1 hbr⟩
    have k0 : (0 : Int) ≤ (k : Int) := by omega
    have k1 : (k : Int) < (x.sn : Int) := by omega
    have HSTEP := Lib.hid (show R = (P k && (List.range' (k + 1) (x.sn - (k + 1))).all P) by
      rw [hrr.out, show x.sn - k = (x.sn - (k + 1)) + 1 by omega, List.range'_succ, List.all_cons])
    obtain ⟨ads, -, hSA, -⟩ := ((hx.below hb1).below hbr).shifts.at_ hlt
    rw [hSA]
    go_wp2_with fail
    refine (share22_any LA ln lc d k _ (hl.below (bel hb1 hbr)) hln).mono ?_
    obtain ⟨v, hv⟩ : ∃ v, v = A.share d k 0 := ⟨_, rfl⟩
    rw [← hv]
    have HV := Lib.hid hv
    have hvl : v.length ≤ 1000 := by have := A.share_len k d 0; rw [← hv] at this; have := HDL.out; omega
    clear hv hrr
    rintro e wd ⟨⟨V, vn, vc, rfl, hVd, hvc⟩, bd⟩
    have hbd := bel hbr bd
    have hNd := hN1.below hbd
    have hxd := (hx.below hb1).below hbd
    obtain ⟨ads', sS, hSA', hsS, hIS, s0, s1, s2, s3, s4, s5⟩ := hxd.shifts.at_ hlt
    rw [hSA] at hSA'
    injection hSA' with hSA'
    subst hSA'
    have hAtd := hxd.case (List.mem_of_getElem? hsS)
    have HSS := Lib.hid hsS
    have hvnl : vn = v.length := hVd.1
    have hvn9 : vn ≤ 1000000000 := by omega
    obtain ⟨Y, hY⟩ : ∃ Y, Y = K.bestOut x.nd x.l sS x.r v := ⟨_, rfl⟩
    have HY := Lib.hid hY
    have HPK := Lib.hid (show P k = (v.isEmpty || (Y.2 == 0)) by
      rw [HP.out]
      show ((A.share d k 0).isEmpty || K.feas x.nd x.l x.ss x.r k (A.share d k 0)) = _
      rw [← HV.out, hY]
      unfold K.feas
      rw [HSS.out])
    have HVN := Lib.hid hvnl
    have p0 := hNd.c0
    have p1 := hNd.c1
    clear hY hsS hbr bd hIS hvnl
    have hmk : ∀ w', Below wd.heap.size wd w' → (fun w' : World => w'.cell? ⟨G0, 0, none⟩ = some (.int .i64 x.nd) ∧ w'.cell? ⟨G0, 1, none⟩ = some (.slice x.A x.n x.c) ∧ w'.cell? (ads.add (k * 6)) = some (.int .i64 sS.day) ∧ w'.cell? ⟨(ads.add (k * 6)).block, (ads.add (k * 6)).off + 1, none⟩ = some (.int .i64 sS.depot) ∧ w'.cell? ⟨(ads.add (k * 6)).block, (ads.add (k * 6)).off + 2, none⟩ = some (.int .i64 sS.start) ∧ w'.cell? ⟨(ads.add (k * 6)).block, (ads.add (k * 6)).off + 3, none⟩ = some (.int .i64 sS.end_) ∧ w'.cell? ⟨(ads.add (k * 6)).block, (ads.add (k * 6)).off + 4, none⟩ = some (.int .i64 sS.tare) ∧ w'.cell? ⟨(ads.add (k * 6)).block, (ads.add (k * 6)).off + 5, none⟩ = some (.slice sS.A sS.n sS.c)) w' := fun w' h => by
      have mv : ∀ {p : Addr} {v : Value}, wd.cell? p = some v → w'.cell? p = some v := fun g => (h.cell (cell_lt g)).trans g
      exact ⟨mv p0, mv p1, mv s0, mv s1, mv s2, mv s3, mv s4, mv s5⟩
    have hbd0 : Below wd.heap.size wd wd := Below.refl _ _
    have S0 := hmk _ hbd0
    have ba : Below wd.heap.size wd (wd.alloc (.cells #[.int .i64 0, .slice none 0 0, .slice none 0 0, .int .i64 0] 51)) := (Below.refl _ _).alloc (Nat.le_refl _) _
    have S0a := hmk _ ba
    have S0d := hmk _ hbd0.drew
    have S0ad := hmk _ ba.drew
    have hAt := fun w' (h : Below wd.heap.size wd w') => hAtd.below h
    go_wp2_with fail
    go_cut [11, 12] from 22 to 32 (fun vp ve wc => ∃ g A n c A' n' c', vp = .pointer (some ⟨g, 0, none⟩) ∧ ve = .int .i64 Y.2 ∧ TBlk wc g 0 (.slice A n c) (.slice A' n' c') Y.1.end_ ∧ Ints wc A n Y.1.stops ∧ Ints wc A' n' Y.1.times ∧ Below wd.heap.size wd wc ∧ wd.heap.size ≤ g ∧ (0 < n → ∀ ad, A = some ad → ad.block ≠ g) ∧ (0 < n' → ∀ ad, A' = some ad → ad.block ≠ g))
    case first =>
      go_region_held3 (fun w' : World => w'.cell? ⟨G0, 0, none⟩ = some (.int .i64 x.nd) ∧ w'.cell? ⟨G0, 1, none⟩ = some (.slice x.A x.n x.c) ∧ w'.cell? (ads.add (k * 6)) = some (.int .i64 sS.day) ∧ w'.cell? ⟨(ads.add (k * 6)).block, (ads.add (k * 6)).off + 1, none⟩ = some (.int .i64 sS.depot) ∧ w'.cell? ⟨(ads.add (k * 6)).block, (ads.add (k * 6)).off + 2, none⟩ = some (.int .i64 sS.start) ∧ w'.cell? ⟨(ads.add (k * 6)).block, (ads.add (k * 6)).off + 3, none⟩ = some (.int .i64 sS.end_) ∧ w'.cell? ⟨(ads.add (k * 6)).block, (ads.add (k * 6)).off + 4, none⟩ = some (.int .i64 sS.tare) ∧ w'.cell? ⟨(ads.add (k * 6)).block, (ads.add (k * 6)).off + 5, none⟩ = some (.slice sS.A sS.n sS.c))
        (first | with_reducible exact S1s | with_reducible exact S1b | with_reducible exact S1a | with_reducible exact S1 | with_reducible exact S0ad | with_reducible exact S0a | with_reducible exact S0d | with_reducible exact S0 | fail)
        (first
          | (go_at_call 23; refine (best_any (x.one sS) V vn vc v _ (hAt _ ?_) (hVd.below ?_) hvc hvn9).mono ?_; (first | with_reducible exact hbd0 | with_reducible exact ba | with_reducible exact hbd0.drew | with_reducible exact ba.drew); (first | with_reducible exact hbd0 | with_reducible exact ba | with_reducible exact hbd0.drew | with_reducible exact ba.drew); rw [show K.bestOut (x.one sS).nd (x.one sS).l (x.one sS).s (x.one sS).r v = Y from HY.out.symm]; rintro e w5 ⟨⟨A0, n0, c0, A1, n1, c1, rfl, hI0, hI1, hf0, hf1⟩, hbn⟩; (first | (have b5 := bel hbd0.drew hbn; have b5b := bel b5 ((Below.refl _ _).alloc (Nat.le_refl _) (.cells #[.int .i64 0, .slice A0 n0 c0, .slice A1 n1 c1, .int .i64 Y.1.end_] 51)); have S1b := hmk _ b5b; have S1a := hmk _ (bel b5 ((Below.refl _ _).alloc (Nat.le_refl _) (.cells #[.int .i64 0, .slice none 0 0, .slice none 0 0, .int .i64 0] 51)))) | (have b5 := bel ba.drew hbn; have hT5 := blk_below hbn (heap_alloc_new wd (.cells #[.int .i64 0, .slice none 0 0, .slice none 0 0, .int .i64 0] 51)); have S1s := hmk _ (below_set4 b5 (Nat.le_refl _) (.int .i64 0) (.slice A0 n0 c0) (.slice A1 n1 c1) (.int .i64 Y.1.end_)); obtain ⟨t0, t1, t2, t3⟩ := TBlk.cells (h := 0) hT5; have tf := blk_free hT5)); have S1 := hmk _ b5)
          | fail)
      · go_wp2_with fail
        go_meet
        case rel => (go_light; exact ⟨w5.heap.size, A0, n0, c0, A1, n1, c1, rfl, rfl, heap_alloc_new _ _, hI0.below ((Below.refl _ _).alloc (Nat.le_refl _) _), hI1.below ((Below.refl _ _).alloc (Nat.le_refl _) _), b5b, b5.size, fun h0 ad' e h9 => Nat.lt_irrefl _ (h9 ▸ hI0.lt_of h0 e), fun h0 ad' e h9 => Nat.lt_irrefl _ (h9 ▸ hI1.lt_of h0 e)⟩)
      · have hz9 := World.size_alloc wd (.cells #[.int .i64 0, .slice none 0 0, .slice none 0 0, .int .i64 0] 51)
        have hne0 : ∀ ad' : Addr, A0 = some ad' → ad'.block ≠ wd.heap.size := fun ad' e h9 => by
          have h8 := hf0 ad' e
          rw [h9] at h8
          have h8 : (wd.alloc (.cells #[.int .i64 0, .slice none 0 0, .slice none 0 0, .int .i64 0] 51)).heap.size ≤ wd.heap.size := h8
          omega
        have hne1 : ∀ ad' : Addr, A1 = some ad' → ad'.block ≠ wd.heap.size := fun ad' e h9 => by
          have h8 := hf1 ad' e
          rw [h9] at h8
          have h8 : (wd.alloc (.cells #[.int .i64 0, .slice none 0 0, .slice none 0 0, .int .i64 0] 51)).heap.size ≤ wd.heap.size := h8
          omega
        have hT9 : TBlk ((((w5.setCell ⟨wd.heap.size, 0, none⟩ (.int .i64 0)).setCell ⟨wd.heap.size, 1, none⟩ (.slice A0 n0 c0)).setCell ⟨wd.heap.size, 2, none⟩ (.slice A1 n1 c1)).setCell ⟨wd.heap.size, 3, none⟩ (.int .i64 Y.1.end_)) wd.heap.size 0 (.slice A0 n0 c0) (.slice A1 n1 c1) Y.1.end_ := blk_set (blk_set (blk_set (blk_set hT5 0 _) 1 _) 2 _) 3 _
        have b9 := below_set4 b5 (Nat.le_refl _) (.int .i64 0) (.slice A0 n0 c0) (.slice A1 n1 c1) (.int .i64 Y.1.end_)
        go_wp2_with fail
        go_meet
        case rel => (go_light; exact ⟨wd.heap.size, A0, n0, c0, A1, n1, c1, rfl, rfl, hT9, (((hI0.set _ hne0).set _ hne0).set _ hne0).set _ hne0, (((hI1.set _ hne1).set _ hne1).set _ hne1).set _ hne1, b9, Nat.le_refl _, fun _ => hne0, fun _ => hne1⟩)
    case rest =>
      obtain ⟨g, A0, n0, c0, A1, n1, c1, rfl, rfl, -, -, -, hbc, -, -, -⟩ := hcut
      have hbc2 := bel hbd hbc
      clear S0 S0a S0d S0ad hmk hAt hVd ba hbd0 hbc
      by_cases h0 : vn = 0
      · have d1 : decide ((0 : Int) < (vn : Int)) = false := by simp; omega
        have d2 : decide (0 < vn) = false := by simp; omega
        have HX := Lib.hid (show R = (List.range' (k + 1) (x.sn - (k + 1))).all P by
          have hv0 : v = [] := List.length_eq_zero_iff.1 (by rw [← HVN.out]; exact h0)
          rw [HSTEP.out, HPK.out, hv0]
          rfl)
        clear h0 p0 p1 s0 s1 s2 s3 s4 s5
        go_wp2_with fail
        go_roundw
        case rel => (go_light; exact ⟨k + 1, by go_num, by omega, HX.out, hbc2⟩)
        case measure => (go_light; simp [intOf]; omega)
      · have d1 : decide ((0 : Int) < (vn : Int)) = true := by simp; omega
        have d2 : decide (0 < vn) = true := by simp; omega
        have hve : v.isEmpty = false := by
          cases hv0 : v with
          | nil => have := HVN.out; rw [hv0] at this; exact absurd this h0
          | cons a b => rfl
        have HPK2 := Lib.hid (show P k = (Y.2 == 0) by rw [HPK.out, hve]; rfl)
        by_cases hy : Y.2 = 0
        · have d3 : (Y.2 != 0) = false := by simp [hy]
          have HX := Lib.hid (show R = (List.range' (k + 1) (x.sn - (k + 1))).all P by rw [HSTEP.out, HPK2.out, hy]; rfl)
          clear h0 hy hve p0 p1 s0 s1 s2 s3 s4 s5
          go_wp2_with fail
          go_roundw
          case rel => (go_light; exact ⟨k + 1, by go_num, by omega, HX.out, hbc2⟩)
          case measure => (go_light; simp [intOf]; omega)
        · have d3 : (Y.2 != 0) = true := by simp [hy]
          have HX := Lib.hid (show R = false by
            have : (Y.2 == 0) = false := by simp [hy]
            rw [HSTEP.out, HPK2.out, this]; rfl)
          clear h0 hy hve p0 p1 s0 s1 s2 s3 s4 s5
          go_wp2_with fail
          go_ret
          exact ⟨by rw [HX.out]; rfl, bel hb1 hbc2⟩
end Go.Proofs.Ytippdjmpkafifaa
