/-
The walk of the law RouteLess.
-/
import Derived.Test.YtjcdpfpdjcannaaPS
import Derived.Test.YtjcdpfpdjcannaaVD
import Derived.Test.YtjcdpfpdjcannaaV4
namespace Go.Proofs.Ytjcdpfpdjcannaa
open Go.RowKit

set_option maxRecDepth 100000 in
set_option maxHeartbeats 16000000 in
theorem less_any (x : C) (V : Option Addr) (vn vc : Nat) (v : List Int) (bt : Int) (w : World) (hN : Roads w x.A x.n x.l) (hS0 : Ints w x.s.A x.s.n x.s.l) (hQ : Reqs w x.B x.m x.r) (hV : Ints w V vn v) (hvc : vn ≤ vc) (hbt : (Lit.int .u8 bt).wf = true) :
    Calls Try.prog 10 #[.agg #[.int .i64 x.nd, .slice x.A x.n x.c], .agg #[.int .i64 x.s.day, .int .i64 x.s.depot, .int .i64 x.s.start, .int .i64 x.s.end_, .int .i64 x.s.tare, .slice x.s.A x.s.n x.s.c], .slice x.B x.m x.d, .slice V vn vc, .int .u8 bt] w fun e w' => e = .returned (.bool true) ∧ Below w.heap.size w w' := by
  obtain ⟨w1, hw1⟩ : ∃ w1 : World, w1 = w.alloc (.cells #[.int .i64 x.nd, .slice x.A x.n x.c] 24) := ⟨_, rfl⟩
  obtain ⟨w2, hw2⟩ : ∃ w2 : World, w2 = w1.alloc (.cells #[.int .i64 x.s.day, .int .i64 x.s.depot, .int .i64 x.s.start, .int .i64 x.s.end_, .int .i64 x.s.tare, .slice x.s.A x.s.n x.s.c] 27) := ⟨_, rfl⟩
  have z1 : w1.heap.size = w.heap.size + 1 := by rw [hw1]; exact World.size_alloc _ _
  have b01 : Below w.heap.size w w1 := by rw [hw1]; exact (Below.refl _ _).alloc (Nat.le_refl _) _
  have b12 : Below w1.heap.size w1 w2 := by rw [hw2]; exact (Below.refl _ _).alloc (Nat.le_refl _) _
  have hP : Net w2 w.heap.size x.nd x.A x.n x.c := by
    have h1 : Net w1 w.heap.size x.nd x.A x.n x.c := by rw [hw1]; exact Net.new _ _ _ _ _
    exact h1.below b12
  have hS : Shf w2 (w.heap.size + 1) x.s := by rw [← z1, hw2]; exact Shf.new _ _
  have hb := bel b01 b12
  go_enter Try.func10, Try.ntmps10
  go_wp2_with fail
  rw [← hw1, ← hw2]
  clear hw1 hw2 z1 b01 b12
  refine (sane31_any _).mono ?_
  rintro e w3 ⟨rfl, b3⟩
  have hP := hP.below b3
  have hS := hS.below b3
  have hb := bel hb b3
  clear b3
  have p0 := hP.c0
  have p1 := hP.c1
  obtain ⟨s0, s1, s2, s3, s4, s5⟩ := hS.cells
  go_wp2_with fail
  refine (few31_any x V vn vc _ (hQ.below hb)).mono ?_
  rintro e w4 ⟨rfl, b4⟩
  have hP := hP.below b4
  have hS := hS.below b4
  have hb := bel hb b4
  clear b4 p0 p1 s0 s1 s2 s3 s4 s5
  have p0 := hP.c0
  have p1 := hP.c1
  obtain ⟨s0, s1, s2, s3, s4, s5⟩ := hS.cells
  cases hf : K.few31 x.nd x.n x.s x.r vn
  · clear hf
    go_wp2_with fail
    go_ret
    exact ⟨rfl, hb⟩
  obtain ⟨hf0, hvs⟩ : K.few30 x.nd x.n x.s x.r = true ∧ K.size31 vn = true := by simpa [K.few31] using hf
  obtain ⟨hf1, hf2, hf3, hf4⟩ := K.few_parts hf0
  have hx : At w x := ⟨hN, hS0, hQ, by omega, by omega, by rw [hQ.1]; omega, fun q hq => by have := hf4 q hq; omega⟩
  have hm6 : x.m ≤ 6 := by rw [hQ.1]; exact hf3
  have hv20 : vn ≤ 20 := by simp only [K.size31, Bool.or_eq_true, Bool.and_eq_true, decide_eq_true_eq] at hvs; omega
  clear hf1 hf2 hf3 hf4 hf hf0 hvs
  go_wp2_with fail
  refine (right31_any x V vn vc v _ (hx.below hb) (hV.below hb) (by omega)).mono ?_
  rintro e w5 ⟨rfl, b5⟩
  have hP := hP.below b5
  have hS := hS.below b5
  have hb := bel hb b5
  clear b5 p0 p1 s0 s1 s2 s3 s4 s5
  have p0 := hP.c0
  have p1 := hP.c1
  obtain ⟨s0, s1, s2, s3, s4, s5⟩ := hS.cells
  cases hok : K.ok31 x.nd x.l x.s x.r v
  · clear hok
    go_wp2_with fail
    go_ret
    exact ⟨rfl, hb⟩
  have HOK := Lib.hid hok
  clear hok
  have hwi : 0 ≤ bt ∧ bt ≤ 255 := by
    simp [Lit.wf] at hbt
    exact hbt
  obtain ⟨m, hm⟩ : ∃ m : Nat, bt = (m : Int) := ⟨bt.toNat, by omega⟩
  subst hm
  have hm256 : m < 256 := by omega
  have hv6 : vn ≤ 6 := by rw [hV.1]; exact (K.ok31_parts HOK.out).2.2.2.2.1
  have hcv : IntKind.i64.wrap (m : Int) = (m : Int) := IntWalk.i64_in _ (by omega)
  have HLAW := Lib.hid (fun t (h : K.best x.nd x.l x.s x.r v = some t) => K.less_law HOK.out m h)
  have HOK2 := Lib.hid (K.ok31_part m HOK.out)
  obtain ⟨pt, hpt⟩ : ∃ pt, pt = K.part v m := ⟨_, rfl⟩
  have hptl : pt.length ≤ 6 := by rw [hpt]; have := K.part_len v m; have := hV.1; omega
  go_wp2_with fail
  refine (part31c_any V vn vc v m _ (hV.below hb) (by omega) hm256).mono ?_
  rw [← hpt] at HLAW HOK2 ⊢
  rintro e w6 ⟨⟨QA, qn, qc, rfl, hQ6, hqc⟩, b6⟩
  have hP := hP.below b6
  have hS := hS.below b6
  have hb := bel hb b6
  have hqn : qn ≤ 6 := by rw [hQ6.1]; exact hptl
  clear b6 p0 p1 s0 s1 s2 s3 s4 s5 hpt
  have p0 := hP.c0
  have p1 := hP.c1
  obtain ⟨s0, s1, s2, s3, s4, s5⟩ := hS.cells
  go_wp2_with fail
  refine (best_any x V vn vc v _ (hx.below hb) (hV.below hb) hvc (by omega)).mono ?_
  rintro e w7 ⟨⟨A0, n0, c0, B0, m0, d0, rfl, -, -⟩, b7⟩
  obtain ⟨Y, hY⟩ : ∃ Y, Y = K.bestOut x.nd x.l x.s x.r v := ⟨_, rfl⟩
  rw [← hY]
  have HY := Lib.hid hY
  clear hY
  obtain ⟨w8, hw8⟩ : ∃ w8 : World, w8 = w7.alloc (.cells #[.int .i64 0, .slice A0 n0 c0, .slice B0 m0 d0, .int .i64 Y.1.end_] 30) := ⟨_, rfl⟩
  have b78 : Below w7.heap.size w7 w8 := by rw [hw8]; exact (Below.refl _ _).alloc (Nat.le_refl _) _
  have hT : TBlk w8 w7.heap.size 0 (.slice A0 n0 c0) (.slice B0 m0 d0) Y.1.end_ := by rw [hw8]; exact heap_alloc_new _ _
  have hP := hP.below (bel b7 b78)
  have hS := hS.below (bel b7 b78)
  have hb := bel hb (bel b7 b78)
  have hQ6 := hQ6.below (bel b7 b78)
  clear b7 b78 p0 p1 s0 s1 s2 s3 s4 s5
  have p0 := hP.c0
  have p1 := hP.c1
  obtain ⟨s0, s1, s2, s3, s4, s5⟩ := hS.cells
  have HP := Lib.hid hP
  have HS := Lib.hid hS
  have HB := Lib.hid hb
  have HT := Lib.hid hT
  rw [hw8] at p0 p1 s0 s1 s2 s3 s4 s5
  clear hP hS hb hT
  go_wp2_with fail
  rw [← hw8]
  refine (best_any x QA qn qc pt _ (hx.below HB.out) hQ6 hqc (by omega)).mono ?_
  rintro e w9 ⟨⟨A1, n1, c1, B1, m1, d1, rfl, -, -⟩, b9⟩
  obtain ⟨Z, hZ⟩ : ∃ Z, Z = K.bestOut x.nd x.l x.s x.r pt := ⟨_, rfl⟩
  rw [← hZ]
  have HZ := Lib.hid hZ
  clear hZ p0 p1 s0 s1 s2 s3 s4 s5 hw8
  obtain ⟨wa, hwa⟩ : ∃ wa : World, wa = w9.alloc (.cells #[.int .i64 0, .slice A1 n1 c1, .slice B1 m1 d1, .int .i64 Z.1.end_] 30) := ⟨_, rfl⟩
  have b9a : Below w9.heap.size w9 wa := by rw [hwa]; exact (Below.refl _ _).alloc (Nat.le_refl _) _
  have hU : TBlk wa w9.heap.size 0 (.slice A1 n1 c1) (.slice B1 m1 d1) Z.1.end_ := by rw [hwa]; exact heap_alloc_new _ _
  have hP := HP.out.below (bel b9 b9a)
  have hS := HS.out.below (bel b9 b9a)
  have hb := bel HB.out (bel b9 b9a)
  have hQ6 := hQ6.below (bel b9 b9a)
  have hT := HT.out.below (bel b9 b9a)
  clear HP HS HB HT b9 b9a
  -- what the law says of the two
  have hrel : (Y.2 = 0 → Z.2 = 0 ∧ Z.1.end_ ≤ Y.1.end_) ∧ (K.best x.nd x.l x.s x.r pt = none → Y.2 = 4) := by
    constructor
    · intro h0
      cases hbs : K.best x.nd x.l x.s x.r v with
      | none => rw [HY.out, K.bestOut_none HOK.out hbs] at h0; cases h0
      | some t =>
        obtain ⟨u, hu, hle⟩ := HLAW.out t hbs
        rw [HZ.out, HY.out, K.bestOut_some HOK2.out hu, K.bestOut_some HOK.out hbs]
        exact ⟨rfl, hle⟩
    · intro h0
      cases hbs : K.best x.nd x.l x.s x.r v with
      | none => rw [HY.out, K.bestOut_none HOK.out hbs]
      | some t =>
        obtain ⟨u, hu, -⟩ := HLAW.out t hbs
        rw [h0] at hu; cases hu
  obtain ⟨hr1, hr2⟩ := hrel
  have HR2 := Lib.hid hr2
  obtain ⟨t0, t1, t2, t3⟩ := hT.cells
  obtain ⟨u0, u1, u2, u3⟩ := hU.cells
  have p0 := hP.c0
  have p1 := hP.c1
  obtain ⟨s0, s1, s2, s3, s4, s5⟩ := hS.cells
  have HP := Lib.hid hP
  have HS := Lib.hid hS
  have HB := Lib.hid hb
  have HQ := Lib.hid hQ6
  rw [hwa] at p0 p1 s0 s1 s2 s3 s4 s5 t3 u3
  clear hP hS hb hT hU t0 t1 t2 u0 u1 u2 hr2
  obtain ⟨y2, hy2⟩ : ∃ y2, y2 = (Y.2 == 0) := ⟨_, rfl⟩
  obtain ⟨q4, hq4⟩ : ∃ q4, q4 = (Y.2 == 4) := ⟨_, rfl⟩
  have k1 : y2 = true → (Z.2 != 0) = false ∧ decide (Y.1.end_ < Z.1.end_) = false := fun h => by
    obtain ⟨h1, h2⟩ := hr1 (by rw [h] at hy2; simpa using hy2.symm)
    exact ⟨by rw [h1]; rfl, by simp; omega⟩
  cases y2
  · have e1 : (Y.2 == 0) = false := hy2.symm
    clear hy2 k1 hq4 q4
    cases hq0 : ((qn : Int) == 0)
    rotate_left
    · clear hr1 p0 p1 s0 s1 s2 s3 s4 s5 t3 u3
      go_wp2_with fail
      rw [← hwa]
      refine reg_beh (by kernel_rfl) (by kernel_rfl) ?_
      repeat (go_big_quiet_step (fail))
      refine wpQuiet_nil ?_
      rintro w5 ⟨⟨_, b45⟩, rfl⟩
      go_wp2_with fail
      go_ret
      exact ⟨rfl, bel HB.out b45⟩
    have hptne : pt ≠ [] := fun h => by
      have h1 : qn = 0 := by rw [HQ.out.1, h]; rfl
      rw [h1] at hq0; cases hq0
    have hbl := K.proves_law HOK2.out hptne
    go_wp2_with fail
    rw [← hwa]
    clear hwa p0 p1 s0 s1 s2 s3 s4 s5 t3 u3
    have hlb : (K.labs x.nd x.l x.s x.r pt).length ≤ 1000000000 := by have := K.labs_len x.nd x.l x.s x.r pt; omega
    have hqn9 : qn ≤ 1000000000 := by omega
    have hmk : ∀ w', Below wa.heap.size wa w' → (fun (w' : World) => w'.cell? ⟨w.heap.size, 0, none⟩ = some (.int .i64 x.nd) ∧ w'.cell? ⟨w.heap.size, 1, none⟩ = some (.slice x.A x.n x.c) ∧ w'.cell? ⟨w.heap.size + 1, 0, none⟩ = some (.int .i64 x.s.day) ∧ w'.cell? ⟨w.heap.size + 1, 1, none⟩ = some (.int .i64 x.s.depot) ∧ w'.cell? ⟨w.heap.size + 1, 2, none⟩ = some (.int .i64 x.s.start) ∧ w'.cell? ⟨w.heap.size + 1, 3, none⟩ = some (.int .i64 x.s.end_) ∧ w'.cell? ⟨w.heap.size + 1, 4, none⟩ = some (.int .i64 x.s.tare) ∧ w'.cell? ⟨w.heap.size + 1, 5, none⟩ = some (.slice x.s.A x.s.n x.s.c)) w' := fun w' h => ⟨(HP.out.below h).c0, (HP.out.below h).c1, (HS.out.below h).cells⟩
    have hbd : Below wa.heap.size wa wa.drew := (Below.refl _ _).drew
    have S0 := hmk _ (Below.refl _ _)
    have S0d := hmk _ hbd
    cases hn : (K.best x.nd x.l x.s x.r pt).isNone
    · rw [hn] at hbl
      have HBL := Lib.hid hbl
      clear hbl hn
      refine wp_region_held_drew (S := (fun (w' : World) => w'.cell? ⟨w.heap.size, 0, none⟩ = some (.int .i64 x.nd) ∧ w'.cell? ⟨w.heap.size, 1, none⟩ = some (.slice x.A x.n x.c) ∧ w'.cell? ⟨w.heap.size + 1, 0, none⟩ = some (.int .i64 x.s.day) ∧ w'.cell? ⟨w.heap.size + 1, 1, none⟩ = some (.int .i64 x.s.depot) ∧ w'.cell? ⟨w.heap.size + 1, 2, none⟩ = some (.int .i64 x.s.start) ∧ w'.cell? ⟨w.heap.size + 1, 3, none⟩ = some (.int .i64 x.s.end_) ∧ w'.cell? ⟨w.heap.size + 1, 4, none⟩ = some (.int .i64 x.s.tare) ∧ w'.cell? ⟨w.heap.size + 1, 5, none⟩ = some (.slice x.s.A x.s.n x.s.c))) (by kernel_rfl) S0d (fun hHeld => ?_)
      refine wpAnyH_take (i := 0) (oi := ?_) (v := ?_) ?_ (by kernel_rfl) (by kernel_rfl) (by kernel_rfl) ?_ ?_ (by assumption) ?_
      rotate_left 2
      · (simp only [List.getElem?_toArray, List.getElem?_cons_zero]; rfl)
      rotate_left
      · (refine Or.inl ⟨by rfl, ?_⟩; intro w hSw; (try dsimp only at hSw); go_simp; (try with_reducible rfl))
      rotate_left
      · exact fun _ _ _ h => h
      try simp only [Act.put, List.setIfInBounds_toArray, List.set_cons_zero, List.set_cons_succ]
      refine wpAnyH_take (i := 1) (oi := ?_) (v := ?_) ?_ (by kernel_rfl) (by kernel_rfl) (by kernel_rfl) ?_ ?_ (by assumption) ?_
      rotate_left 2
      · (simp only [List.getElem?_toArray, List.getElem?_cons_succ, List.getElem?_cons_zero]; rfl)
      rotate_left
      · (refine Or.inl ⟨by rfl, ?_⟩; intro w hSw; (try dsimp only at hSw); go_simp; (try with_reducible rfl))
      rotate_left
      · exact fun _ _ _ h => h
      try simp only [Act.put, List.setIfInBounds_toArray, List.set_cons_zero, List.set_cons_succ]
      refine wpAnyH_take (i := 2) (oi := ?_) (v := ?_) ?_ (by kernel_rfl) (by kernel_rfl) (by kernel_rfl) ?_ ?_ (by assumption) ?_
      rotate_left 2
      · (simp only [List.getElem?_toArray, List.getElem?_cons_succ, List.getElem?_cons_zero]; rfl)
      rotate_left
      · (refine Or.inl ⟨by rfl, ?_⟩; intro w hSw; (try dsimp only at hSw); go_simp; (try with_reducible rfl))
      rotate_left
      · exact fun _ _ _ h => h
      try simp only [Act.put, List.setIfInBounds_toArray, List.set_cons_zero, List.set_cons_succ]
      refine wpAnyH_take (i := 3) (oi := ?_) (v := ?_) ?_ (by kernel_rfl) (by kernel_rfl) (by kernel_rfl) ?_ ?_ (by assumption) ?_
      rotate_left 2
      · (simp only [List.getElem?_toArray, List.getElem?_cons_succ, List.getElem?_cons_zero]; rfl)
      rotate_left
      · (refine Or.inl ⟨by rfl, ?_⟩; intro w hSw; (try dsimp only at hSw); go_simp; (try with_reducible rfl))
      rotate_left
      · exact fun _ _ _ h => h
      try simp only [Act.put, List.setIfInBounds_toArray, List.set_cons_zero, List.set_cons_succ]
      refine wpAnyH_take (i := 4) (oi := ?_) (v := ?_) ?_ (by kernel_rfl) (by kernel_rfl) (by kernel_rfl) ?_ ?_ (by assumption) ?_
      rotate_left 2
      · (simp only [List.getElem?_toArray, List.getElem?_cons_succ, List.getElem?_cons_zero]; rfl)
      rotate_left
      · (refine Or.inl ⟨by rfl, ?_⟩; intro w hSw; (try dsimp only at hSw); go_simp; (try with_reducible rfl))
      rotate_left
      · exact fun _ _ _ h => h
      try simp only [Act.put, List.setIfInBounds_toArray, List.set_cons_zero, List.set_cons_succ]
      refine wpAnyH_take (i := 5) (oi := ?_) (v := ?_) ?_ (by kernel_rfl) (by kernel_rfl) (by kernel_rfl) ?_ ?_ (by assumption) ?_
      rotate_left 2
      · (simp only [List.getElem?_toArray, List.getElem?_cons_succ, List.getElem?_cons_zero]; rfl)
      rotate_left
      · (refine Or.inl ⟨by rfl, ?_⟩; intro w hSw; (try dsimp only at hSw); go_simp; (try with_reducible rfl))
      rotate_left
      · exact fun _ _ _ h => h
      try simp only [Act.put, List.setIfInBounds_toArray, List.set_cons_zero, List.set_cons_succ]
      refine wpAnyH_take (i := 6) (oi := ?_) (v := ?_) ?_ (by kernel_rfl) (by kernel_rfl) (by kernel_rfl) ?_ ?_ (by assumption) ?_
      rotate_left 2
      · (simp only [List.getElem?_toArray, List.getElem?_cons_succ, List.getElem?_cons_zero]; rfl)
      rotate_left
      · (refine Or.inl ⟨by rfl, ?_⟩; intro w hSw; (try dsimp only at hSw); go_simp; (try with_reducible rfl))
      rotate_left
      · exact fun _ _ _ h => h
      try simp only [Act.put, List.setIfInBounds_toArray, List.set_cons_zero, List.set_cons_succ]
      refine wpAnyH_take (i := 7) (oi := ?_) (v := ?_) ?_ (by kernel_rfl) (by kernel_rfl) (by kernel_rfl) ?_ ?_ (by assumption) ?_
      rotate_left 2
      · (simp only [List.getElem?_toArray, List.getElem?_cons_succ, List.getElem?_cons_zero]; rfl)
      rotate_left
      · (refine Or.inl ⟨by rfl, ?_⟩; intro w hSw; (try dsimp only at hSw); go_simp; (try with_reducible rfl))
      rotate_left
      · exact fun _ _ _ h => h
      try simp only [Act.put, List.setIfInBounds_toArray, List.set_cons_zero, List.set_cons_succ]
      refine wpAnyH_take (i := 8) (oi := ?_) (v := ?_) ?_ (by kernel_rfl) (by kernel_rfl) (by kernel_rfl) ?_ ?_ (by assumption) ?_
      rotate_left 2
      · (simp only [List.getElem?_toArray, List.getElem?_cons_succ, List.getElem?_cons_zero]; rfl)
      rotate_left
      · (refine Or.inl ⟨by rfl, ?_⟩; intro w hSw; (try dsimp only at hSw); go_simp; (try with_reducible rfl))
      rotate_left
      · exact fun _ _ _ h => h
      try simp only [Act.put, List.setIfInBounds_toArray, List.set_cons_zero, List.set_cons_succ]
      refine wpAnyH_take (i := 9) (oi := ?_) (v := ?_) ?_ (by kernel_rfl) (by kernel_rfl) (by kernel_rfl) ?_ ?_ (by assumption) ?_
      rotate_left 2
      · (simp only [List.getElem?_toArray, List.getElem?_cons_succ, List.getElem?_cons_zero]; rfl)
      rotate_left
      · (refine Or.inl ⟨by rfl, ?_⟩; intro w hSw; (try dsimp only at hSw); go_simp; (try with_reducible rfl))
      rotate_left
      · exact fun _ _ _ h => h
      try simp only [Act.put, List.setIfInBounds_toArray, List.set_cons_zero, List.set_cons_succ]
      refine wpAnyH_take (i := 10) (oi := ?_) (v := ?_) ?_ (by kernel_rfl) (by kernel_rfl) (by kernel_rfl) ?_ ?_ (by assumption) ?_
      rotate_left 2
      · (simp only [List.getElem?_toArray, List.getElem?_cons_succ, List.getElem?_cons_zero]; rfl)
      rotate_left
      · (refine Or.inl ⟨by rfl, ?_⟩; intro w hSw; (try dsimp only at hSw); go_simp; (try with_reducible rfl))
      rotate_left
      · exact fun _ _ _ h => h
      try simp only [Act.put, List.setIfInBounds_toArray, List.set_cons_zero, List.set_cons_succ]
      refine wpAnyH_take (i := 11) (oi := ?_) (v := ?_) ?_ (by kernel_rfl) (by kernel_rfl) (by kernel_rfl) ?_ ?_ (by assumption) ?_
      rotate_left 2
      · (simp only [List.getElem?_toArray, List.getElem?_cons_succ, List.getElem?_cons_zero]; rfl)
      rotate_left
      · (refine Or.inl ⟨by rfl, ?_⟩; intro w hSw; (try dsimp only at hSw); go_simp; (try with_reducible rfl))
      rotate_left
      · exact fun _ _ _ h => h
      try simp only [Act.put, List.setIfInBounds_toArray, List.set_cons_zero, List.set_cons_succ]
      refine wpAnyH_take (i := 12) (oi := ?_) (v := ?_) ?_ (by kernel_rfl) (by kernel_rfl) (by kernel_rfl) ?_ ?_ (by assumption) ?_
      rotate_left 2
      · (simp only [List.getElem?_toArray, List.getElem?_cons_succ, List.getElem?_cons_zero]; rfl)
      rotate_left
      · (refine Or.inl ⟨by rfl, ?_⟩; intro w hSw; (try dsimp only at hSw); go_simp; (try with_reducible rfl))
      rotate_left
      · exact fun _ _ _ h => h
      try simp only [Act.put, List.setIfInBounds_toArray, List.set_cons_zero, List.set_cons_succ]
      refine wpAnyH_take (i := 13) (oi := ?_) (v := ?_) ?_ (by kernel_rfl) (by kernel_rfl) (by kernel_rfl) ?_ ?_ (by assumption) ?_
      rotate_left 2
      · (simp only [List.getElem?_toArray, List.getElem?_cons_succ, List.getElem?_cons_zero]; rfl)
      rotate_left
      · (refine Or.inl ⟨by rfl, ?_⟩; intro w hSw; (try dsimp only at hSw); go_simp; (try with_reducible rfl))
      rotate_left
      · exact fun _ _ _ h => h
      try simp only [Act.put, List.setIfInBounds_toArray, List.set_cons_zero, List.set_cons_succ]
      refine wpAnyH_ready (rs := [14]) (by kernel_rfl) (by simp) ?_
      refine AllReadyH.cons (o := ?_) ?_ (fun K hK => ?_) AllReadyH.nil
      rotate_left
      · (simp only [List.getElem?_toArray, List.getElem?_cons_succ, List.getElem?_cons_zero]; rfl)
      go_simp
      refine (labels30_any x QA qn qc pt _ (hx.below (bel HB.out hbd)) (HQ.out.below hbd) hqc hqn9).mono ?_
      rintro e wb ⟨⟨LA, ln, lc, rfl, hL⟩, bb⟩
      have bb2 := bel hbd bb
      have S1 := hmk _ bb2
      have hll : ln ≤ 1000000000 := by (rw [hL.1]; exact hlb)
      dsimp only
      refine hK.out _ _ S1 (fun hHeld => ?_)
      clear hK K
      try simp only [Act.put, List.setIfInBounds_toArray, List.set_cons_zero, List.set_cons_succ]
      refine wpAnyH_take (i := 15) (oi := ?_) (v := ?_) ?_ (by kernel_rfl) (by kernel_rfl) (by kernel_rfl) ?_ ?_ (by assumption) ?_
      rotate_left 2
      · (simp only [List.getElem?_toArray, List.getElem?_cons_succ, List.getElem?_cons_zero]; rfl)
      rotate_left
      · (refine Or.inl ⟨by rfl, ?_⟩; intro w hSw; (try dsimp only at hSw); go_simp; (try with_reducible rfl))
      rotate_left
      · exact fun _ _ _ h => h
      try simp only [Act.put, List.setIfInBounds_toArray, List.set_cons_zero, List.set_cons_succ]
      refine wpAnyH_ready (rs := [16]) (by kernel_rfl) (by simp) ?_
      refine AllReadyH.cons (o := ?_) ?_ (fun K hK => ?_) AllReadyH.nil
      rotate_left
      · (simp only [List.getElem?_toArray, List.getElem?_cons_succ, List.getElem?_cons_zero]; rfl)
      go_simp
      refine (blocks_any x 0 QA qn qc pt LA ln lc _ _ (hx.below (bel HB.out bb2)) (HQ.out.below bb2) hqc hqn9 hL hll).mono ?_
      rw [HBL.out]
      rintro e wc ⟨rfl, bc⟩
      have bc2 := bel bb2 bc
      have S2 := hmk _ bc2
      dsimp only
      refine hK.out _ _ S2 (fun hHeld => ?_)
      clear hK K
      try simp only [Act.put, List.setIfInBounds_toArray, List.set_cons_zero, List.set_cons_succ]
      refine wpAnyH_take (i := 17) (oi := ?_) (v := ?_) ?_ (by kernel_rfl) (by kernel_rfl) (by kernel_rfl) ?_ ?_ (by assumption) ?_
      rotate_left 2
      · (simp only [List.getElem?_toArray, List.getElem?_cons_succ, List.getElem?_cons_zero]; rfl)
      rotate_left
      · (refine Or.inl ⟨by rfl, ?_⟩; intro w hSw; (try dsimp only at hSw); go_simp; (try with_reducible rfl))
      rotate_left
      · exact fun _ _ _ h => h
      try simp only [Act.put, List.setIfInBounds_toArray, List.set_cons_zero, List.set_cons_succ]
      refine wpAnyH_take (i := 18) (oi := ?_) (v := ?_) ?_ (by kernel_rfl) (by kernel_rfl) (by kernel_rfl) ?_ ?_ (by assumption) ?_
      rotate_left 2
      · (simp only [List.getElem?_toArray, List.getElem?_cons_succ, List.getElem?_cons_zero]; rfl)
      rotate_left
      · (refine Or.inl ⟨by rfl, ?_⟩; intro w hSw; (try dsimp only at hSw); go_simp; (try with_reducible rfl))
      rotate_left
      · exact fun _ _ _ h => h
      try simp only [Act.put, List.setIfInBounds_toArray, List.set_cons_zero, List.set_cons_succ]
      refine wpAnyH_take (i := 19) (oi := ?_) (v := ?_) ?_ (by kernel_rfl) (by kernel_rfl) (by kernel_rfl) ?_ ?_ (by assumption) ?_
      rotate_left 2
      · (simp only [List.getElem?_toArray, List.getElem?_cons_succ, List.getElem?_cons_zero]; rfl)
      rotate_left
      · (refine Or.inl ⟨by rfl, ?_⟩; intro w hSw; (try dsimp only at hSw); go_simp; (try with_reducible rfl))
      rotate_left
      · exact fun _ _ _ h => h
      try simp only [Act.put, List.setIfInBounds_toArray, List.set_cons_zero, List.set_cons_succ]
      refine wpAnyH_take (i := 20) (oi := ?_) (v := undef) ?_ (by kernel_rfl) (by kernel_rfl) (by kernel_rfl) ?_ ?_ (by assumption) ?_
      rotate_left
      · (simp only [List.getElem?_toArray, List.getElem?_cons_succ, List.getElem?_cons_zero]; rfl)
      rotate_left
      · (refine Or.inr ⟨by rfl, rfl⟩)
      rotate_left
      · exact fun _ _ _ h => h
      try simp only [Act.put, List.setIfInBounds_toArray, List.set_cons_zero, List.set_cons_succ]
      refine wpAnyH_take (i := 21) (oi := ?_) (v := undef) ?_ (by kernel_rfl) (by kernel_rfl) (by kernel_rfl) ?_ ?_ (by assumption) ?_
      rotate_left
      · (simp only [List.getElem?_toArray, List.getElem?_cons_succ, List.getElem?_cons_zero]; rfl)
      rotate_left
      · (refine Or.inr ⟨by rfl, rfl⟩)
      rotate_left
      · exact fun _ _ _ h => h
      try simp only [Act.put, List.setIfInBounds_toArray, List.set_cons_zero, List.set_cons_succ]
      refine wpAnyH_take (i := 22) (oi := ?_) (v := ?_) ?_ (by kernel_rfl) (by kernel_rfl) (by kernel_rfl) ?_ ?_ (by assumption) ?_
      rotate_left 2
      · (simp only [List.getElem?_toArray, List.getElem?_cons_succ, List.getElem?_cons_zero]; rfl)
      rotate_left
      · (refine Or.inl ⟨by rfl, ?_⟩; intro w hSw; (try dsimp only at hSw); go_simp; (try with_reducible rfl))
      rotate_left
      · exact fun _ _ _ h => h
      try simp only [Act.put, List.setIfInBounds_toArray, List.set_cons_zero, List.set_cons_succ]
      refine wpAnyH_take (i := 23) (oi := ?_) (v := ?_) ?_ (by kernel_rfl) (by kernel_rfl) (by kernel_rfl) ?_ ?_ (by assumption) ?_
      rotate_left 2
      · (simp only [List.getElem?_toArray, List.getElem?_cons_succ, List.getElem?_cons_zero]; rfl)
      rotate_left
      · (refine Or.inl ⟨by rfl, ?_⟩; intro w hSw; (try dsimp only at hSw); go_simp; (try with_reducible rfl))
      rotate_left
      · exact fun _ _ _ h => h
      try simp only [Act.put, List.setIfInBounds_toArray, List.set_cons_zero, List.set_cons_succ]
      refine wpAnyH_take (i := 24) (oi := ?_) (v := ?_) ?_ (by kernel_rfl) (by kernel_rfl) (by kernel_rfl) ?_ ?_ (by assumption) ?_
      rotate_left 2
      · (simp only [List.getElem?_toArray, List.getElem?_cons_succ, List.getElem?_cons_zero]; rfl)
      rotate_left
      · (refine Or.inl ⟨by rfl, ?_⟩; intro w hSw; (try dsimp only at hSw); go_simp; (try with_reducible rfl))
      rotate_left
      · exact fun _ _ _ h => h
      try simp only [Act.put, List.setIfInBounds_toArray, List.set_cons_zero, List.set_cons_succ]
      refine wpAnyH_done (by kernel_rfl) ?_ _
      all_goals
        go_wp2_with fail
        go_ret
        exact ⟨rfl, bel HB.out bc2⟩
    · rw [hn] at hbl
      have HBL := Lib.hid hbl
      have hy4 : (Y.2 == 4) = true := by rw [HR2.out (by simpa using hn)]; rfl
      clear hbl hn
      go_region_held3 (fun (w' : World) => w'.cell? ⟨w.heap.size, 0, none⟩ = some (.int .i64 x.nd) ∧ w'.cell? ⟨w.heap.size, 1, none⟩ = some (.slice x.A x.n x.c) ∧ w'.cell? ⟨w.heap.size + 1, 0, none⟩ = some (.int .i64 x.s.day) ∧ w'.cell? ⟨w.heap.size + 1, 1, none⟩ = some (.int .i64 x.s.depot) ∧ w'.cell? ⟨w.heap.size + 1, 2, none⟩ = some (.int .i64 x.s.start) ∧ w'.cell? ⟨w.heap.size + 1, 3, none⟩ = some (.int .i64 x.s.end_) ∧ w'.cell? ⟨w.heap.size + 1, 4, none⟩ = some (.int .i64 x.s.tare) ∧ w'.cell? ⟨w.heap.size + 1, 5, none⟩ = some (.slice x.s.A x.s.n x.s.c))
        (first | with_reducible exact S2 | with_reducible exact S1 | with_reducible exact S0d | with_reducible exact S0 | fail)
        (first
                | (go_at_call 30; refine (labels30_any x QA qn qc pt _ (hx.below (bel HB.out hbd)) (HQ.out.below hbd) hqc hqn9).mono ?_; rintro e wb ⟨⟨LA, ln, lc, rfl, hL⟩, bb⟩; have bb2 := bel hbd bb; have S1 := hmk _ bb2; have hll : ln ≤ 1000000000 := by (rw [hL.1]; exact hlb))
                | (go_at_call 32; refine (blocks_any x 0 QA qn qc pt LA ln lc _ _ (hx.below (bel HB.out bb2)) (HQ.out.below bb2) hqc hqn9 hL hll).mono ?_; rw [HBL.out]; rintro e wc ⟨rfl, bc⟩; have bc2 := bel bb2 bc; have S2 := hmk _ bc2)
                | fail)
      go_wp2_with fail
      go_ret
      exact ⟨rfl, bel HB.out bc2⟩
  · have e1 : (Y.2 == 0) = true := hy2.symm
    obtain ⟨k2, k3⟩ := k1 rfl
    clear hy2 k1 hq4 q4
    cases hq0 : ((qn : Int) == 0)
    rotate_left
    · clear hr1 p0 p1 s0 s1 s2 s3 s4 s5
      go_wp2_with fail
      rw [← hwa]
      clear hwa t3 u3
      refine reg_beh (by kernel_rfl) (by kernel_rfl) ?_
      repeat (go_big_quiet_step (fail))
      refine wpQuiet_nil ?_
      rintro w5 ⟨⟨_, b45⟩, rfl⟩
      go_wp2_with fail
      go_ret
      exact ⟨rfl, bel HB.out b45⟩
    have hptne : pt ≠ [] := fun h => by
      have h1 : qn = 0 := by rw [HQ.out.1, h]; rfl
      rw [h1] at hq0; cases hq0
    have hbl := K.proves_law HOK2.out hptne
    go_wp2_with fail
    rw [← hwa]
    clear hwa p0 p1 s0 s1 s2 s3 s4 s5 t3 u3
    have hlb : (K.labs x.nd x.l x.s x.r pt).length ≤ 1000000000 := by have := K.labs_len x.nd x.l x.s x.r pt; omega
    have hqn9 : qn ≤ 1000000000 := by omega
    have hmk : ∀ w', Below wa.heap.size wa w' → (fun (w' : World) => w'.cell? ⟨w.heap.size, 0, none⟩ = some (.int .i64 x.nd) ∧ w'.cell? ⟨w.heap.size, 1, none⟩ = some (.slice x.A x.n x.c) ∧ w'.cell? ⟨w.heap.size + 1, 0, none⟩ = some (.int .i64 x.s.day) ∧ w'.cell? ⟨w.heap.size + 1, 1, none⟩ = some (.int .i64 x.s.depot) ∧ w'.cell? ⟨w.heap.size + 1, 2, none⟩ = some (.int .i64 x.s.start) ∧ w'.cell? ⟨w.heap.size + 1, 3, none⟩ = some (.int .i64 x.s.end_) ∧ w'.cell? ⟨w.heap.size + 1, 4, none⟩ = some (.int .i64 x.s.tare) ∧ w'.cell? ⟨w.heap.size + 1, 5, none⟩ = some (.slice x.s.A x.s.n x.s.c)) w' := fun w' h => ⟨(HP.out.below h).c0, (HP.out.below h).c1, (HS.out.below h).cells⟩
    have hbd : Below wa.heap.size wa wa.drew := (Below.refl _ _).drew
    have S0 := hmk _ (Below.refl _ _)
    have S0d := hmk _ hbd
    cases hn : (K.best x.nd x.l x.s x.r pt).isNone
    · rw [hn] at hbl
      have HBL := Lib.hid hbl
      clear hbl hn
      refine wp_region_held_drew (S := (fun (w' : World) => w'.cell? ⟨w.heap.size, 0, none⟩ = some (.int .i64 x.nd) ∧ w'.cell? ⟨w.heap.size, 1, none⟩ = some (.slice x.A x.n x.c) ∧ w'.cell? ⟨w.heap.size + 1, 0, none⟩ = some (.int .i64 x.s.day) ∧ w'.cell? ⟨w.heap.size + 1, 1, none⟩ = some (.int .i64 x.s.depot) ∧ w'.cell? ⟨w.heap.size + 1, 2, none⟩ = some (.int .i64 x.s.start) ∧ w'.cell? ⟨w.heap.size + 1, 3, none⟩ = some (.int .i64 x.s.end_) ∧ w'.cell? ⟨w.heap.size + 1, 4, none⟩ = some (.int .i64 x.s.tare) ∧ w'.cell? ⟨w.heap.size + 1, 5, none⟩ = some (.slice x.s.A x.s.n x.s.c))) (by kernel_rfl) S0d (fun hHeld => ?_)
      refine wpAnyH_take (i := 0) (oi := ?_) (v := ?_) ?_ (by kernel_rfl) (by kernel_rfl) (by kernel_rfl) ?_ ?_ (by assumption) ?_
      rotate_left 2
      · (simp only [List.getElem?_toArray, List.getElem?_cons_zero]; rfl)
      rotate_left
      · (refine Or.inl ⟨by rfl, ?_⟩; intro w hSw; (try dsimp only at hSw); go_simp; (try with_reducible rfl))
      rotate_left
      · exact fun _ _ _ h => h
      try simp only [Act.put, List.setIfInBounds_toArray, List.set_cons_zero, List.set_cons_succ]
      refine wpAnyH_take (i := 1) (oi := ?_) (v := ?_) ?_ (by kernel_rfl) (by kernel_rfl) (by kernel_rfl) ?_ ?_ (by assumption) ?_
      rotate_left 2
      · (simp only [List.getElem?_toArray, List.getElem?_cons_succ, List.getElem?_cons_zero]; rfl)
      rotate_left
      · (refine Or.inl ⟨by rfl, ?_⟩; intro w hSw; (try dsimp only at hSw); go_simp; (try with_reducible rfl))
      rotate_left
      · exact fun _ _ _ h => h
      try simp only [Act.put, List.setIfInBounds_toArray, List.set_cons_zero, List.set_cons_succ]
      refine wpAnyH_take (i := 2) (oi := ?_) (v := ?_) ?_ (by kernel_rfl) (by kernel_rfl) (by kernel_rfl) ?_ ?_ (by assumption) ?_
      rotate_left 2
      · (simp only [List.getElem?_toArray, List.getElem?_cons_succ, List.getElem?_cons_zero]; rfl)
      rotate_left
      · (refine Or.inl ⟨by rfl, ?_⟩; intro w hSw; (try dsimp only at hSw); go_simp; (try with_reducible rfl))
      rotate_left
      · exact fun _ _ _ h => h
      try simp only [Act.put, List.setIfInBounds_toArray, List.set_cons_zero, List.set_cons_succ]
      refine wpAnyH_take (i := 3) (oi := ?_) (v := ?_) ?_ (by kernel_rfl) (by kernel_rfl) (by kernel_rfl) ?_ ?_ (by assumption) ?_
      rotate_left 2
      · (simp only [List.getElem?_toArray, List.getElem?_cons_succ, List.getElem?_cons_zero]; rfl)
      rotate_left
      · (refine Or.inl ⟨by rfl, ?_⟩; intro w hSw; (try dsimp only at hSw); go_simp; (try with_reducible rfl))
      rotate_left
      · exact fun _ _ _ h => h
      try simp only [Act.put, List.setIfInBounds_toArray, List.set_cons_zero, List.set_cons_succ]
      refine wpAnyH_take (i := 4) (oi := ?_) (v := ?_) ?_ (by kernel_rfl) (by kernel_rfl) (by kernel_rfl) ?_ ?_ (by assumption) ?_
      rotate_left 2
      · (simp only [List.getElem?_toArray, List.getElem?_cons_succ, List.getElem?_cons_zero]; rfl)
      rotate_left
      · (refine Or.inl ⟨by rfl, ?_⟩; intro w hSw; (try dsimp only at hSw); go_simp; (try with_reducible rfl))
      rotate_left
      · exact fun _ _ _ h => h
      try simp only [Act.put, List.setIfInBounds_toArray, List.set_cons_zero, List.set_cons_succ]
      refine wpAnyH_take (i := 5) (oi := ?_) (v := ?_) ?_ (by kernel_rfl) (by kernel_rfl) (by kernel_rfl) ?_ ?_ (by assumption) ?_
      rotate_left 2
      · (simp only [List.getElem?_toArray, List.getElem?_cons_succ, List.getElem?_cons_zero]; rfl)
      rotate_left
      · (refine Or.inl ⟨by rfl, ?_⟩; intro w hSw; (try dsimp only at hSw); go_simp; (try with_reducible rfl))
      rotate_left
      · exact fun _ _ _ h => h
      try simp only [Act.put, List.setIfInBounds_toArray, List.set_cons_zero, List.set_cons_succ]
      refine wpAnyH_take (i := 6) (oi := ?_) (v := ?_) ?_ (by kernel_rfl) (by kernel_rfl) (by kernel_rfl) ?_ ?_ (by assumption) ?_
      rotate_left 2
      · (simp only [List.getElem?_toArray, List.getElem?_cons_succ, List.getElem?_cons_zero]; rfl)
      rotate_left
      · (refine Or.inl ⟨by rfl, ?_⟩; intro w hSw; (try dsimp only at hSw); go_simp; (try with_reducible rfl))
      rotate_left
      · exact fun _ _ _ h => h
      try simp only [Act.put, List.setIfInBounds_toArray, List.set_cons_zero, List.set_cons_succ]
      refine wpAnyH_take (i := 7) (oi := ?_) (v := ?_) ?_ (by kernel_rfl) (by kernel_rfl) (by kernel_rfl) ?_ ?_ (by assumption) ?_
      rotate_left 2
      · (simp only [List.getElem?_toArray, List.getElem?_cons_succ, List.getElem?_cons_zero]; rfl)
      rotate_left
      · (refine Or.inl ⟨by rfl, ?_⟩; intro w hSw; (try dsimp only at hSw); go_simp; (try with_reducible rfl))
      rotate_left
      · exact fun _ _ _ h => h
      try simp only [Act.put, List.setIfInBounds_toArray, List.set_cons_zero, List.set_cons_succ]
      refine wpAnyH_take (i := 8) (oi := ?_) (v := ?_) ?_ (by kernel_rfl) (by kernel_rfl) (by kernel_rfl) ?_ ?_ (by assumption) ?_
      rotate_left 2
      · (simp only [List.getElem?_toArray, List.getElem?_cons_succ, List.getElem?_cons_zero]; rfl)
      rotate_left
      · (refine Or.inl ⟨by rfl, ?_⟩; intro w hSw; (try dsimp only at hSw); go_simp; (try with_reducible rfl))
      rotate_left
      · exact fun _ _ _ h => h
      try simp only [Act.put, List.setIfInBounds_toArray, List.set_cons_zero, List.set_cons_succ]
      refine wpAnyH_take (i := 9) (oi := ?_) (v := ?_) ?_ (by kernel_rfl) (by kernel_rfl) (by kernel_rfl) ?_ ?_ (by assumption) ?_
      rotate_left 2
      · (simp only [List.getElem?_toArray, List.getElem?_cons_succ, List.getElem?_cons_zero]; rfl)
      rotate_left
      · (refine Or.inl ⟨by rfl, ?_⟩; intro w hSw; (try dsimp only at hSw); go_simp; (try with_reducible rfl))
      rotate_left
      · exact fun _ _ _ h => h
      try simp only [Act.put, List.setIfInBounds_toArray, List.set_cons_zero, List.set_cons_succ]
      refine wpAnyH_take (i := 10) (oi := ?_) (v := ?_) ?_ (by kernel_rfl) (by kernel_rfl) (by kernel_rfl) ?_ ?_ (by assumption) ?_
      rotate_left 2
      · (simp only [List.getElem?_toArray, List.getElem?_cons_succ, List.getElem?_cons_zero]; rfl)
      rotate_left
      · (refine Or.inl ⟨by rfl, ?_⟩; intro w hSw; (try dsimp only at hSw); go_simp; (try with_reducible rfl))
      rotate_left
      · exact fun _ _ _ h => h
      try simp only [Act.put, List.setIfInBounds_toArray, List.set_cons_zero, List.set_cons_succ]
      refine wpAnyH_take (i := 11) (oi := ?_) (v := ?_) ?_ (by kernel_rfl) (by kernel_rfl) (by kernel_rfl) ?_ ?_ (by assumption) ?_
      rotate_left 2
      · (simp only [List.getElem?_toArray, List.getElem?_cons_succ, List.getElem?_cons_zero]; rfl)
      rotate_left
      · (refine Or.inl ⟨by rfl, ?_⟩; intro w hSw; (try dsimp only at hSw); go_simp; (try with_reducible rfl))
      rotate_left
      · exact fun _ _ _ h => h
      try simp only [Act.put, List.setIfInBounds_toArray, List.set_cons_zero, List.set_cons_succ]
      refine wpAnyH_take (i := 12) (oi := ?_) (v := ?_) ?_ (by kernel_rfl) (by kernel_rfl) (by kernel_rfl) ?_ ?_ (by assumption) ?_
      rotate_left 2
      · (simp only [List.getElem?_toArray, List.getElem?_cons_succ, List.getElem?_cons_zero]; rfl)
      rotate_left
      · (refine Or.inl ⟨by rfl, ?_⟩; intro w hSw; (try dsimp only at hSw); go_simp; (try with_reducible rfl))
      rotate_left
      · exact fun _ _ _ h => h
      try simp only [Act.put, List.setIfInBounds_toArray, List.set_cons_zero, List.set_cons_succ]
      refine wpAnyH_take (i := 13) (oi := ?_) (v := ?_) ?_ (by kernel_rfl) (by kernel_rfl) (by kernel_rfl) ?_ ?_ (by assumption) ?_
      rotate_left 2
      · (simp only [List.getElem?_toArray, List.getElem?_cons_succ, List.getElem?_cons_zero]; rfl)
      rotate_left
      · (refine Or.inl ⟨by rfl, ?_⟩; intro w hSw; (try dsimp only at hSw); go_simp; (try with_reducible rfl))
      rotate_left
      · exact fun _ _ _ h => h
      try simp only [Act.put, List.setIfInBounds_toArray, List.set_cons_zero, List.set_cons_succ]
      refine wpAnyH_ready (rs := [14]) (by kernel_rfl) (by simp) ?_
      refine AllReadyH.cons (o := ?_) ?_ (fun K hK => ?_) AllReadyH.nil
      rotate_left
      · (simp only [List.getElem?_toArray, List.getElem?_cons_succ, List.getElem?_cons_zero]; rfl)
      go_simp
      refine (labels30_any x QA qn qc pt _ (hx.below (bel HB.out hbd)) (HQ.out.below hbd) hqc hqn9).mono ?_
      rintro e wb ⟨⟨LA, ln, lc, rfl, hL⟩, bb⟩
      have bb2 := bel hbd bb
      have S1 := hmk _ bb2
      have hll : ln ≤ 1000000000 := by (rw [hL.1]; exact hlb)
      dsimp only
      refine hK.out _ _ S1 (fun hHeld => ?_)
      clear hK K
      try simp only [Act.put, List.setIfInBounds_toArray, List.set_cons_zero, List.set_cons_succ]
      refine wpAnyH_take (i := 15) (oi := ?_) (v := ?_) ?_ (by kernel_rfl) (by kernel_rfl) (by kernel_rfl) ?_ ?_ (by assumption) ?_
      rotate_left 2
      · (simp only [List.getElem?_toArray, List.getElem?_cons_succ, List.getElem?_cons_zero]; rfl)
      rotate_left
      · (refine Or.inl ⟨by rfl, ?_⟩; intro w hSw; (try dsimp only at hSw); go_simp; (try with_reducible rfl))
      rotate_left
      · exact fun _ _ _ h => h
      try simp only [Act.put, List.setIfInBounds_toArray, List.set_cons_zero, List.set_cons_succ]
      refine wpAnyH_ready (rs := [16]) (by kernel_rfl) (by simp) ?_
      refine AllReadyH.cons (o := ?_) ?_ (fun K hK => ?_) AllReadyH.nil
      rotate_left
      · (simp only [List.getElem?_toArray, List.getElem?_cons_succ, List.getElem?_cons_zero]; rfl)
      go_simp
      refine (blocks_any x 0 QA qn qc pt LA ln lc _ _ (hx.below (bel HB.out bb2)) (HQ.out.below bb2) hqc hqn9 hL hll).mono ?_
      rw [HBL.out]
      rintro e wc ⟨rfl, bc⟩
      have bc2 := bel bb2 bc
      have S2 := hmk _ bc2
      dsimp only
      refine hK.out _ _ S2 (fun hHeld => ?_)
      clear hK K
      try simp only [Act.put, List.setIfInBounds_toArray, List.set_cons_zero, List.set_cons_succ]
      refine wpAnyH_take (i := 17) (oi := ?_) (v := ?_) ?_ (by kernel_rfl) (by kernel_rfl) (by kernel_rfl) ?_ ?_ (by assumption) ?_
      rotate_left 2
      · (simp only [List.getElem?_toArray, List.getElem?_cons_succ, List.getElem?_cons_zero]; rfl)
      rotate_left
      · (refine Or.inl ⟨by rfl, ?_⟩; intro w hSw; (try dsimp only at hSw); go_simp; (try with_reducible rfl))
      rotate_left
      · exact fun _ _ _ h => h
      try simp only [Act.put, List.setIfInBounds_toArray, List.set_cons_zero, List.set_cons_succ]
      refine wpAnyH_take (i := 18) (oi := ?_) (v := ?_) ?_ (by kernel_rfl) (by kernel_rfl) (by kernel_rfl) ?_ ?_ (by assumption) ?_
      rotate_left 2
      · (simp only [List.getElem?_toArray, List.getElem?_cons_succ, List.getElem?_cons_zero]; rfl)
      rotate_left
      · (refine Or.inl ⟨by rfl, ?_⟩; intro w hSw; (try dsimp only at hSw); go_simp; (try with_reducible rfl))
      rotate_left
      · exact fun _ _ _ h => h
      try simp only [Act.put, List.setIfInBounds_toArray, List.set_cons_zero, List.set_cons_succ]
      refine wpAnyH_take (i := 19) (oi := ?_) (v := ?_) ?_ (by kernel_rfl) (by kernel_rfl) (by kernel_rfl) ?_ ?_ (by assumption) ?_
      rotate_left 2
      · (simp only [List.getElem?_toArray, List.getElem?_cons_succ, List.getElem?_cons_zero]; rfl)
      rotate_left
      · (refine Or.inl ⟨by rfl, ?_⟩; intro w hSw; (try dsimp only at hSw); go_simp; (try with_reducible rfl))
      rotate_left
      · exact fun _ _ _ h => h
      try simp only [Act.put, List.setIfInBounds_toArray, List.set_cons_zero, List.set_cons_succ]
      refine wpAnyH_take (i := 20) (oi := ?_) (v := undef) ?_ (by kernel_rfl) (by kernel_rfl) (by kernel_rfl) ?_ ?_ (by assumption) ?_
      rotate_left
      · (simp only [List.getElem?_toArray, List.getElem?_cons_succ, List.getElem?_cons_zero]; rfl)
      rotate_left
      · (refine Or.inr ⟨by rfl, rfl⟩)
      rotate_left
      · exact fun _ _ _ h => h
      try simp only [Act.put, List.setIfInBounds_toArray, List.set_cons_zero, List.set_cons_succ]
      refine wpAnyH_take (i := 21) (oi := ?_) (v := undef) ?_ (by kernel_rfl) (by kernel_rfl) (by kernel_rfl) ?_ ?_ (by assumption) ?_
      rotate_left
      · (simp only [List.getElem?_toArray, List.getElem?_cons_succ, List.getElem?_cons_zero]; rfl)
      rotate_left
      · (refine Or.inr ⟨by rfl, rfl⟩)
      rotate_left
      · exact fun _ _ _ h => h
      try simp only [Act.put, List.setIfInBounds_toArray, List.set_cons_zero, List.set_cons_succ]
      refine wpAnyH_take (i := 22) (oi := ?_) (v := ?_) ?_ (by kernel_rfl) (by kernel_rfl) (by kernel_rfl) ?_ ?_ (by assumption) ?_
      rotate_left 2
      · (simp only [List.getElem?_toArray, List.getElem?_cons_succ, List.getElem?_cons_zero]; rfl)
      rotate_left
      · (refine Or.inl ⟨by rfl, ?_⟩; intro w hSw; (try dsimp only at hSw); go_simp; (try with_reducible rfl))
      rotate_left
      · exact fun _ _ _ h => h
      try simp only [Act.put, List.setIfInBounds_toArray, List.set_cons_zero, List.set_cons_succ]
      refine wpAnyH_take (i := 23) (oi := ?_) (v := ?_) ?_ (by kernel_rfl) (by kernel_rfl) (by kernel_rfl) ?_ ?_ (by assumption) ?_
      rotate_left 2
      · (simp only [List.getElem?_toArray, List.getElem?_cons_succ, List.getElem?_cons_zero]; rfl)
      rotate_left
      · (refine Or.inl ⟨by rfl, ?_⟩; intro w hSw; (try dsimp only at hSw); go_simp; (try with_reducible rfl))
      rotate_left
      · exact fun _ _ _ h => h
      try simp only [Act.put, List.setIfInBounds_toArray, List.set_cons_zero, List.set_cons_succ]
      refine wpAnyH_take (i := 24) (oi := ?_) (v := ?_) ?_ (by kernel_rfl) (by kernel_rfl) (by kernel_rfl) ?_ ?_ (by assumption) ?_
      rotate_left 2
      · (simp only [List.getElem?_toArray, List.getElem?_cons_succ, List.getElem?_cons_zero]; rfl)
      rotate_left
      · (refine Or.inl ⟨by rfl, ?_⟩; intro w hSw; (try dsimp only at hSw); go_simp; (try with_reducible rfl))
      rotate_left
      · exact fun _ _ _ h => h
      try simp only [Act.put, List.setIfInBounds_toArray, List.set_cons_zero, List.set_cons_succ]
      refine wpAnyH_done (by kernel_rfl) ?_ _
      all_goals
        go_wp2_with fail
        go_ret
        exact ⟨rfl, bel HB.out bc2⟩
    · rw [hn] at hbl
      have HBL := Lib.hid hbl
      have hy4 : (Y.2 == 4) = true := by rw [HR2.out (by simpa using hn)]; rfl
      clear hbl hn
      go_region_held3 (fun (w' : World) => w'.cell? ⟨w.heap.size, 0, none⟩ = some (.int .i64 x.nd) ∧ w'.cell? ⟨w.heap.size, 1, none⟩ = some (.slice x.A x.n x.c) ∧ w'.cell? ⟨w.heap.size + 1, 0, none⟩ = some (.int .i64 x.s.day) ∧ w'.cell? ⟨w.heap.size + 1, 1, none⟩ = some (.int .i64 x.s.depot) ∧ w'.cell? ⟨w.heap.size + 1, 2, none⟩ = some (.int .i64 x.s.start) ∧ w'.cell? ⟨w.heap.size + 1, 3, none⟩ = some (.int .i64 x.s.end_) ∧ w'.cell? ⟨w.heap.size + 1, 4, none⟩ = some (.int .i64 x.s.tare) ∧ w'.cell? ⟨w.heap.size + 1, 5, none⟩ = some (.slice x.s.A x.s.n x.s.c))
        (first | with_reducible exact S2 | with_reducible exact S1 | with_reducible exact S0d | with_reducible exact S0 | fail)
        (first
                | (go_at_call 30; refine (labels30_any x QA qn qc pt _ (hx.below (bel HB.out hbd)) (HQ.out.below hbd) hqc hqn9).mono ?_; rintro e wb ⟨⟨LA, ln, lc, rfl, hL⟩, bb⟩; have bb2 := bel hbd bb; have S1 := hmk _ bb2; have hll : ln ≤ 1000000000 := by (rw [hL.1]; exact hlb))
                | (go_at_call 32; refine (blocks_any x 0 QA qn qc pt LA ln lc _ _ (hx.below (bel HB.out bb2)) (HQ.out.below bb2) hqc hqn9 hL hll).mono ?_; rw [HBL.out]; rintro e wc ⟨rfl, bc⟩; have bc2 := bel bb2 bc; have S2 := hmk _ bc2)
                | fail)
      go_wp2_with fail
      go_ret
      exact ⟨rfl, bel HB.out bc2⟩
end Go.Proofs.Ytjcdpfpdjcannaa
