/-
Plans: the walk of PlanServes.
-/
import Derived.Test.YtippdjmpkafifaaY24
import Derived.Test.YtippdjmpkafifaaBX
namespace Go.Proofs.Ytippdjmpkafifaa
open Go.RowKit

theorem flat_le (k : Nat) : ∀ l : List TV, (∀ t ∈ l, t.t.stops.length ≤ k) → (l.flatMap fun y => y.t.stops).length ≤ k * l.length
  | [], _ => Nat.zero_le _
  | t :: l, h => by
    rw [List.flatMap_cons, List.length_append, List.length_cons]
    have h1 := h t (List.mem_cons_self ..)
    have h2 := flat_le k l fun u hu => h u (List.mem_cons_of_mem _ hu)
    rw [Nat.mul_add]
    omega
set_option maxRecDepth 100000 in
set_option maxHeartbeats 16000000 in
theorem planServes_any (x : Cs) (TA : Option Addr) (tn tc : Nat) (ts : List TV) (w : World) (hN : Roads w x.A x.n x.l) (hS : Shifts w x.SA x.sn x.ss) (hQ : Reqs w x.B x.m x.r) (hT : Tours w TA tn ts) :
    Calls Try.prog 5 #[.agg #[.int .i64 x.nd, .slice x.A x.n x.c], .slice x.SA x.sn x.sc, .slice x.B x.m x.d, .slice TA tn tc] w fun e w' => e = .returned (.bool true) ∧ Below w.heap.size w w' := by
  obtain ⟨w1, hw1⟩ : ∃ w1 : World, w1 = w.alloc (.cells #[.int .i64 x.nd, .slice x.A x.n x.c] 24) := ⟨_, rfl⟩
  have hP : Net w1 w.heap.size x.nd x.A x.n x.c := by rw [hw1]; exact Net.new w x.nd x.A x.n x.c
  have hb : Below w.heap.size w w1 := by rw [hw1]; exact (Below.refl _ _).alloc (Nat.le_refl _) _
  go_enter Try.func5, Try.ntmps5
  go_wp2_with fail
  rw [← hw1]
  clear hw1
  refine (small_any _).mono ?_
  rintro e w2 ⟨rfl, b2⟩
  have hP := hP.below b2
  have hb := bel hb b2
  clear b2
  have p0 := hP.c0
  have p1 := hP.c1
  go_wp2_with fail
  refine (few9_any x _ (hS.below hb) (hQ.below hb)).mono ?_
  rintro e w3 ⟨rfl, b3⟩
  clear p0 p1
  have hP := hP.below b3
  have hb := bel hb b3
  clear b3
  have p0 := hP.c0
  have p1 := hP.c1
  cases hf : K.few32 x
  · clear hf
    go_wp2_with fail
    go_ret
    exact ⟨rfl, hb⟩
  have hx : CsAt w x := K.few32_at hf hN hS hQ
  have hm8 : x.m ≤ 8 := (K.few32_parts hf hQ.1).2.2.1
  have HSN := Lib.hid hS.1.1
  have HRN := Lib.hid hQ.1
  clear hf
  go_wp2_with fail
  refine (fewTours_any TA tn tc ts _ (hT.below hb)).mono ?_
  rintro e w4 ⟨⟨z, rfl, hz⟩, b4⟩
  clear p0 p1
  have hP := hP.below b4
  have hb := bel hb b4
  clear b4
  have p0 := hP.c0
  have p1 := hP.c1
  cases z
  · clear hz
    go_wp2_with fail
    go_ret
    exact ⟨rfl, hb⟩
  have hFT : FewT tn ts := by
    obtain ⟨h1, h2⟩ := hz rfl
    exact ⟨by omega, fun y hy => by have := h2 y hy; omega⟩
  clear hz
  go_wp2_with fail
  refine (plan32_any x _ (hx.below hb)).mono ?_
  rintro e w5 ⟨⟨PA, pn, pc, pl, rfl, hPT, -, hpl⟩, b5⟩
  clear p0 p1
  have hP := hP.below b5
  have hb := bel hb b5
  clear b5
  have p0 := hP.c0
  have p1 := hP.c1
  have hPF : FewT pn pl := by
    by_cases h0 : (K.plan x.nd x.l x.ss x.r).2 = 0
    · have h1 := K.checks_few (K.plan_checks h0)
      rw [← hpl, List.length_map] at h1
      exact fewT_of hPT h1
    · have h1 : (K.plan x.nd x.l x.ss x.r).1 = [] := by
        by_cases hpc : K.pcheck x.nd x.l x.ss x.r = 0
        · rcases K.plan_cases hpc with ⟨g, -⟩ | ⟨d, -, g⟩
          · rw [g]
          · rw [g] at h0; exact absurd rfl h0
        · rw [K.plan_err hpc]
      rw [h1] at hpl
      have h2 := List.map_eq_nil_iff.1 hpl
      have h3 := hPT.1.1
      rw [h2] at h3
      subst h2 h3
      exact ⟨by simp, fun y hy => by cases hy⟩
  clear hpl
  obtain ⟨er, her⟩ : ∃ er, er = (K.plan x.nd x.l x.ss x.r).2 := ⟨_, rfl⟩
  rw [← her]
  clear her
  obtain ⟨g, hg⟩ : ∃ g, g = w5.heap.size := ⟨_, rfl⟩
  obtain ⟨w7, hw7⟩ : ∃ w7 : World, w7 = w5.alloc (.cells #[.slice PA pn pc, .slice TA tn tc] 27) := ⟨_, rfl⟩
  have b57 : Below w5.heap.size w5 w7 := by rw [hw7]; exact (Below.refl _ _).alloc (Nat.le_refl _) _
  have hG7 : w7.heap[g]? = some (.cells #[.slice PA pn pc, .slice TA tn tc] 27 (0, 0)) := by rw [hw7, hg]; exact heap_alloc_new _ _
  clear p0 p1
  go_wp2_with fail
  rw [← hw7, ← hg]
  have hPT7 := hPT.below b57
  have hTT7 := hT.below (bel hb b57)
  have hP7 := hP.below b57
  have hb7 := bel hb b57
  clear hw7 hg b57 hPT hP hb
  go_loopw [13] (fun v13 wr => ∃ k : Nat, v13 = .int .i64 k ∧ k ≤ 2 ∧ Below w7.heap.size w7 wr) (fun v13 _ => 2 - (intOf v13).toNat)
  case atStart => exact ⟨0, rfl, by omega, Below.refl _ _⟩
  case round =>
    obtain ⟨k, rfl, hk, hbr⟩ := hrel
    by_cases hlt : k < 2
    rotate_left
    · have hd : decide ((k : Int) < 2) = false := by simp; omega
      have hd2 : decide (k < 2) = false := by simp; omega
      clear hlt
      go_wp2_with fail
      go_ret
      exact ⟨rfl, bel hb7 hbr⟩
    have hGr := blk_below hbr hG7
    obtain ⟨LA, ln, lc, ls, hcell, hLT, hLF⟩ : ∃ LA ln lc ls, (#[.slice PA pn pc, .slice TA tn tc] : Array Value)[k]? = some (.slice LA ln lc) ∧ Tours wr LA ln ls ∧ FewT ln ls := by
      rcases (show k = 0 ∨ k = 1 by omega) with rfl | rfl
      · exact ⟨PA, pn, pc, pl, rfl, hPT7.below hbr, hPF⟩
      · exact ⟨TA, tn, tc, ts, rfl, hTT7.below hbr, hFT⟩
    have HC := Lib.hid hcell
    have hPr := hP7.below hbr
    have hbw := bel hb7 hbr
    have k0 : (0 : Int) ≤ (k : Int) := by omega
    have k1 : (k : Int) < 2 := by omega
    have hd : decide ((k : Int) < 2) = true := by simp; omega
    have hd2 : decide (k < 2) = true := by simp; omega
    have g0 := blk_cell hGr k _ HC.out
    have p0 := Beh.cell hPr.c0
    have p1 := Beh.cell hPr.c1
    have q0 := Beh.cell g0
    have hxr := hx.below hbw
    obtain ⟨ch, hch⟩ : ∃ ch, ch = K.checks x.nd x.l x.ss x.r (ls.map TV.pr) := ⟨_, rfl⟩
    have HCH := Lib.hid hch
    have C1 : ∀ i : Beh wr, Calls Try.prog 14 #[.agg #[.int .i64 x.nd, .slice x.A x.n x.c], .slice x.SA x.sn x.sc, .slice x.B x.m x.d, .slice LA ln lc] i.val fun e w' => e = .returned (.int .i64 ch) ∧ Below i.val.heap.size i.val w' := fun i => by rw [hch]; exact checks32_any x LA ln lc ls i.val (hxr.below i.property) (hLT.below i.property) hLF
    clear hch hcell hlt
    go_upto_region 9 with fail
    clear hd hd2
    refine reg_beh (by kernel_rfl) (by kernel_rfl) ?_
    repeat (go_big_quiet_step ((go_at_call 14; exact Beh.calls (C1 _))))
    refine wpQuiet_nil ?_
    rintro w8 ⟨⟨w8, b8⟩, rfl⟩
    have hLT8 := hLT.below b8
    have hG8 := blk_below b8 hGr
    have hP8 := hPr.below b8
    have hb8 := bel hbr b8
    clear p0 p1 q0 g0 C1 hLT hGr hPr hbw hxr hbr b8
    by_cases hz : ch = 0
    rotate_left
    · have hd1 : (ch != 0) = true := by simp [bne, hz]
      go_wp2_with fail
      go_roundw
      case rel => (go_light; exact ⟨k + 1, by go_num, by omega, hb8⟩)
      case measure => (go_light; simp [intOf]; omega)
    subst hz
    have HALL := Lib.hid (K.checks_all HCH.out.symm)
    have HFEW := Lib.hid (K.checks_few HCH.out.symm)
    clear HCH
    obtain ⟨h, hh⟩ : ∃ h, h = w8.heap.size := ⟨_, rfl⟩
    obtain ⟨w9, hw9⟩ : ∃ w9 : World, w9 = w8.alloc (.cells (intCells (List.replicate x.m 0)).toArray 3) := ⟨_, rfl⟩
    have b89 : Below w8.heap.size w8 w9 := by rw [hw9]; exact (Below.refl _ _).alloc (Nat.le_refl _) _
    have hH9 : IBlk w9 h (K.cnt x.m []) := by rw [hw9, hh, K.cnt_nil]; exact heap_alloc_new _ _
    have hmk := make_ints x.m (by omega)
    have hb80 := bel hb7 hb8
    go_wp2_with fail
    rw [← hw9, ← hh]
    have hhs : w8.heap.size ≤ h := by rw [hh]; exact Nat.le_refl _
    clear hw9 hh hmk
    go_loopw [15] (fun v15 wi => ∃ i : Nat, v15 = .int .i64 i ∧ i ≤ ln ∧ IBlk wi h (K.cnt x.m ((ls.take i).flatMap fun y => y.t.stops)) ∧ Below w8.heap.size w8 wi) (fun v15 _ => ln - (intOf v15).toNat)
    case atStart => exact ⟨0, rfl, Nat.zero_le _, hH9, b89⟩
    case round =>
      clear hH9 b89
      obtain ⟨i, rfl, hi, hHi, hbi⟩ := hrel
      have g0 := blk_cell (blk_below hbi hG8) k _ HC.out
      by_cases hlti : i < ln
      · obtain ⟨adl, y, hLA, hy, ⟨hI1, hI2⟩, c0, c1, c2, c3⟩ := (hLT8.below hbi).at_ hlti
        obtain ⟨hty1, hty2⟩ := hLF.2 y (List.mem_of_getElem? hy)
        obtain ⟨hs0, hne, hbd, sS, hsS, hck, hR⟩ := HALL.out.2.1 y.pr (List.mem_map_of_mem (List.mem_of_getElem? hy))
        obtain ⟨s, hs⟩ : ∃ s : Nat, y.sh = (s : Int) := ⟨y.sh.toNat, by have : 0 ≤ y.sh := hs0; omega⟩
        have hsS' : x.ss[s]? = some sS := by rw [show s = y.pr.1.toNat by show s = y.sh.toNat; omega]; exact hsS
        have hsn : s < x.sn := by have := (List.getElem?_eq_some_iff.1 hsS').1; have := HSN.out; omega
        obtain ⟨ads, s9, hSA, hs9, hIS, s0, s1, s2, s3, s4, s5⟩ := (hx.below (bel hb80 hbi)).shifts.at_ hsn
        rw [hsS'] at hs9
        injection hs9 with hs9
        subst hs9
        have HY := Lib.hid hy
        have HR := Lib.hid hR
        have HCK := Lib.hid hck
        have HBD := Lib.hid hbd
        have hsm := List.mem_of_getElem? hsS'
        have hyl : y.n = y.t.stops.length := hI1.1
        have hyl' : y.n' = y.t.times.length := hI2.1
        have hnn : y.n = y.n' := by have h9 : y.t.times.length = y.t.stops.length := hR.len; omega
        have hn0 : 0 < y.n := by rw [hyl]; exact List.length_pos_iff.2 hne
        have HYL := Lib.hid hyl
        have HYL' := Lib.hid hyl'
        have HNE := Lib.hid hne
        have HYtippdjmpkafifaa := Lib.hid hnn
        have HSH := Lib.hid hs
        have HS0 := Lib.hid hs0
        have i0 : (0 : Int) ≤ (i : Int) := by omega
        have i1 : (i : Int) < (ln : Int) := by omega
        have hdi : decide ((i : Int) < (ln : Int)) = true := by simp; omega
        have hdi2 : decide (i < ln) = true := by simp; omega
        have a1 : decide ((s : Int) < 0) = false := by simp
        have a2 : decide ((x.sn : Int) ≤ (s : Int)) = false := by simp; omega
        have a2' : decide (x.sn ≤ s) = false := by simp; omega
        have a3 : ((y.n : Int) != (y.n' : Int)) = false := by rw [hnn]; simp
        have a4 : ((y.n : Int) == 0) = false := by simp; omega
        have a5 : decide ((y.n : Int) = 0) = false := by simp; omega
        have ks0 : (0 : Int) ≤ (s : Int) := by omega
        have ks1 : (s : Int) < (x.sn : Int) := by omega
        obtain ⟨g1, hg1⟩ : ∃ g1, g1 = wr.heap.size := ⟨_, rfl⟩
        obtain ⟨wa, hwa⟩ : ∃ wa : World, wa = wr.alloc (.cells #[.int .i64 s, .slice y.A y.n y.c, .slice y.A' y.n' y.c', .int .i64 y.t.end_] 51) := ⟨_, rfl⟩
        obtain ⟨g2, hg2⟩ : ∃ g2, g2 = wa.heap.size := ⟨_, rfl⟩
        obtain ⟨wb, hwb⟩ : ∃ wb : World, wb = wa.alloc (.cells #[.int .i64 sS.day, .int .i64 sS.depot, .int .i64 sS.start, .int .i64 sS.end_, .int .i64 sS.tare, .slice sS.A sS.n sS.c] 43) := ⟨_, rfl⟩
        have ba : Below wr.heap.size wr wa := by rw [hwa]; exact (Below.refl _ _).alloc (Nat.le_refl _) _
        have bb : Below wa.heap.size wa wb := by rw [hwb]; exact (Below.refl _ _).alloc (Nat.le_refl _) _
        have hTa : TBlk wa g1 s (.slice y.A y.n y.c) (.slice y.A' y.n' y.c') y.t.end_ := by rw [hwa, hg1]; exact heap_alloc_new _ _
        have hTb := hTa.below bb
        have hSb : Shf wb g2 sS := by rw [hwb, hg2]; exact Shf.new _ _
        obtain ⟨t0, t1, t2, t3⟩ := hTa.cells
        rw [hwa] at t0 t1 t2 t3
        have d0 := (ba.cell (cell_lt s0)).trans s0
        have d1 := (ba.cell (cell_lt s1)).trans s1
        have d2 := (ba.cell (cell_lt s2)).trans s2
        have d3 := (ba.cell (cell_lt s3)).trans s3
        have d4 := (ba.cell (cell_lt s4)).trans s4
        have d5 := (ba.cell (cell_lt s5)).trans s5
        rw [hwa] at d0 d1 d2 d3 d4 d5
        rw [hLA, hSA]
        have hz1 : wa.heap.size = wr.heap.size + 1 := by rw [hwa]; exact World.size_alloc _ _
        have HIL := Lib.hid hlti
        clear hlti hsS hsS' hs0 hck hR hbd hyl hyl' hne hnn s0 s1 s2 s3 s4 s5 hs
        rw [HSH.out] at c0
        rw [hg1] at t0 t1 t2 t3
        go_upto_region 18 with fail
        have hg2s : g2 = wr.heap.size + 1 := by rw [hg2, hz1]
        rw [← hwa, ← hwb, ← hg2s, ← hg1]
        clear hwa hwb hg2s hg1 hz1 hg2 t0 t1 t2 t3 d0 d1 d2 d3 d4 d5 c0 c1 c2 c3 g0 hTa a1 a2 a2' a3 a4 a5 hdi hdi2 hLA
        have hbb := bel ba bb
        have hHb := hHi.below hbb hHi.lt
        have hb_ := bel hbi hbb
        have hPb := hP8.below hb_
        have hIb1 := hI1.below hbb
        have hIb2 := hI2.below hbb
        have hxb := hx.below (bel hb80 hb_)
        have hm0 := HYL.out
        obtain ⟨adt, y0, hA', hy0, ct⟩ := hIb2.at_ (k := 0) (by have := HYtippdjmpkafifaa.out; omega)
        have hi0 : y.t.stops[0]? = some (y.t.stops[0]'(by omega)) := List.getElem?_eq_getElem (by omega)
        obtain ⟨-, -, -, -, hst0⟩ := HR.out.at_ 0 _ y0 hi0 hy0
        have ha0 : adt.add 0 = adt := by cases adt; rfl
        have e1 : decide (sS.end_ < y.t.end_) = false := by have h9 : y.t.end_ ≤ sS.end_ := HR.out.end_; simp; omega
        have e2 : decide (y0 < sS.start) = false := by simp; omega
        have p0 := Beh.cell hPb.c0
        have p1 := Beh.cell hPb.c1
        obtain ⟨t0, t1, t2, t3⟩ := hTb.cells
        rw [hA'] at t2
        obtain ⟨s0, s1, s2, s3, s4, s5⟩ := hSb.cells
        rw [ha0] at ct
        have q0 := Beh.cell t0
        have q1 := Beh.cell t1
        have q2 := Beh.cell t2
        have q3 := Beh.cell t3
        have r0 := Beh.cell s0
        have r1 := Beh.cell s1
        have r2 := Beh.cell s2
        have r3 := Beh.cell s3
        have r4 := Beh.cell s4
        have r5 := Beh.cell s5
        have u0 := Beh.cell ct
        have CF : ∀ i : Beh wb, Calls Try.prog 17 #[.agg #[.int .i64 sS.day, .int .i64 sS.depot, .int .i64 sS.start, .int .i64 sS.end_, .int .i64 sS.tare, .slice sS.A sS.n sS.c], .slice x.B x.m x.d, .slice y.A y.n y.c] i.val fun e w' => e = .returned (.bool true) ∧ Below i.val.heap.size i.val w' := fun i => by
          have h9 := fits_any sS x.B x.m x.d x.r y.A y.n y.c y.t.stops i.val ((hxb.below i.property).shifts.2 sS hsm) (hx.b2 sS hsm) (hxb.below i.property).reqs hx.b4 hx.b5 (hIb1.below i.property) (by omega)
          rw [show T.fits sS x.r y.t.stops = true from HR.out.fits HNE.out] at h9
          exact h9
        have CK : ∀ i : Beh wb, Calls Try.prog 18 #[.agg #[.int .i64 x.nd, .slice x.A x.n x.c], .agg #[.int .i64 sS.day, .int .i64 sS.depot, .int .i64 sS.start, .int .i64 sS.end_, .int .i64 sS.tare, .slice sS.A sS.n sS.c], .slice x.B x.m x.d, .agg #[.int .i64 s, .slice y.A y.n y.c, .slice (some adt) y.n' y.c', .int .i64 y.t.end_]] i.val fun e w' => e = .returned (.bool true) ∧ Below i.val.heap.size i.val w' := fun i => by
          have h9 := tcheck_any (x.one sS) y i.val ((hxb.below i.property).case hsm) ⟨hIb1.below i.property, hIb2.below i.property, by omega, hty2⟩ hty1
          rw [show K.check (x.one sS).nd (x.one sS).l (x.one sS).s (x.one sS).r y.t = true from HCK.out, hA', HSH.out] at h9
          exact h9
        have n0a : 0 < y.n' := by have := HYtippdjmpkafifaa.out; omega
        have n0b : (0 : Int) < (y.n' : Int) := by omega
        clear hm0 hy0 hi0 hst0 ha0 ks0 ks1 i0 i1 hHi hI1 hI2 ba bb hbb hIS
        refine reg_beh (by kernel_rfl) (by kernel_rfl) ?_
        repeat (go_big_quiet_step ((first | (go_at_call 17; exact Beh.calls (CF _)) | (go_at_call 18; exact Beh.calls (CK _)))))
        refine wpQuiet_nil ?_
        rintro wc ⟨⟨wc, bc⟩, rfl⟩
        have hTc := hTb.below bc
        have hSc := hSb.below bc
        have hHc := hHb.below bc hHb.lt
        have hbc := bel hb_ bc
        have hhc := hHb.lt
        have hg12 : h ≠ g1 ∧ h ≠ g2 := by
          have h1 := hTb
          have h2 := hSb
          refine ⟨fun e => ?_, fun e => ?_⟩
          · have h3 := hHb
            unfold IBlk at h3
            unfold TBlk at h1
            rw [e, h1] at h3
            injection h3 with h3
            injection h3 with h3 h4 h5
            cases h4
          · have h3 := hHb
            unfold IBlk at h3
            unfold Shf at h2
            rw [e, h2] at h3
            injection h3 with h3
            injection h3 with h3 h4 h5
            cases h4
        clear n0a n0b p0 p1 q0 q1 q2 q3 r0 r1 r2 r3 r4 r5 u0 CF CK t0 t1 t2 t3 s0 s1 s2 s3 s4 s5 ct e1 e2 hTb hSb hHb hb_ hPb hIb1 hIb2 hxb bc hhc
        obtain ⟨V, hV⟩ : ∃ V, V = (ls.take i).flatMap fun y => y.t.stops := ⟨_, rfl⟩
        rw [← hV] at hHc
        have HV := Lib.hid hV
        clear hV
        obtain ⟨t0, t1, t2, t3⟩ := hTc.cells
        go_wp2_with fail
        clear t0 t1 t2 t3
        go_loopw [18] (fun v18 wj => ∃ n : Nat, v18 = .int .i64 n ∧ n ≤ y.n ∧ IBlk wj h (K.cnt x.m (V ++ y.t.stops.take n)) ∧ TBlk wj g1 s (.slice y.A y.n y.c) (.slice y.A' y.n' y.c') y.t.end_ ∧ Shf wj g2 sS ∧ Below w8.heap.size w8 wj) (fun v18 _ => y.n - (intOf v18).toNat)
        case atStart => exact ⟨0, rfl, Nat.zero_le _, by rw [List.take_zero, List.append_nil]; exact hHc, hTc, hSc, hbc⟩
        case round =>
          clear hHc hTc hSc hbc
          obtain ⟨n, rfl, hn, hHj, hTj, hSj, hbj⟩ := hrel
          by_cases hltn : n < y.n
          rotate_left
          · have hdn : decide ((n : Int) < (y.n : Int)) = false := by simp; omega
            have hdn2 : decide (n < y.n) = false := by simp; omega
            have hX : IBlk wr h (K.cnt x.m ((ls.take (i + 1)).flatMap fun y => y.t.stops)) := by
              rw [take_snoc HY.out, List.flatMap_append, ← HV.out, List.flatMap_singleton]
              rw [List.take_of_length_le (by have := HYL.out; omega)] at hHj
              exact hHj
            have HX := Lib.hid hX
            obtain ⟨t0, t1, t2, t3⟩ := hTj.cells
            clear hltn hX hHj
            have hil := HIL.out
            have h8 := hLF.1
            go_wp2_with fail
            go_roundw
            case rel => (go_light; exact ⟨i + 1, by go_num, hil, HX.out, hbj⟩)
            case measure => (go_light; simp [intOf]; omega)
          have hym := List.mem_of_getElem? HY.out
          obtain ⟨adz, z, hA, hz, cz⟩ := ((hLT8.2 y hym).1.below hbj).at_ hltn
          obtain ⟨adm, m, hA2, hm, cm⟩ := ((hLT8.2 y hym).2.below hbj).at_ (show n < y.n' by have := HYtippdjmpkafifaa.out; omega)
          obtain ⟨hz0, hz1⟩ := HBD.out z (List.mem_of_getElem? hz)
          obtain ⟨zn, hzn⟩ : ∃ zn : Nat, z = (zn : Int) := ⟨z.toNat, by omega⟩
          subst hzn
          have hzm : zn < x.m := by have := HRN.out; omega
          obtain ⟨adq, q, hB, hq, hW, c0, c1, c2, c3, c4, c5, c6⟩ := (hx.below (bel hb80 hbj)).reqs.at_ hzm
          have hreq : K.req x.r (zn : Int) = q := K.req_get hq
          obtain ⟨f1, f2, f3, f4, f5⟩ := HR.out.at_ n (zn : Int) m hz hm
          rw [hreq] at f1 f2 f3 f4
          have hqm := List.mem_of_getElem? hq
          have hqr := ((K.pcheck_ok HALL.out.1).2.2.2.1 q hqm).1
          have hsv : 0 ≤ q.service ∧ q.service ≤ 1000000 := by simp [T.right, T.btw] at hqr; omega
          obtain ⟨-, -, st0, st1, st2⟩ := K.check_parts ((K.pcheck_ok HALL.out.1).2.2.1 sS hsm).1
          have hen : y.t.end_ ≤ sS.end_ := HR.out.end_
          have f4' : m + q.service ≤ y.t.end_ := f4
          have b1 : decide ((zn : Int) < 0) = false := by simp
          have b2 : decide ((x.m : Int) ≤ (zn : Int)) = false := by simp; omega
          have b2' : decide (x.m ≤ zn) = false := by simp; omega
          have d1 : decide (sS.day < q.frm) = false := by simp; omega
          have d2 : decide (q.by_ < sS.day) = false := by simp; omega
          have d3 : IntKind.i64.wrap (m + q.service) = m + q.service := IntWalk.i64_in _ (by omega)
          have d4 : decide (y.t.end_ < m + q.service) = false := by simp; omega
          have hdn : decide ((n : Int) < (y.n : Int)) = true := by simp; omega
          have hdn2 : decide (n < y.n) = true := by simp; omega
          have kn0 : (0 : Int) ≤ (n : Int) := by omega
          have kn1 : (n : Int) < (y.n : Int) := by omega
          have kn2 : (n : Int) < (y.n' : Int) := by have := HYtippdjmpkafifaa.out; omega
          have kz0 : (0 : Int) ≤ (zn : Int) := by omega
          have kz1 : (zn : Int) < (x.m : Int) := by omega
          obtain ⟨c, hc⟩ : ∃ c : Nat, c = (V ++ y.t.stops.take n).count (zn : Int) := ⟨_, rfl⟩
          have hcl : c ≤ 1000 := by
            have h1 : (V ++ y.t.stops.take n).length ≤ 1000 := by
              have h2 := flat_le 6 (ls.take i) (fun t ht => (HFEW.out.2 t.pr (List.mem_map_of_mem (List.mem_of_mem_take ht))).1)
              have h3 := HFEW.out.1
              have h4 := (HFEW.out.2 y.pr (List.mem_map_of_mem hym)).1
              have h5 : y.pr.2.stops = y.t.stops := rfl
              rw [h5] at h4
              rw [List.length_map] at h3
              rw [← HV.out] at h2
              rw [List.length_append, List.length_take]
              rw [List.length_take] at h2
              have h6 : min i ls.length ≤ 4 := by omega
              have h7 : 6 * min i ls.length ≤ 24 := by omega
              omega
            rw [hc]
            exact Nat.le_trans List.count_le_length h1
          have hcell := hHj.cell (K.cnt_at (V ++ y.t.stops.take n) hzm)
          rw [← hc] at hcell
          have HCNT := Lib.hid hc
          have dw : IntKind.i64.wrap ((c : Int) + 1) = (c : Int) + 1 := IntWalk.i64_in _ (by omega)
          have HZ := Lib.hid hz
          obtain ⟨g3, hg3⟩ : ∃ g3, g3 = wr.heap.size := ⟨_, rfl⟩
          obtain ⟨wd, hwd⟩ : ∃ wd : World, wd = wr.alloc (.cells #[.int .i64 q.node, .int .i64 q.room, .int .i64 q.kilos, .int .i64 q.service, .int .i64 q.frm, .int .i64 q.by_, .slice q.A q.n q.c] 46) := ⟨_, rfl⟩
          have bd : Below wr.heap.size wr wd := by rw [hwd]; exact (Below.refl _ _).alloc (Nat.le_refl _) _
          have hQd : wd.heap[g3]? = some (.cells #[.int .i64 q.node, .int .i64 q.room, .int .i64 q.kilos, .int .i64 q.service, .int .i64 q.frm, .int .i64 q.by_, .slice q.A q.n q.c] 46 (0, 0)) := by rw [hwd, hg3]; exact heap_alloc_new _ _
          have hHd := hHj.below bd hHj.lt
          have hTd := hTj.below bd
          have hSd := hSj.below bd
          have hbd2 := bel hbj bd
          have czd := (bd.cell (cell_lt cz)).trans cz
          have cmd := (bd.cell (cell_lt cm)).trans cm
          obtain ⟨t0, t1, t2, t3⟩ := hTj.cells
          obtain ⟨s0, s1, s2, s3, s4, s5⟩ := hSj.cells
          rw [hA] at t1
          have hWd := hW.below bd
          clear hc hz hz0 hz1 hreq f1 f2 f4 f4' f5 hq hqr st0 st1 st2 hen hltn hHj hTj hSj hm hcell
          rw [hB]
          go_upto_region 26 with fail
          rw [← hwd, ← hg3]
          clear hwd hg3 bd t0 t1 t2 t3 s0 s1 s2 s3 s4 s5 c0 c1 c2 c3 c4 c5 c6 b1 b2 b2' hdn hdn2 kn0 kz0 kz1 cz cm hW
          obtain ⟨t0, t1, t2, t3⟩ := hTd.cells
          rw [hA2] at t2
          have k3 := blk_cell hQd 3 _ rfl
          have k6 := blk_cell hQd 6 _ rfl
          have q2 := Beh.cell t2
          have q3 := Beh.cell k3
          have q6 := Beh.cell k6
          have u0 := Beh.cell cmd
          have kn0 : (0 : Int) ≤ (n : Int) := by omega
          have CT : ∀ i : Beh wd, Calls Try.prog 19 #[.slice q.A q.n q.c, .int .i64 m, .int .i64 q.service] i.val fun e w' => e = .returned (.tuple #[.int .i64 m, .bool true]) ∧ Below i.val.heap.size i.val w' := fun i => by
            have h9 := fit_any q.A q.n q.c q.l m q.service i.val (hWd.below i.property) (hx.b5 q hqm)
            rw [f3] at h9
            exact h9
          refine reg_beh (by kernel_rfl) (by kernel_rfl) ?_
          repeat (go_big_quiet_step ((go_at_call 19; exact Beh.calls (CT _))))
          refine wpQuiet_nil ?_
          rintro we ⟨⟨we, be⟩, rfl⟩
          have hQe := blk_below be hQd
          have hHe := hHd.below be hHd.lt
          have hTe := hTd.below be
          have hSe := hSd.below be
          have hbe := bel hbd2 be
          have cze := (be.cell (cell_lt czd)).trans czd
          have cme := (be.cell (cell_lt cmd)).trans cmd
          clear t0 t1 t2 t3 k3 k6 q2 q3 q6 u0 CT hQd hHd hTd hSd hbd2 czd cmd be hWd f3
          obtain ⟨t0, t1, t2, t3⟩ := hTe.cells
          rw [hA2] at t2
          rw [hA] at t1
          obtain ⟨s0, s1, s2, s3, s4, s5⟩ := hSe.cells
          have k3 := blk_cell hQe 3 _ rfl
          have k4 := blk_cell hQe 4 _ rfl
          have k5 := blk_cell hQe 5 _ rfl
          go_wp2_with fail
          go_quiet (fail)
          have bf : Below we.heap.size we (we.drewN nq) := below_drewN (Below.refl _ _) nq
          obtain ⟨wf, hwf⟩ : ∃ wf : World, wf = we.drewN nq := ⟨_, rfl⟩
          rw [← hwf] at bf ⊢
          have hHf := hHe.below bf hHe.lt
          have hTf := hTe.below bf
          have hSf := hSe.below bf
          have hbf := bel hbe bf
          have czf := (bf.cell (cell_lt cze)).trans cze
          clear hwf bf t0 t1 t2 t3 s0 s1 s2 s3 s4 s5 k3 k4 k5 hQe hHe hTe hSe hbe cze cme d1 d2 d3 d4
          obtain ⟨t0, t1, t2, t3⟩ := hTf.cells
          rw [hA] at t1
          have hcell := hHf.cell (K.cnt_at (V ++ y.t.stops.take n) hzm)
          rw [← HCNT.out] at hcell
          have hfree := hHf.free zn
          have kn1 : (n : Int) < (y.n : Int) := by omega
          have kz0 : (0 : Int) ≤ (zn : Int) := by omega
          have kz1 : (zn : Int) < (x.m : Int) := by omega
          have hX : IBlk (wf.setCell ⟨h, zn, none⟩ (.int .i64 ((c : Int) + 1))) h (K.cnt x.m (V ++ y.t.stops.take (n + 1))) := by
            rw [take_snoc HZ.out, ← List.append_assoc, K.cnt_snoc, ← HCNT.out]
            exact hHf.set zn _
          have hTX : TBlk (wf.setCell ⟨h, zn, none⟩ (.int .i64 ((c : Int) + 1))) g1 s (.slice y.A y.n y.c) (.slice y.A' y.n' y.c') y.t.end_ := blk_other hTf _ hg12.1.symm
          have hSX : Shf (wf.setCell ⟨h, zn, none⟩ (.int .i64 ((c : Int) + 1))) g2 sS := blk_other hSf _ hg12.2.symm
          have hbX : Below w8.heap.size w8 (wf.setCell ⟨h, zn, none⟩ (.int .i64 ((c : Int) + 1))) := hbf.setCell (p := ⟨h, zn, none⟩) hhs _
          clear hHf hTf hSf hbf
          go_wp2_with fail
          go_roundw
          case rel => (go_light; exact ⟨n + 1, by go_num, by omega, hX, hTX, hSX, hbX⟩)
          case measure => (go_light; simp [intOf]; omega)
      · have hdi : decide ((i : Int) < (ln : Int)) = false := by simp; omega
        have hdi2 : decide (i < ln) = false := by simp; omega
        have hX : IBlk wr h (List.replicate x.m 1) := by
          rw [List.take_of_length_le (by rw [← hLT8.1.1]; omega)] at hHi
          have h1 := HALL.out.2.2.1
          rw [List.flatMap_map, ← HRN.out] at h1
          rw [← h1]
          exact hHi
        clear hlti hHi
        go_wp2_with fail
        clear g0 hdi hdi2
        go_loopw [22] (fun v22 wj => ∃ n : Nat, v22 = .int .i64 n ∧ n ≤ x.m ∧ IBlk wj h (List.replicate x.m 1) ∧ Below w8.heap.size w8 wj) (fun v22 _ => x.m - (intOf v22).toNat)
        case atStart => exact ⟨0, rfl, Nat.zero_le _, hX, hbi⟩
        case round =>
          clear hX hbi
          obtain ⟨n, rfl, hn, hHj, hbj⟩ := hrel
          by_cases hltn : n < x.m
          · have hcell := hHj.cell (k := n) (x := 1) (by rw [List.getElem?_replicate, if_pos hltn])
            have kn0 : (0 : Int) ≤ (n : Int) := by omega
            have kn1 : (n : Int) < (x.m : Int) := by omega
            go_wp2_with fail
            go_roundw
            case rel => (go_light; exact ⟨n + 1, by go_num, by omega, hHj, hbj⟩)
            case measure => (go_light; simp [intOf]; omega)
          · have hdn : decide ((n : Int) < (x.m : Int)) = false := by simp; omega
            have hdn2 : decide (n < x.m) = false := by simp; omega
            clear hltn
            go_wp2_with fail
            go_roundw
            case rel => (go_light; exact ⟨k + 1, by go_num, by omega, bel hb8 hbj⟩)
            case measure => (go_light; simp [intOf]; omega)
end Go.Proofs.Ytippdjmpkafifaa
