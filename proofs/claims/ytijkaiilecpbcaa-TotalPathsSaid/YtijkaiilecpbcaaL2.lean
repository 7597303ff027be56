/-
The walk of TotalPaths.
-/
import Derived.Test.YtijkaiilecpbcaaW18
import Derived.Test.YtijkaiilecpbcaaP4
namespace Go.Proofs.Ytijkaiilecpbcaa
open Go.RowKit

theorem K.tail_len {l : List It} {bs : List Bool} {leaf : Nat} : ∀ (f k : Nat), (K.tailOf l bs leaf f k).length ≤ f := by
  intro f
  induction f with
  | zero => intro k; simp [K.tailOf]
  | succ f ih =>
    intro k
    simp only [K.tailOf]
    split
    · simp
    · split
      · simp only [List.length_cons]
        exact Nat.succ_le_succ (ih _)
      · simp
theorem K.path_len (l : List It) (root leaf : Int) : (K.path l root leaf).length ≤ l.length + 1 := by
  unfold K.path
  split
  · rename_i h
    simp only [Bool.and_eq_true] at h
    have := K.has_iff.1 h.2.1
    have := K.tail_len (l := l) (bs := K.near l leaf.toNat) (leaf := leaf.toNat) (root.toNat + 1) root.toNat
    simp only [List.length_cons]
    omega
  · simp

set_option maxRecDepth 100000 in
set_option maxHeartbeats 16000000 in
theorem paths_walk (A : Option Addr) (n c : Nat) (l : List It) (r f : Int) (w : World) (hl : Items w A n l) :
    Calls Try.prog 5 #[.agg #[.slice A n c], .int .i64 r, .int .i64 f] w fun e w' => e = .returned (.bool true) ∧ Below w.heap.size w w' := by
  have b0 := (Below.refl w.heap.size w).alloc (Nat.le_refl _) (.cells #[.slice A n c] 24)
  have hP0 := vbox w A n c
  go_enter Try.func5, Try.ntmps5
  go_wp2_with fail
  refine (sane_any _).mono ?_
  rintro e w1 ⟨rfl, b1⟩
  have hb := bel b0 b1
  have hP := blk_below b1 hP0
  have p0 := blk_cell hP 0 _ rfl
  clear b0 b1 hP0
  cases hf : (decide (n ≤ 60) && decide (0 ≤ 10))
  · have HF := Lib.hid hf
    clear hf
    go_wp2_with fail
    refine (few_any A n c none 0 0 60 _).mono ?_; rw [HF.out]; rintro e w2 ⟨rfl, b2⟩
    go_wp2_with fail
    go_ret
    exact ⟨rfl, bel hb b2⟩
  have HF := Lib.hid hf
  simp only [Bool.and_eq_true, decide_eq_true_eq] at hf
  obtain ⟨hn, _⟩ := hf
  go_wp2_with fail
  refine (few_any A n c none 0 0 60 _).mono ?_; rw [HF.out]; rintro e w2 ⟨rfl, b2⟩
  have hb := bel hb b2
  have hP := blk_below b2 hP
  clear b2 p0
  have p0 := blk_cell hP 0 _ rfl
  go_wp2_with fail
  refine (path_any A n c l r f _ (hl.below hb) (by omega)).mono ?_
  rintro e w3 ⟨⟨B, m, d, rfl, hp⟩, b3⟩
  have hb := bel hb b3
  have hP := blk_below b3 hP
  have hm9 : m ≤ 100000 := by have := K.path_len l r f; rw [← hp.1, ← hl.1] at this; omega
  clear b3 p0
  have p0 := blk_cell hP 0 _ rfl
  go_wp2_with fail
  refine (view_any A n c l B m d _ _ (hl.below hb) (by omega) hp hm9).mono ?_
  rintro e w4 ⟨⟨C, o, q, rfl, hv⟩, b4⟩
  have hb := bel hb b4
  have hP := blk_below b4 hP
  have hp := hp.below b4
  clear b4 p0
  have p0 := blk_cell hP 0 _ rfl
  cases hs : K.sound l
  · have HS := Lib.hid hs
    have hpe := K.path_bad (l := l) (root := r) (leaf := f) (by rintro ⟨g1, g2, g3⟩; rw [hs] at g1; cases g1)
    rw [hpe] at hp hv
    rw [K.view_nil] at hv
    have z1 : m = 0 := hp.1
    have z2 : o = 0 := hv.1
    subst z1 z2
    clear hpe hp hv
    clear hs
    go_wp2_with fail
    refine (sound_any A n c l _ (hl.below hb) (by omega)).mono ?_; rw [HS.out]; rintro e w5 ⟨rfl, b5⟩
    have hP5 := blk_below b5 hP
    have p5 := blk_cell hP5 0 _ rfl
    go_wp2_with fail
    go_ret
    exact ⟨rfl, bel hb b5⟩
  have HS := Lib.hid hs
  by_cases hr0 : 0 ≤ r
  rotate_left
  · have q1 : decide (r < 0) = true := by simpa using hr0
    have hpe := K.path_bad (l := l) (root := r) (leaf := f) (by rintro ⟨g1, g2, g3⟩; exact hr0 g2.1)
    rw [hpe] at hp hv
    rw [K.view_nil] at hv
    have z1 : m = 0 := hp.1
    have z2 : o = 0 := hv.1
    subst z1 z2
    clear hpe hp hv
    clear hs
    go_wp2_with fail
    refine (sound_any A n c l _ (hl.below hb) (by omega)).mono ?_; rw [HS.out]; rintro e w5 ⟨rfl, b5⟩
    have hP5 := blk_below b5 hP
    have p5 := blk_cell hP5 0 _ rfl
    go_wp2_with fail
    go_ret
    exact ⟨rfl, bel hb b5⟩
  have q1 : decide (r < 0) = false := by simpa using hr0
  by_cases hr1 : r < n
  rotate_left
  · have q2 : decide ((n : Int) ≤ r) = true := by simpa using hr1
    have hpe := K.path_bad (l := l) (root := r) (leaf := f) (by rintro ⟨g1, g2, g3⟩; exact hr1 (by rw [hl.1]; exact g2.2))
    rw [hpe] at hp hv
    rw [K.view_nil] at hv
    have z1 : m = 0 := hp.1
    have z2 : o = 0 := hv.1
    subst z1 z2
    clear hpe hp hv
    clear hs
    go_wp2_with fail
    refine (sound_any A n c l _ (hl.below hb) (by omega)).mono ?_; rw [HS.out]; rintro e w5 ⟨rfl, b5⟩
    have hP5 := blk_below b5 hP
    have p5 := blk_cell hP5 0 _ rfl
    go_wp2_with fail
    go_ret
    exact ⟨rfl, bel hb b5⟩
  have q2 : decide ((n : Int) ≤ r) = false := by simpa using hr1
  by_cases hf0 : 0 ≤ f
  rotate_left
  · have q3 : decide (f < 0) = true := by simpa using hf0
    have hpe := K.path_bad (l := l) (root := r) (leaf := f) (by rintro ⟨g1, g2, g3⟩; exact hf0 g3.1)
    rw [hpe] at hp hv
    rw [K.view_nil] at hv
    have z1 : m = 0 := hp.1
    have z2 : o = 0 := hv.1
    subst z1 z2
    clear hpe hp hv
    clear hs
    go_wp2_with fail
    refine (sound_any A n c l _ (hl.below hb) (by omega)).mono ?_; rw [HS.out]; rintro e w5 ⟨rfl, b5⟩
    have hP5 := blk_below b5 hP
    have p5 := blk_cell hP5 0 _ rfl
    go_wp2_with fail
    go_ret
    exact ⟨rfl, bel hb b5⟩
  have q3 : decide (f < 0) = false := by simpa using hf0
  by_cases hf1 : f < n
  rotate_left
  · have q4 : decide ((n : Int) ≤ f) = true := by simpa using hf1
    have hpe := K.path_bad (l := l) (root := r) (leaf := f) (by rintro ⟨g1, g2, g3⟩; exact hf1 (by rw [hl.1]; exact g3.2))
    rw [hpe] at hp hv
    rw [K.view_nil] at hv
    have z1 : m = 0 := hp.1
    have z2 : o = 0 := hv.1
    subst z1 z2
    clear hpe hp hv
    clear hs
    go_wp2_with fail
    refine (sound_any A n c l _ (hl.below hb) (by omega)).mono ?_; rw [HS.out]; rintro e w5 ⟨rfl, b5⟩
    have hP5 := blk_below b5 hP
    have p5 := blk_cell hP5 0 _ rfl
    go_wp2_with fail
    go_ret
    exact ⟨rfl, bel hb b5⟩
  have q4 : decide ((n : Int) ≤ f) = false := by simpa using hf1
  obtain ⟨jr, rfl⟩ : ∃ j : Nat, r = j := ⟨r.toNat, by omega⟩
  obtain ⟨jf, rfl⟩ : ∃ j : Nat, f = j := ⟨f.toNat, by omega⟩
  have hjr : jr < n := by omega
  have hjf : jf < n := by omega
  have q2' : decide (n ≤ jr) = false := by simp; omega
  have q4' : decide (n ≤ jf) = false := by simp; omega
  go_wp2_with fail
  refine (sound_any A n c l _ (hl.below hb) (by omega)).mono ?_; rw [HS.out]; rintro e w5 ⟨rfl, b5⟩
  have hb := bel hb b5
  have hP := blk_below b5 hP
  have hp := hp.below b5
  have hv := hv.below b5
  clear b5 p0
  have p0 := blk_cell hP 0 _ rfl
  obtain ⟨ad, x, rfl, hx, c0, c1, c2, c3⟩ := Items.at_ (hl.below hb) hjr
  have i0 : (0 : Int) ≤ (jr : Int) := by omega
  have i1 : (jr : Int) < (n : Int) := by omega
  by_cases hpe : K.path l (jr : Int) (jf : Int) = []
  · obtain ⟨hne, e1, e2⟩ := K.path_none hs hx (by rw [← hl.1]; exact hjf) hpe
    rw [hpe] at hp hv
    rw [K.view_nil] at hv
    have z1 : m = 0 := hp.1
    have z2 : o = 0 := hv.1
    subst z1 z2
    have q5 : ((jr : Int) != (jf : Int)) = true := by simp [bne]; omega
    have E1 := Lib.hid e1
    have E2 := Lib.hid e2
    have hb6 := hb.alloc (by have := hb.size; omega) (.cells #[.int .i64 x.val, .int .i64 x.bl, .int .i64 x.lt, .int .i64 x.rt] 37)
    have hP6 := blk_alloc hP (.cells #[.int .i64 x.val, .int .i64 x.bl, .int .i64 x.lt, .int .i64 x.rt] 37)
    have hI6 : (w5.alloc (.cells #[.int .i64 x.val, .int .i64 x.bl, .int .i64 x.lt, .int .i64 x.rt] 37)).heap[w5.heap.size]? = some (.cells #[.int .i64 x.val, .int .i64 x.bl, .int .i64 x.lt, .int .i64 x.rt] 37 (0, 0)) := heap_alloc_new w5 _
    have hl6 := hl.below hb6
    have p6 := blk_cell hP6 0 _ rfl
    have k2 := blk_cell hI6 2 _ rfl
    clear hpe hp hv hne e1 e2 hs hx
    go_wp2_with fail
    obtain ⟨w6, hw6⟩ : ∃ w6, w6 = w5.alloc (.cells #[.int .i64 x.val, .int .i64 x.bl, .int .i64 x.lt, .int .i64 x.rt] 37) := ⟨_, rfl⟩
    rw [← hw6] at hb6 hP6 hI6 hl6 ⊢
    clear hw6 c0 c1 c2 c3 p0 p6 k2
    refine (path_any _ n c l x.lt jf _ hl6 (by omega)).mono ?_
    rw [E1.out]
    rintro e w7 ⟨⟨B7, m7, d7, rfl, hp7⟩, b7⟩
    have z7 : m7 = 0 := hp7.1
    subst z7
    have hP7 := blk_below b7 hP6
    have hI7 := blk_below b7 hI6
    have p7 := blk_cell hP7 0 _ rfl
    have k7 := blk_cell hI7 3 _ rfl
    have hb7 := bel hb6 b7
    clear hp7
    go_wp2_with fail
    refine (path_any _ n c l x.rt jf _ (hl6.below b7) (by omega)).mono ?_
    rw [E2.out]
    rintro e w8 ⟨⟨B8, m8, d8, rfl, hp8⟩, b8⟩
    have z8 : m8 = 0 := hp8.1
    subst z8
    clear hp8 p7 k7
    go_wp2_with fail
    go_ret
    exact ⟨rfl, bel hb7 b8⟩
  · obtain ⟨_, _, _, hw, hh, hla, hone⟩ := K.path_yes hpe
    have hvl := K.view_length hw
    have hmo : o = m := by rw [hv.1, hp.1, hvl]
    subst hmo
    have hm0 : 0 < o := by rw [hp.1]; exact List.length_pos_iff.2 hpe
    have e3 : ((o : Int) == 0) = false := by rw [beq_eq_false_iff_ne]; omega
    obtain ⟨PP, hPP⟩ : ∃ p, p = K.path l (jr : Int) (jf : Int) := ⟨_, rfl⟩
    obtain ⟨VV, hVV⟩ : ∃ p, p = K.view l (K.path l (jr : Int) (jf : Int)) := ⟨_, rfl⟩
    rw [← hVV] at hv
    rw [← hPP] at hVV
    rw [← hPP] at hp hw hh hla hone hpe
    obtain ⟨o', rfl⟩ : ∃ k, o = k + 1 := ⟨o - 1, by omega⟩
    obtain ⟨adp, i, rfl, hi, ci⟩ := hp.at_ (show 0 < o' + 1 by omega)
    obtain ⟨adp', j, e9, hj, cj⟩ := hp.at_ (show o' < o' + 1 by omega)
    injection e9 with e9; subst e9
    have HH : i = (jr : Int) := by have := K.head_at hpe; rw [hi, hh] at this; injection this
    have HJ : j = (jf : Int) := by have := K.last_at hpe; rw [← hp.1, show o' + 1 - 1 = o' by omega, hj, hla] at this; injection this
    subst HH HJ
    have ci0 : w5.cell? adp = some (.int .i64 (jr : Int)) := ci
    have t1 : ((jr : Int) != (jr : Int)) = false := by simp
    have t2 : ((jf : Int) != (jf : Int)) = false := by simp
    have u0 : (0 : Int) ≤ (o' : Int) := by omega
    have u1 : (o' : Int) < ((o' + 1 : Nat) : Int) := by omega
    have u1' : (o' : Int) < (o' : Int) + 1 := by omega
    have u2 : o' < o' + 1 := by omega
    have g1 : IntKind.i64.wrap ((o' : Int) + 1 - 1) = o' := by rw [IntWalk.i64_in _ (by omega)]; omega
    have g2 : IntKind.i64.wrap (((o' + 1 : Nat) : Int) - 1) = o' := by rw [IntWalk.i64_in _ (by omega)]; omega
    have g3 : IntKind.i64.wrap (o' : Int) = o' := IntWalk.i64_in _ (by omega)
    have HONE := Lib.hid hone
    have HW := Lib.hid hw
    have HV := Lib.hid hVV
    have hb6 := hb.alloc (by have := hb.size; omega) (.cells #[.int .i64 x.val, .int .i64 x.bl, .int .i64 x.lt, .int .i64 x.rt] 37)
    have b56 : Below w5.heap.size w5 (w5.alloc (.cells #[.int .i64 x.val, .int .i64 x.bl, .int .i64 x.lt, .int .i64 x.rt] 37)) := (Below.refl _ _).alloc (Nat.le_refl _) _
    have ci6 := (b56.cell (cell_lt ci0)).trans ci0
    have cj6 := (b56.cell (cell_lt cj)).trans cj
    have e4 : ((o' : Int) + 1 == 0) = false := by rw [beq_eq_false_iff_ne]; omega
    clear hs hx hone hw hVV hi hj hh hla hvl hpe ci
    go_wp2_with fail
    obtain ⟨w6, hw6⟩ : ∃ w6, w6 = w5.alloc (.cells #[.int .i64 x.val, .int .i64 x.bl, .int .i64 x.lt, .int .i64 x.rt] 37) := ⟨_, rfl⟩
    rw [← hw6] at hb6 b56 ⊢
    have hP6 := blk_below b56 hP
    have hp6 := hp.below b56
    have hv6 := hv.below b56
    have hl6 := hl.below hb6
    clear hw6 c0 c1 c2 c3 p0 cj ci0 hP hp hv b56 hb ci6 cj6
    go_loopw [11] (fun vi wr => ∃ k : Nat, vi = .int .i64 k ∧ k ≤ o' + 1 ∧ Below w6.heap.size w6 wr) (fun vi _ => o' + 1 - (intOf vi).toNat)
    case atStart => exact ⟨0, rfl, by omega, Below.refl _ _⟩
    case round =>
      obtain ⟨k, rfl, hk, hbr⟩ := hrel
      have hb := bel hb6 hbr
      by_cases hlt : k < o' + 1
      · obtain ⟨adp9, a, e9, ha, ca⟩ := (hp6.below hbr).at_ hlt
        injection e9 with e9; subst e9
        obtain ⟨_, _, hwf⟩ := K.walks_parts HW.out
        have ha0 := K.has_iff.1 (K.walk_mem PP none hwf a (List.mem_of_getElem? ha))
        rw [← hl.1] at ha0
        obtain ⟨ja, rfl⟩ : ∃ j : Nat, a = j := ⟨a.toNat, by omega⟩
        obtain ⟨ad9, xa, e9, hxa, a0, a1, a2, a3⟩ := Items.at_ (hl.below hb) (show ja < n by omega)
        injection e9 with e9; subst e9
        obtain ⟨adv, y, rfl, hy, y0, y1, y2, y3⟩ := Items.at_ (hv6.below hbr) hlt
        obtain ⟨xa', y', hxa', hy', el, er⟩ := K.view_at HW.out ha
        rw [Int.toNat_natCast, hxa] at hxa'
        injection hxa' with hxa'; subst hxa'
        rw [← HV.out, hy] at hy'
        injection hy' with hy'; subst hy'
        rw [el] at y2
        rw [er] at y3
        have hPr := blk_below hbr hP6
        have pr : wr.cell? ⟨w.heap.size, 0, none⟩ = some (.slice (some ad) n c) := blk_cell hPr 0 _ rfl
        have k0 : (0 : Int) ≤ (k : Int) := by omega
        have k1 : (k : Int) < ((o' + 1 : Nat) : Int) := by omega
        have k1' : (k : Int) < (o' : Int) + 1 := by omega
        have j0 : (0 : Int) ≤ (ja : Int) := by omega
        have j1 : (ja : Int) < (n : Int) := by omega
        have j2 : ja < n := by omega
        have d1 : decide ((ja : Int) < 0) = false := by simp
        have d2 : decide ((n : Int) ≤ (ja : Int)) = false := by simp; omega
        have d3 : decide (n ≤ ja) = false := by simp; omega
        have d4 : (xa.lt != xa.lt) = false := by simp
        have d5 : (xa.rt != xa.rt) = false := by simp
        by_cases hk0 : 0 < k
        · have q7 : decide ((0 : Int) < (k : Int)) = true := by simp; omega
          have q8 : decide (0 < k) = true := by simp; omega
          obtain ⟨k', hk'⟩ : ∃ k', k = k' + 1 := ⟨k - 1, by omega⟩
          have hlt' : k' < o' + 1 := by omega
          have wk : IntKind.i64.wrap ((k : Int) - 1) = (k' : Int) := by rw [IntWalk.i64_in _ (by omega)]; omega
          have wk2 : (k : Int) - 1 = (k' : Int) := by omega
          have m0 : (0 : Int) ≤ (k' : Int) := by omega
          have m1 : (k' : Int) < ((o' + 1 : Nat) : Int) := by omega
          have m1' : (k' : Int) < (o' : Int) + 1 := by omega
          obtain ⟨adp8, a', e8, ha', c8⟩ := (hp6.below hbr).at_ hlt'
          injection e8 with e8; subst e8
          obtain ⟨adv9, z, e9, hz, z0, z1, z2, z3⟩ := Items.at_ (hv6.below hbr) hlt'
          injection e9 with e9; subst e9
          obtain ⟨xb, z', hxb, hz', fl, fr⟩ := K.view_at HW.out ha'
          rw [← HV.out, hz] at hz'
          injection hz' with hz'; subst hz'
          obtain ⟨xb', hxb', hst⟩ := K.walk_step HW.out ha' (by rw [← hk']; exact ha)
          rw [hxb] at hxb'
          injection hxb' with hxb'; subst hxb'
          rw [← fl, ← fr] at hst
          clear hk' c8 ha' hz hxb fl fr hwf ha hxa hy el er z0 z1 hk0
          cases tb : (z.lt == (ja : Int))
          · have t3 : (z.lt != (ja : Int)) = true := by simp [bne, tb]
            have t4 : (z.rt != (ja : Int)) = false := by
              rcases hst with h | h
              · simp [h] at tb
              · simp [bne, h]
            clear tb hst
            go_wp2_with fail
            go_quiet (fail)
            go_wp2_with fail
            go_quiet (fail)
            go_wp2_with fail
            go_quiet (fail)
            go_wp2_with fail
            go_roundw
            case rel => exact ⟨k + 1, by go_num, by omega, below_drewN hbr _⟩
            case measure => simp [intOf]; omega
          · have t3 : (z.lt != (ja : Int)) = false := by simp [bne, tb]
            clear tb hst
            go_wp2_with fail
            go_quiet (fail)
            go_wp2_with fail
            go_quiet (fail)
            go_wp2_with fail
            go_quiet (fail)
            go_wp2_with fail
            go_roundw
            case rel => exact ⟨k + 1, by go_num, by omega, below_drewN hbr _⟩
            case measure => simp [intOf]; omega
        · have q7 : decide ((0 : Int) < (k : Int)) = false := by simp; omega
          have q8 : decide (0 < k) = false := by simp; omega
          clear hk0 ha hxa hy el er hwf
          go_wp2_with fail
          go_quiet (fail)
          go_wp2_with fail
          go_quiet (fail)
          go_wp2_with fail
          go_quiet (fail)
          go_wp2_with fail
          go_roundw
          case rel => exact ⟨k + 1, by go_num, by omega, below_drewN hbr _⟩
          case measure => simp [intOf]; omega
      · cases tt : ((jr : Int) == (jf : Int))
        · have t5 : ((jr : Int) != (jf : Int)) = true := by simp only [bne, tt]; rfl
          clear tt
          go_wp2_with fail
          go_ret
          exact ⟨rfl, hb⟩
        · have t5 : ((jr : Int) != (jf : Int)) = false := by simp only [bne, tt]; rfl
          have hoo : o' = 0 := by
            have h1 := HONE.out (by simpa using tt)
            have h2 := hp6.1
            omega
          have t6 : ((o' : Int) + 1 == 1) = true := by rw [beq_iff_eq]; omega
          have t7 : (((o' + 1 : Nat) : Int) == 1) = true := by rw [beq_iff_eq]; omega
          clear tt hoo
          go_wp2_with fail
          go_ret
          exact ⟨rfl, hb⟩
end Go.Proofs.Ytijkaiilecpbcaa
