/-
The whole: the walk of the law about promises.
-/
import Derived.Test.YtippdjmpkafifaaGreatCV17
import Derived.Test.YtippdjmpkafifaaGreatCV21
namespace Go.Proofs.YtippdjmpkafifaaGreat
open Go.RowKit
theorem TopBk.ok {x xi : Cs} {i : Nat} (h : TopBk x xi i) (hi : i ≤ 4) {g : Nat} {w : World} (hI : BkIn g w xi) (hn : x.n ≤ 1000000) (hs : x.sn ≤ 1000000) {q : Q} (hq : Wins w q.A q.n q.l) (hq6 : q.n ≤ 6) : Ok33 w xi q :=
  ⟨⟨hI.net, hI.shifts, hI.reqs, by have := h.n; omega, fun s hm => by have := h.s9 s hm; omega, by have := h.sn; omega, by have := h.len; omega, fun p hp => by have := h.qn p hp; omega⟩, hq, by have := h.len; omega, fun p hp => by have := h.qn p hp; omega, by omega⟩
set_option maxRecDepth 100000 in
set_option maxHeartbeats 32000000 in
theorem topPromised_any (x : Cs) (w : World) (hR : Roads w x.A x.n x.l) (hS : Shifts w x.SA x.sn x.ss) (hQ : Reqs w x.B x.m x.r) :
    Calls Tryz.prog 14 #[.agg #[.int .i64 x.nd, .slice x.A x.n x.c], .slice x.SA x.sn x.sc, .slice x.B x.m x.d] w fun e w' => e = .returned (.bool true) ∧ Below w.heap.size w w' := by
  obtain ⟨w1, hw1⟩ : ∃ w1 : World, w1 = w.alloc (.cells #[.int .i64 x.nd, .slice x.A x.n x.c] 24) := ⟨_, rfl⟩
  obtain ⟨g0, hg0⟩ : ∃ g, g = w.heap.size := ⟨_, rfl⟩
  have b1 : Below w.heap.size w w1 := by rw [hw1]; exact bel_alc _ _
  have hB0 : w1.heap[g0]? = some (.cells #[.int .i64 x.nd, .slice x.A x.n x.c] 24 (0, 0)) := by rw [hw1, hg0]; exact heap_alloc_new _ _
  have HRN := Lib.hid hQ.1
  have HSN := Lib.hid hS.1.1
  go_enter Tryz.func14, Tryz.ntmps14
  go_wp2_with fail
  rw [← hw1, ← hg0]
  clear hw1 hg0
  refine (wholeLive_any _).mono ?_
  rintro e w2 ⟨rfl, b2⟩
  have hb2 := bel b1 b2
  have hB02 := blk_below b2 hB0
  have p0 := blk_cell hB02 0 _ rfl
  have p1 := blk_cell hB02 1 _ rfl
  have CF := wholeFew_any x 4 (by decide) w2 (Lst.below hR hb2) (hS.below hb2) (hQ.below hb2)
  obtain ⟨zf, hzf⟩ : ∃ z, z = K.topFew x.nd x.n x.l x.ss x.r 4 := ⟨_, rfl⟩
  rw [← hzf, show ((4 : Nat) : Int) = 4 from rfl] at CF
  have HZF := Lib.hid hzf
  clear hzf
  go_wp2_with fail
  refine CF.mono ?_
  rintro e w3 ⟨rfl, b3⟩
  have hb3 := bel hb2 b3
  have hB03 := blk_below b3 hB02
  clear CF p0 p1
  cases zf
  · go_wp2_with fail
    go_ret
    exact ⟨rfl, hb3⟩
  have HF := Lib.hid (topFew_iff HZF.out.symm)
  have hm4 : x.m ≤ 4 := by rw [HRN.out]; exact HF.out.m
  have hs2 : x.sn ≤ 2 := by rw [HSN.out]; exact HF.out.sn
  have hXn : x.n ≤ 1000000 := by have := HF.out.few; simp only [K.few27] at this; simp at this; omega
  have hXs : x.sn ≤ 1000000 := by omega
  have hXr : ∀ s ∈ x.ss, s.n ≤ 1000000 := fun s hs => by
    have := (HF.out.s s hs).1
    simp only [T.few, Bool.and_eq_true, decide_eq_true_eq] at this
    omega
  have hR3 : Roads w3 x.A x.n x.l := Lst.below hR hb3
  have hS3 := hS.below hb3
  have hQ3 := hQ.below hb3
  have HFI := Lib.hid (TopBk.first x HF.out.net HF.out.sn (fun s hs => (HF.out.s s hs).2) hXr)
  obtain ⟨w4, hw4⟩ : ∃ w4 : World, w4 = w3.alloc (.cells #[.int .i64 x.nd, .slice x.A x.n x.c, .slice x.SA x.sn x.sc, .slice none 0 0] 44) := ⟨_, rfl⟩
  obtain ⟨g, hg⟩ : ∃ g, g = w3.heap.size := ⟨_, rfl⟩
  have HG := Lib.hid hg
  have b4 : Below w3.heap.size w3 w4 := by rw [hw4]; exact bel_alc _ _
  have hN4 : BkBlk w4 w3.heap.size ⟨x.nd, x.A, x.n, x.c, x.l, x.SA, x.sn, x.sc, x.ss, none, 0, 0, []⟩ := by rw [hw4]; exact heap_alloc_new _ _
  have hI4 : BkIn g w4 ⟨x.nd, x.A, x.n, x.c, x.l, x.SA, x.sn, x.sc, x.ss, none, 0, 0, []⟩ := by
    rw [hg]
    exact bkIn_new (x := ⟨x.nd, x.A, x.n, x.c, x.l, x.SA, x.sn, x.sc, x.ss, none, 0, 0, []⟩) hR3 hS3 ⟨rfl, ⟨rfl, fun h => absurd h (Nat.lt_irrefl 0)⟩, fun p h => (by cases h)⟩ b4 hN4
  clear hN4
  have p0 := blk_cell hB03 0 _ rfl
  have p1 := blk_cell hB03 1 _ rfl
  go_upto_region 5 with fail
  rw [← hw4, ← hg]
  clear hw4 hg p0 p1
  go_wp2_with fail
  go_loopw [9] (fun v9 wi => ∃ (i : Nat) (xi : Cs), v9 = .int .i64 (i : Int) ∧ i ≤ x.m ∧ BkIn g wi xi ∧ Hid (TopBk x xi i) ∧ Below w3.heap.size w3 wi) (fun v9 _ => x.m - (intOf v9).toNat)
  case atStart => exact ⟨0, _, rfl, Nat.zero_le _, hI4, HFI, b4⟩
  case round =>
    clear hI4 b4 HFI
    obtain ⟨i, xi, rfl, hi, hI, hbk, hbr⟩ := hrel
    by_cases hlt : i < x.m
    rotate_left
    · have hd : decide ((i : Int) < (x.m : Int)) = false := by simp; omega
      have hd2 : decide (i < x.m) = false := by simp; omega
      have hbe := bel hb3 hbr
      go_wp2_with fail
      go_ret
      exact ⟨rfl, hbe⟩
    have k0 : (0 : Int) ≤ (i : Int) := by omega
    have k1 : (i : Int) < (x.m : Int) := by omega
    obtain ⟨adl, q, hLA, hq, hW, c0, c1, c2, c3, c4, c5, c6⟩ := (hQ3.below hbr).at_ hlt
    obtain ⟨W1, hW1⟩ : ∃ W1 : World, W1 = wr := ⟨_, rfl⟩
    have HMK := Lib.hid (show ∀ w', Below W1.heap.size W1 w' → (fun w' : World => w'.cell? ⟨g, 0, none⟩ = some (.int .i64 xi.nd) ∧ w'.cell? ⟨g, 1, none⟩ = some (.slice xi.A xi.n xi.c) ∧ w'.cell? ⟨g, 2, none⟩ = some (.slice xi.SA xi.sn xi.sc) ∧ w'.cell? ⟨g, 3, none⟩ = some (.slice xi.B xi.m xi.d) ∧ w'.cell? (adl.add (i * 7)) = some (.int .i64 q.node) ∧ w'.cell? ⟨(adl.add (i * 7)).block, (adl.add (i * 7)).off + 1, none⟩ = some (.int .i64 q.room) ∧ w'.cell? ⟨(adl.add (i * 7)).block, (adl.add (i * 7)).off + 2, none⟩ = some (.int .i64 q.kilos) ∧ w'.cell? ⟨(adl.add (i * 7)).block, (adl.add (i * 7)).off + 3, none⟩ = some (.int .i64 q.service) ∧ w'.cell? ⟨(adl.add (i * 7)).block, (adl.add (i * 7)).off + 4, none⟩ = some (.int .i64 q.frm) ∧ w'.cell? ⟨(adl.add (i * 7)).block, (adl.add (i * 7)).off + 5, none⟩ = some (.int .i64 q.by_) ∧ w'.cell? ⟨(adl.add (i * 7)).block, (adl.add (i * 7)).off + 6, none⟩ = some (.slice q.A q.n q.c)) w' from fun w' h => by
      rw [hW1] at h
      have hIb := (hI.below h).blk
      have mv : ∀ {p : Addr} {v : Value}, wr.cell? p = some v → w'.cell? p = some v := fun g => (h.cell (cell_lt g)).trans g
      exact ⟨blk_cell hIb 0 _ rfl, blk_cell hIb 1 _ rfl, blk_cell hIb 2 _ rfl, blk_cell hIb 3 _ rfl, mv c0, mv c1, mv c2, mv c3, mv c4, mv c5, mv c6⟩)
    obtain ⟨hq6, hqr⟩ := HF.out.r q (List.mem_of_getElem? hq)
    have HFT := Lib.hid (show K.fits33 x.nd q = true by unfold K.fits33; rw [hqr.1]; simp [hqr.2])
    have hI5 : BkIn g W1 xi := by rw [hW1]; exact hI
    have hW5 : Wins W1 q.A q.n q.l := by rw [hW1]; exact hW
    have hb5 : Below w3.heap.size w3 W1 := by rw [hW1]; exact hbr
    have hql : q.l.length ≤ 6 := by have := hW.1; omega
    have hq6x := hbk.out.qn
    have hxl := reqs_len hI.reqs hq6x
    have hq6a : ∀ p ∈ xi.r ++ [q], p.n ≤ 6 := fun p hp => (List.mem_append.1 hp).elim (hq6x p) (fun hp => by rw [List.mem_singleton.1 hp]; exact hq6)
    clear c0 c1 c2 c3 c4 c5 c6 hI hW hbr hq hqr
    rw [hLA]
    rw [← hW1]
    clear hW1 hLA
    have HOK := Lib.hid (show ∀ w', Below W1.heap.size W1 w' → Ok33 w' xi q from fun w' h => hbk.out.ok (by omega) (hI5.below h) hXn hXs (hW5.below h) hq6)
    have hKn : xi.n ≤ 1000000 := by rw [hbk.out.n]; exact hXn
    have hKs : xi.sn ≤ 1000000 := by rw [hbk.out.sn]; exact hXs
    have hKr := hbk.out.s9
    have hlg1 : g < W1.heap.size := lt_of_block hI5.blk
    have hR00 : Below W1.heap.size W1 W1 := Below.refl _ _
    have S0 := HMK.out _ hR00
    have S0d := HMK.out _ hR00.drew
    have z0 : W1.heap.size ≤ W1.heap.size := Nat.le_refl _
    have z0d : W1.heap.size ≤ W1.drew.heap.size := Nat.le_refl _
    have z0s : W1.heap.size ≤ W1.heap.size + 1 := Nat.le_succ _
    obtain ⟨R, hR'⟩ : ∃ R, R = K.ask33 xi.nd xi.l xi.ss xi.r q := ⟨_, rfl⟩
    have HR := Lib.hid hR'.symm
    obtain ⟨ht1, ht2⟩ := hbk.out.top hI5.reqs.1 (by omega) HFT.out hR'.symm
    have HT1 := Lib.hid ht1
    have HT2 := Lib.hid ht2
    have hm6 : xi.m < 6 := by have := hbk.out.len; omega
    have HF33 := Lib.hid (show K.fits33 xi.nd q = true by rw [hbk.out.nd]; exact HFT.out)
    have hxm3 : xi.m ≤ 3 := by have := hbk.out.len; omega
    clear hR' ht1 ht2
    go_upto_region 8 with fail
    go_cut [10, 11, 12] from 36 to 45 (fun v7 v8 v9 wc => ∃ gA gB x' a acc er, v7 = .pointer (some ⟨gA, 0, none⟩) ∧ v8 = .pointer (some ⟨gB, 0, none⟩) ∧ v9 = .int .i64 er ∧ AskP xi R x' a acc er ∧ DoneT W1 (ToldK g xi x' a R.1) (.int .i64 x'.nd) (.slice x'.A x'.n x'.c) (.slice x'.SA x'.sn x'.sc) (.slice x'.B x'.m x'.d) (.bool acc) (.slice a.PA a.pn a.pc) (.slice a.VA a.vn a.vc) (.slice a.RA a.rn a.rc) gA gB wc)
    case first =>
      go_region_held3 (fun w' : World => w'.cell? ⟨g, 0, none⟩ = some (.int .i64 xi.nd) ∧ w'.cell? ⟨g, 1, none⟩ = some (.slice xi.A xi.n xi.c) ∧ w'.cell? ⟨g, 2, none⟩ = some (.slice xi.SA xi.sn xi.sc) ∧ w'.cell? ⟨g, 3, none⟩ = some (.slice xi.B xi.m xi.d) ∧ w'.cell? (adl.add (i * 7)) = some (.int .i64 q.node) ∧ w'.cell? ⟨(adl.add (i * 7)).block, (adl.add (i * 7)).off + 1, none⟩ = some (.int .i64 q.room) ∧ w'.cell? ⟨(adl.add (i * 7)).block, (adl.add (i * 7)).off + 2, none⟩ = some (.int .i64 q.kilos) ∧ w'.cell? ⟨(adl.add (i * 7)).block, (adl.add (i * 7)).off + 3, none⟩ = some (.int .i64 q.service) ∧ w'.cell? ⟨(adl.add (i * 7)).block, (adl.add (i * 7)).off + 4, none⟩ = some (.int .i64 q.frm) ∧ w'.cell? ⟨(adl.add (i * 7)).block, (adl.add (i * 7)).off + 5, none⟩ = some (.int .i64 q.by_) ∧ w'.cell? ⟨(adl.add (i * 7)).block, (adl.add (i * 7)).off + 6, none⟩ = some (.slice q.A q.n q.c))
        (first | with_reducible exact HMK.out _ b2r | with_reducible exact HMK.out _ (bel_alloc b2r _) | with_reducible exact HMK.out _ (bel_alloc (bel_alloc b2r _) _) | with_reducible exact HMK.out _ hR00 | with_reducible exact HMK.out _ (bel_alloc hR00 _) | with_reducible exact HMK.out _ (bel_alloc (bel_alloc hR00 _) _) | with_reducible exact HMK.out _ (hR00).drew | with_reducible exact HMK.out _ ((bel_alloc hR00 _)).drew | with_reducible exact HMK.out _ ((bel_alloc (bel_alloc hR00 _) _)).drew | with_reducible exact HMK.out _ hR00.drew | with_reducible exact HMK.out _ (bel_alloc hR00.drew _) | with_reducible exact HMK.out _ (bel_alloc (bel_alloc hR00.drew _) _) | with_reducible exact HMK.out _ (bel_set4 b2r (by assumption) _ _ _ _) | with_reducible exact HMK.out _ (bel_set4 (bel_alloc b2r _) (by assumption) _ _ _ _) | with_reducible exact HMK.out _ (bel_set4 (bel_alloc (bel_alloc b2r _) _) (by assumption) _ _ _ _) | with_reducible exact HMK.out _ (bel_set4 (bel_set4 b2r (by assumption) _ _ _ _) (by assumption) _ _ _ _) | with_reducible exact HMK.out _ (bel_set4 (bel_set4 (bel_alloc b2r _) (by assumption) _ _ _ _) (by assumption) _ _ _ _) | with_reducible exact HMK.out _ (bel_set4 (bel_set4 (bel_alloc (bel_alloc b2r _) _) (by assumption) _ _ _ _) (by assumption) _ _ _ _) | fail)
        (first
          | (go_at_call 33; (first | (with_reducible (refine (ask_k g xi q R HR.out _ (HOK.out _ hR00) (lt_bel hlg1 hR00) hKn hKs hKr).mono ?_; rintro e w2 ⟨⟨x', a, acc, er, rfl, hK⟩, b2⟩; have b2r := bel hR00 b2; have z2r := b2r.size; have z2s := Nat.le_succ_of_le z2r)) | (with_reducible (refine (ask_k g xi q R HR.out _ (HOK.out _ (bel_alloc hR00 _)) (lt_bel hlg1 (bel_alloc hR00 _)) hKn hKs hKr).mono ?_; rintro e w2 ⟨⟨x', a, acc, er, rfl, hK⟩, b2⟩; have b2r := bel (bel_alloc hR00 _) b2; have z2r := b2r.size; have z2s := Nat.le_succ_of_le z2r)) | (with_reducible (refine (ask_k g xi q R HR.out _ (HOK.out _ (bel_alloc (bel_alloc hR00 _) _)) (lt_bel hlg1 (bel_alloc (bel_alloc hR00 _) _)) hKn hKs hKr).mono ?_; rintro e w2 ⟨⟨x', a, acc, er, rfl, hK⟩, b2⟩; have b2r := bel (bel_alloc (bel_alloc hR00 _) _) b2; have z2r := b2r.size; have z2s := Nat.le_succ_of_le z2r)) | (with_reducible (refine (ask_k g xi q R HR.out _ (HOK.out _ (hR00).drew) (lt_bel hlg1 (hR00).drew) hKn hKs hKr).mono ?_; rintro e w2 ⟨⟨x', a, acc, er, rfl, hK⟩, b2⟩; have b2r := bel (hR00).drew b2; have z2r := b2r.size; have z2s := Nat.le_succ_of_le z2r)) | (with_reducible (refine (ask_k g xi q R HR.out _ (HOK.out _ ((bel_alloc hR00 _)).drew) (lt_bel hlg1 ((bel_alloc hR00 _)).drew) hKn hKs hKr).mono ?_; rintro e w2 ⟨⟨x', a, acc, er, rfl, hK⟩, b2⟩; have b2r := bel ((bel_alloc hR00 _)).drew b2; have z2r := b2r.size; have z2s := Nat.le_succ_of_le z2r)) | (with_reducible (refine (ask_k g xi q R HR.out _ (HOK.out _ ((bel_alloc (bel_alloc hR00 _) _)).drew) (lt_bel hlg1 ((bel_alloc (bel_alloc hR00 _) _)).drew) hKn hKs hKr).mono ?_; rintro e w2 ⟨⟨x', a, acc, er, rfl, hK⟩, b2⟩; have b2r := bel ((bel_alloc (bel_alloc hR00 _) _)).drew b2; have z2r := b2r.size; have z2s := Nat.le_succ_of_le z2r)) | (with_reducible (refine (ask_k g xi q R HR.out _ (HOK.out _ hR00.drew) (lt_bel hlg1 hR00.drew) hKn hKs hKr).mono ?_; rintro e w2 ⟨⟨x', a, acc, er, rfl, hK⟩, b2⟩; have b2r := bel hR00.drew b2; have z2r := b2r.size; have z2s := Nat.le_succ_of_le z2r)) | (with_reducible (refine (ask_k g xi q R HR.out _ (HOK.out _ (bel_alloc hR00.drew _)) (lt_bel hlg1 (bel_alloc hR00.drew _)) hKn hKs hKr).mono ?_; rintro e w2 ⟨⟨x', a, acc, er, rfl, hK⟩, b2⟩; have b2r := bel (bel_alloc hR00.drew _) b2; have z2r := b2r.size; have z2s := Nat.le_succ_of_le z2r)) | (with_reducible (refine (ask_k g xi q R HR.out _ (HOK.out _ (bel_alloc (bel_alloc hR00.drew _) _)) (lt_bel hlg1 (bel_alloc (bel_alloc hR00.drew _) _)) hKn hKs hKr).mono ?_; rintro e w2 ⟨⟨x', a, acc, er, rfl, hK⟩, b2⟩; have b2r := bel (bel_alloc (bel_alloc hR00.drew _) _) b2; have z2r := b2r.size; have z2s := Nat.le_succ_of_le z2r))); (first | (with_reducible (have lA := blk_lt2 b2 hA; have hA := blk_below b2 hA)) | (with_reducible (have lA := blk_lt2 b2 (blk_alloc hA _); have hA := blk_below b2 (blk_alloc hA _))) | (with_reducible (have lA := blk_lt2 b2 (heap_alloc_at _ (.cells #[.int .i64 0, .slice none 0 0, .slice none 0 0, .slice none 0 0] 44) _ (World.size_alloc _ _).symm); have hA := blk_below b2 (heap_alloc_at _ (.cells #[.int .i64 0, .slice none 0 0, .slice none 0 0, .slice none 0 0] 44) _ (World.size_alloc _ _).symm))) | (with_reducible (have lA := blk_lt2 b2 (heap_alloc_new _ (.cells #[.int .i64 0, .slice none 0 0, .slice none 0 0, .slice none 0 0] 44)); have hA := blk_below b2 (heap_alloc_new _ (.cells #[.int .i64 0, .slice none 0 0, .slice none 0 0, .slice none 0 0] 44)))) | (with_reducible (have lA := blk_lt2 b2 (blk_alloc (heap_alloc_new _ (.cells #[.int .i64 0, .slice none 0 0, .slice none 0 0, .slice none 0 0] 44)) (.cells #[.bool false, .slice none 0 0, .slice none 0 0, .slice none 0 0] 50)); have hA := blk_below b2 (blk_alloc (heap_alloc_new _ (.cells #[.int .i64 0, .slice none 0 0, .slice none 0 0, .slice none 0 0] 44)) (.cells #[.bool false, .slice none 0 0, .slice none 0 0, .slice none 0 0] 50)))) | (with_reducible (have lA := blk_lt2 b2 (drew_fact hA); have hA := blk_below b2 (drew_fact hA))) | (with_reducible (have lA := blk_lt2 b2 (drew_fact (blk_alloc hA _)); have hA := blk_below b2 (drew_fact (blk_alloc hA _)))) | (with_reducible (have lA := blk_lt2 b2 (drew_fact (heap_alloc_at _ (.cells #[.int .i64 0, .slice none 0 0, .slice none 0 0, .slice none 0 0] 44) _ (World.size_alloc _ _).symm)); have hA := blk_below b2 (drew_fact (heap_alloc_at _ (.cells #[.int .i64 0, .slice none 0 0, .slice none 0 0, .slice none 0 0] 44) _ (World.size_alloc _ _).symm)))) | (with_reducible (have lA := blk_lt2 b2 (drew_fact (heap_alloc_new _ (.cells #[.int .i64 0, .slice none 0 0, .slice none 0 0, .slice none 0 0] 44))); have hA := blk_below b2 (drew_fact (heap_alloc_new _ (.cells #[.int .i64 0, .slice none 0 0, .slice none 0 0, .slice none 0 0] 44))))) | (with_reducible (have lA := blk_lt2 b2 (drew_fact (blk_alloc (heap_alloc_new _ (.cells #[.int .i64 0, .slice none 0 0, .slice none 0 0, .slice none 0 0] 44)) (.cells #[.bool false, .slice none 0 0, .slice none 0 0, .slice none 0 0] 50))); have hA := blk_below b2 (drew_fact (blk_alloc (heap_alloc_new _ (.cells #[.int .i64 0, .slice none 0 0, .slice none 0 0, .slice none 0 0] 44)) (.cells #[.bool false, .slice none 0 0, .slice none 0 0, .slice none 0 0] 50))))) | skip); (first | (with_reducible (have lB := blk_lt2 b2 hB; have hB := blk_below b2 hB)) | (with_reducible (have lB := blk_lt2 b2 (blk_alloc hB _); have hB := blk_below b2 (blk_alloc hB _))) | (with_reducible (have lB := blk_lt2 b2 (heap_alloc_at _ (.cells #[.bool false, .slice none 0 0, .slice none 0 0, .slice none 0 0] 50) _ (World.size_alloc _ _).symm); have hB := blk_below b2 (heap_alloc_at _ (.cells #[.bool false, .slice none 0 0, .slice none 0 0, .slice none 0 0] 50) _ (World.size_alloc _ _).symm))) | (with_reducible (have lB := blk_lt2 b2 (heap_alloc_new _ (.cells #[.bool false, .slice none 0 0, .slice none 0 0, .slice none 0 0] 50)); have hB := blk_below b2 (heap_alloc_new _ (.cells #[.bool false, .slice none 0 0, .slice none 0 0, .slice none 0 0] 50)))) | (with_reducible (have lB := blk_lt2 b2 (blk_alloc (heap_alloc_new _ (.cells #[.bool false, .slice none 0 0, .slice none 0 0, .slice none 0 0] 50)) (.cells #[.int .i64 0, .slice none 0 0, .slice none 0 0, .slice none 0 0] 44)); have hB := blk_below b2 (blk_alloc (heap_alloc_new _ (.cells #[.bool false, .slice none 0 0, .slice none 0 0, .slice none 0 0] 50)) (.cells #[.int .i64 0, .slice none 0 0, .slice none 0 0, .slice none 0 0] 44)))) | (with_reducible (have lB := blk_lt2 b2 (drew_fact hB); have hB := blk_below b2 (drew_fact hB))) | (with_reducible (have lB := blk_lt2 b2 (drew_fact (blk_alloc hB _)); have hB := blk_below b2 (drew_fact (blk_alloc hB _)))) | (with_reducible (have lB := blk_lt2 b2 (drew_fact (heap_alloc_at _ (.cells #[.bool false, .slice none 0 0, .slice none 0 0, .slice none 0 0] 50) _ (World.size_alloc _ _).symm)); have hB := blk_below b2 (drew_fact (heap_alloc_at _ (.cells #[.bool false, .slice none 0 0, .slice none 0 0, .slice none 0 0] 50) _ (World.size_alloc _ _).symm)))) | (with_reducible (have lB := blk_lt2 b2 (drew_fact (heap_alloc_new _ (.cells #[.bool false, .slice none 0 0, .slice none 0 0, .slice none 0 0] 50))); have hB := blk_below b2 (drew_fact (heap_alloc_new _ (.cells #[.bool false, .slice none 0 0, .slice none 0 0, .slice none 0 0] 50))))) | (with_reducible (have lB := blk_lt2 b2 (drew_fact (blk_alloc (heap_alloc_new _ (.cells #[.bool false, .slice none 0 0, .slice none 0 0, .slice none 0 0] 50)) (.cells #[.int .i64 0, .slice none 0 0, .slice none 0 0, .slice none 0 0] 44))); have hB := blk_below b2 (drew_fact (blk_alloc (heap_alloc_new _ (.cells #[.bool false, .slice none 0 0, .slice none 0 0, .slice none 0 0] 50)) (.cells #[.int .i64 0, .slice none 0 0, .slice none 0 0, .slice none 0 0] 44))))) | skip); (first | (with_reducible (have fA := blk_free hA; have yA0 := blk_cell hA 0 _ rfl; have yA1 := blk_cell hA 1 _ rfl; have yA2 := blk_cell hA 2 _ rfl; have yA3 := blk_cell hA 3 _ rfl)) | skip); (first | (with_reducible (have fB := blk_free hB; have yB0 := blk_cell hB 0 _ rfl; have yB1 := blk_cell hB 1 _ rfl; have yB2 := blk_cell hB 2 _ rfl; have yB3 := blk_cell hB 3 _ rfl)) | skip); (first | (with_reducible (have fAB := blk_free (blk_alloc hA (.cells #[.bool false, .slice none 0 0, .slice none 0 0, .slice none 0 0] 50)); have yAB0 := blk_cell (blk_alloc hA (.cells #[.bool false, .slice none 0 0, .slice none 0 0, .slice none 0 0] 50)) 0 _ rfl; have yAB1 := blk_cell (blk_alloc hA (.cells #[.bool false, .slice none 0 0, .slice none 0 0, .slice none 0 0] 50)) 1 _ rfl; have yAB2 := blk_cell (blk_alloc hA (.cells #[.bool false, .slice none 0 0, .slice none 0 0, .slice none 0 0] 50)) 2 _ rfl; have yAB3 := blk_cell (blk_alloc hA (.cells #[.bool false, .slice none 0 0, .slice none 0 0, .slice none 0 0] 50)) 3 _ rfl)) | skip); (first | (with_reducible (have fBA := blk_free (blk_alloc hB (.cells #[.int .i64 0, .slice none 0 0, .slice none 0 0, .slice none 0 0] 44)); have yBA0 := blk_cell (blk_alloc hB (.cells #[.int .i64 0, .slice none 0 0, .slice none 0 0, .slice none 0 0] 44)) 0 _ rfl; have yBA1 := blk_cell (blk_alloc hB (.cells #[.int .i64 0, .slice none 0 0, .slice none 0 0, .slice none 0 0] 44)) 1 _ rfl; have yBA2 := blk_cell (blk_alloc hB (.cells #[.int .i64 0, .slice none 0 0, .slice none 0 0, .slice none 0 0] 44)) 2 _ rfl; have yBA3 := blk_cell (blk_alloc hB (.cells #[.int .i64 0, .slice none 0 0, .slice none 0 0, .slice none 0 0] 44)) 3 _ rfl)) | skip); (first | (with_reducible (have fBN := blk_free (blk_alloc hB (.cells #[.int .i64 x'.nd, .slice x'.A x'.n x'.c, .slice x'.SA x'.sn x'.sc, .slice x'.B x'.m x'.d] 44)); have yBN0 := blk_cell (blk_alloc hB (.cells #[.int .i64 x'.nd, .slice x'.A x'.n x'.c, .slice x'.SA x'.sn x'.sc, .slice x'.B x'.m x'.d] 44)) 0 _ rfl; have yBN1 := blk_cell (blk_alloc hB (.cells #[.int .i64 x'.nd, .slice x'.A x'.n x'.c, .slice x'.SA x'.sn x'.sc, .slice x'.B x'.m x'.d] 44)) 1 _ rfl; have yBN2 := blk_cell (blk_alloc hB (.cells #[.int .i64 x'.nd, .slice x'.A x'.n x'.c, .slice x'.SA x'.sn x'.sc, .slice x'.B x'.m x'.d] 44)) 2 _ rfl; have yBN3 := blk_cell (blk_alloc hB (.cells #[.int .i64 x'.nd, .slice x'.A x'.n x'.c, .slice x'.SA x'.sn x'.sc, .slice x'.B x'.m x'.d] 44)) 3 _ rfl)) | skip); (first | (with_reducible (have fBS := blk_free (blk_other4 hA hB (.int .i64 x'.nd) (.slice x'.A x'.n x'.c) (.slice x'.SA x'.sn x'.sc) (.slice x'.B x'.m x'.d)); have yBS0 := blk_cell (blk_other4 hA hB (.int .i64 x'.nd) (.slice x'.A x'.n x'.c) (.slice x'.SA x'.sn x'.sc) (.slice x'.B x'.m x'.d)) 0 _ rfl; have yBS1 := blk_cell (blk_other4 hA hB (.int .i64 x'.nd) (.slice x'.A x'.n x'.c) (.slice x'.SA x'.sn x'.sc) (.slice x'.B x'.m x'.d)) 1 _ rfl; have yBS2 := blk_cell (blk_other4 hA hB (.int .i64 x'.nd) (.slice x'.A x'.n x'.c) (.slice x'.SA x'.sn x'.sc) (.slice x'.B x'.m x'.d)) 2 _ rfl; have yBS3 := blk_cell (blk_other4 hA hB (.int .i64 x'.nd) (.slice x'.A x'.n x'.c) (.slice x'.SA x'.sn x'.sc) (.slice x'.B x'.m x'.d)) 3 _ rfl)) | skip); (first | (with_reducible (have fBF := blk_free (blk_other4 (blk_alloc hA (.cells #[.bool false, .slice none 0 0, .slice none 0 0, .slice none 0 0] 50)) (heap_alloc_new _ (.cells #[.bool false, .slice none 0 0, .slice none 0 0, .slice none 0 0] 50)) (.int .i64 x'.nd) (.slice x'.A x'.n x'.c) (.slice x'.SA x'.sn x'.sc) (.slice x'.B x'.m x'.d)); have yBF0 := blk_cell (blk_other4 (blk_alloc hA (.cells #[.bool false, .slice none 0 0, .slice none 0 0, .slice none 0 0] 50)) (heap_alloc_new _ (.cells #[.bool false, .slice none 0 0, .slice none 0 0, .slice none 0 0] 50)) (.int .i64 x'.nd) (.slice x'.A x'.n x'.c) (.slice x'.SA x'.sn x'.sc) (.slice x'.B x'.m x'.d)) 0 _ rfl; have yBF1 := blk_cell (blk_other4 (blk_alloc hA (.cells #[.bool false, .slice none 0 0, .slice none 0 0, .slice none 0 0] 50)) (heap_alloc_new _ (.cells #[.bool false, .slice none 0 0, .slice none 0 0, .slice none 0 0] 50)) (.int .i64 x'.nd) (.slice x'.A x'.n x'.c) (.slice x'.SA x'.sn x'.sc) (.slice x'.B x'.m x'.d)) 1 _ rfl; have yBF2 := blk_cell (blk_other4 (blk_alloc hA (.cells #[.bool false, .slice none 0 0, .slice none 0 0, .slice none 0 0] 50)) (heap_alloc_new _ (.cells #[.bool false, .slice none 0 0, .slice none 0 0, .slice none 0 0] 50)) (.int .i64 x'.nd) (.slice x'.A x'.n x'.c) (.slice x'.SA x'.sn x'.sc) (.slice x'.B x'.m x'.d)) 2 _ rfl; have yBF3 := blk_cell (blk_other4 (blk_alloc hA (.cells #[.bool false, .slice none 0 0, .slice none 0 0, .slice none 0 0] 50)) (heap_alloc_new _ (.cells #[.bool false, .slice none 0 0, .slice none 0 0, .slice none 0 0] 50)) (.int .i64 x'.nd) (.slice x'.A x'.n x'.c) (.slice x'.SA x'.sn x'.sc) (.slice x'.B x'.m x'.d)) 3 _ rfl)) | skip))
          | fail)
      all_goals go_wp2_with fail
      all_goals go_meet
      all_goals (first
        | with_reducible exact ⟨_, _, x', a, acc, er, rfl, rfl, rfl, hK.p, doneT1 b2r hK.told⟩
        | with_reducible exact ⟨_, _, x', a, acc, er, rfl, rfl, rfl, hK.p, doneT2 b2r hK.told⟩
        | with_reducible exact ⟨_, _, x', a, acc, er, rfl, rfl, rfl, hK.p, doneT3 b2r hK.told hA lA (by assumption) _ _ _ _⟩
        | with_reducible exact ⟨_, _, x', a, acc, er, rfl, rfl, rfl, hK.p, doneT4 b2r hK.told hA lA (by assumption) hB lB (by assumption)⟩
        | with_reducible exact ⟨_, _, x', a, acc, er, rfl, rfl, rfl, hK.p, doneT5 b2r hK.told hB lB (by assumption)⟩
        | trace_state)
    case rest =>
      obtain ⟨gA, gB, x', a, acc, er, rfl, rfl, rfl, ⟨hac, her, han, hao, hxm⟩, hD⟩ := hcut
      obtain ⟨hDA, hDB, ⟨hOf, Bc, hgB, hTT⟩, hbc, -, -⟩ := hD
      obtain ⟨V1, hV1⟩ : ∃ V : World, V = wc := ⟨_, rfl⟩
      subst hV1
      obtain rfl : er = 0 := her.trans HT1.out.err
      have hbcw := bel hb5 hbc
      have HAN := Lib.hid han
      have HTT := Lib.hid hTT
      have HAO := Lib.hid hao
      have hacR : R.2.1.acc = acc := by rw [hac]; exact (congrArg K.An.acc han).symm
      have hok := HOK.out _ hbc
      have hat : AvAt V1 a := (hTT V1 (fun _ _ _ e => e)).1
      have hck : K.check33 xi.nd xi.l xi.ss xi.r q a.an = true := by rw [han]; exact HT1.out.check
      have C37 : ∀ i : Beh V1, Calls Tryz.prog 37 #[.agg #[.int .i64 xi.nd, .slice xi.A xi.n xi.c, .slice xi.SA xi.sn xi.sc, .slice xi.B xi.m xi.d], .agg #[.int .i64 q.node, .int .i64 q.room, .int .i64 q.kilos, .int .i64 q.service, .int .i64 q.frm, .int .i64 q.by_, .slice q.A q.n q.c], .agg #[.bool acc, .slice a.PA a.pn a.pc, .slice a.VA a.vn a.vc, .slice a.RA a.rn a.rc]] i.val fun e w' => e = .returned (.bool true) ∧ Below i.val.heap.size i.val w' := fun i => check_app xi q a acc true i.val (hok.below i.property) (hat.below i.property) hao hac hck
      have C58 : ∀ i : Beh V1, Calls Tryz.prog 58 #[.agg #[.int .i64 xi.nd, .slice xi.A xi.n xi.c, .slice xi.SA xi.sn xi.sc, .slice xi.B xi.m xi.d], .agg #[.int .i64 q.node, .int .i64 q.room, .int .i64 q.kilos, .int .i64 q.service, .int .i64 q.frm, .int .i64 q.by_, .slice q.A q.n q.c], .agg #[.bool acc, .slice a.PA a.pn a.pc, .slice a.VA a.vn a.vc, .slice a.RA a.rn a.rc]] i.val fun e w' => e = .returned (.bool true) ∧ Below i.val.heap.size i.val w' := fun i => answer_app xi q a acc i.val (hok.below i.property) (hat.below i.property) hao hm6 HF33.out hac hck
      obtain ⟨p0, p1, p2, p3, c0, c1, c2, c3, c4, c5, c6⟩ := HMK.out _ hbc
      have e0 : ((0 : Int) != 0) = false := by decide
      have Fp0 := Beh.cell p0
      have Fp1 := Beh.cell p1
      have Fp2 := Beh.cell p2
      have Fp3 := Beh.cell p3
      have Fc0 := Beh.cell c0
      have Fc1 := Beh.cell c1
      have Fc2 := Beh.cell c2
      have Fc3 := Beh.cell c3
      have Fc4 := Beh.cell c4
      have Fc5 := Beh.cell c5
      have Fc6 := Beh.cell c6
      have FB0 := Beh.cell (blk_cell hDB 0 _ rfl)
      have FB1 := Beh.cell (blk_cell hDB 1 _ rfl)
      have FB2 := Beh.cell (blk_cell hDB 2 _ rfl)
      have FB3 := Beh.cell (blk_cell hDB 3 _ rfl)
      clear p0 p1 p2 p3 c0 c1 c2 c3 c4 c5 c6 S0 S0d z0 z0d z0s hR00 her han hao hTT hck hat hok hac
      go_upto_region 9 with fail
      refine reg_beh (by kernel_rfl) (by kernel_rfl) ?_
      repeat (go_big_quiet_step ((first | (go_at_call 37; exact Beh.calls (C37 _)) | (go_at_call 58; exact Beh.calls (C58 _)) | fail)))
      refine wpQuiet_nil ?_
      rintro w9 ⟨⟨w9, b9⟩, rfl⟩
      clear C37 C58 Fp0 Fp1 Fp2 Fp3 Fc0 Fc1 Fc2 Fc3 Fc4 Fc5 Fc6 FB0 FB1 FB2 FB3 e0
      have hS9 : Stays Bc V1 w9 := Stays.below Bc b9
      have hb9 := bel hbcw b9
      have hI9 := (hI5.below hbc).below b9
      have hA9 := blk_below b9 hDA
      have hB9 := blk_below b9 hDB
      have hWq := hW5.below (bel hbc b9)
      have u0 := blk_cell hB9 0 _ rfl
      clear HOK HFT
      cases acc
      · as_aux_lemma =>
        have hx0 : x'.m = xi.m := by
          have h9 := (HTT.out w9 hS9).2
          rw [HT1.out.book, if_neg (by rw [hacR]; decide)] at h9
          have h8 := congrArg List.length h9.2.2.2.2.2.2
          rw [List.length_map, List.length_map, ← h9.2.2.2.2.1.reqs.1, ← hI9.reqs.1] at h8
          exact h8
        have hvn : a.vn = a.v.length := (HTT.out w9 hS9).1.v.1
        have hvb : R.2.1.blk = a.v := (congrArg K.An.blk HAN.out).symm
        have hvr : ∀ i ∈ a.v, 0 ≤ i ∧ i < (xi.r.length : Int) := by rw [← hvb]; exact HT2.out.within hacR
        have HVN := Lib.hid hvn
        have hvn9 : a.vn ≤ 1000 := HAO.out.fv
        have hv9 := (HTT.out w9 hS9).1.v
        obtain ⟨L, hL⟩ : ∃ L, L = K.pick33 xi.r a.v q := ⟨_, rfl⟩
        have HM2 := Lib.hid (show ∀ w', Below w9.heap.size w9 w' → (fun w' : World => w'.cell? ⟨g0, 0, none⟩ = some (.int .i64 x.nd) ∧ w'.cell? ⟨g0, 1, none⟩ = some (.slice x.A x.n x.c) ∧ w'.cell? ⟨g, 3, none⟩ = some (.slice xi.B xi.m xi.d) ∧ w'.cell? ⟨gB, 2, none⟩ = some (.slice a.VA a.vn a.vc) ∧ w'.cell? (adl.add (i * 7)) = some (.int .i64 q.node) ∧ w'.cell? ⟨(adl.add (i * 7)).block, (adl.add (i * 7)).off + 1, none⟩ = some (.int .i64 q.room) ∧ w'.cell? ⟨(adl.add (i * 7)).block, (adl.add (i * 7)).off + 2, none⟩ = some (.int .i64 q.kilos) ∧ w'.cell? ⟨(adl.add (i * 7)).block, (adl.add (i * 7)).off + 3, none⟩ = some (.int .i64 q.service) ∧ w'.cell? ⟨(adl.add (i * 7)).block, (adl.add (i * 7)).off + 4, none⟩ = some (.int .i64 q.frm) ∧ w'.cell? ⟨(adl.add (i * 7)).block, (adl.add (i * 7)).off + 5, none⟩ = some (.int .i64 q.by_) ∧ w'.cell? ⟨(adl.add (i * 7)).block, (adl.add (i * 7)).off + 6, none⟩ = some (.slice q.A q.n q.c)) w' from fun w' h => by
          obtain ⟨p0, p1, p2, p3, c0, c1, c2, c3, c4, c5, c6⟩ := HMK.out w' (bel hbc (bel b9 h))
          have h1 := blk_below (bel hb9 h) hB03
          have h2 := blk_below (bel b9 h) hDB
          exact ⟨blk_cell h1 0 _ rfl, blk_cell h1 1 _ rfl, p3, blk_cell h2 2 _ rfl, c0, c1, c2, c3, c4, c5, c6⟩)
        have HC61 := Lib.hid (show ∀ w', Below w9.heap.size w9 w' → Calls Tryz.prog 61 #[.slice xi.B xi.m xi.d, .slice a.VA a.vn a.vc, .int .i64 (-1), .agg #[.int .i64 q.node, .int .i64 q.room, .int .i64 q.kilos, .int .i64 q.service, .int .i64 q.frm, .int .i64 q.by_, .slice q.A q.n q.c]] w' fun e w2 => (∃ A n kz, e = .returned (.slice A n kz) ∧ Reqs w2 A n L ∧ n ≤ 2000) ∧ Below w'.heap.size w' w2 from fun w' h => by
          refine (part61_any xi a.VA a.vn a.vc a.v (-1) q w' (hI9.below h).reqs (hWq.below h) (hv9.below h) hvr HAO.out.fv).mono ?_
          rintro e w2 ⟨⟨A, n, kz, rfl, h1, h2⟩, hb⟩
          rw [K.less61_neg, hvn, List.take_length, ← hL] at h1
          exact ⟨⟨A, n, kz, rfl, h1, by have := HAO.out.fv; omega⟩, hb⟩)
        have HC20 := Lib.hid (show ∀ w' A n k, Below w9.heap.size w9 w' → Reqs w' A n L → n ≤ 2000 → Calls Tryz.prog 20 #[.agg #[.int .i64 x.nd, .slice x.A x.n x.c], .slice x.SA x.sn x.sc, .slice A n k] w' fun e w2 => (∃ A n c, e = .returned (.tuple #[.slice A n c, .int .i64 4])) ∧ Below w'.heap.size w' w2 from fun w' A n k h hl hn => plan_top x A n k L w' (Lst.below hR3 (bel hb9 h)) (hS3.below (bel hb9 h)) hl hXn hXs hXr (by omega) (by rw [hL]; exact pick_n hvr hq6x hq6) 4 (by rw [hL, ← hvb]; exact HT2.out.named hacR))
        have HC61k := Lib.hid (show ∀ (k : Nat), k < a.vn → ∀ w', Below w9.heap.size w9 w' → Calls Tryz.prog 61 #[.slice xi.B xi.m xi.d, .slice a.VA a.vn a.vc, .int .i64 (k : Int), .agg #[.int .i64 q.node, .int .i64 q.room, .int .i64 q.kilos, .int .i64 q.service, .int .i64 q.frm, .int .i64 q.by_, .slice q.A q.n q.c]] w' fun e w2 => (∃ A n kz, e = .returned (.slice A n kz) ∧ Reqs w2 A n (K.pick33 xi.r (a.v.take k ++ a.v.drop (k + 1)) q) ∧ n ≤ 2000) ∧ Below w'.heap.size w' w2 from fun k hk w' h => by
          refine (part61_any xi a.VA a.vn a.vc a.v (k : Int) q w' (hI9.below h).reqs (hWq.below h) (hv9.below h) hvr HAO.out.fv).mono ?_
          rintro e w2 ⟨⟨A, n, kz, rfl, h1, h2⟩, hb⟩
          rw [hvn, K.less61_at (by omega)] at h1
          exact ⟨⟨A, n, kz, rfl, h1, by have := HAO.out.fv; omega⟩, hb⟩)
        have HC20k := Lib.hid (show ∀ (k : Nat), k < a.vn → ∀ w' A n k', Below w9.heap.size w9 w' → Reqs w' A n (K.pick33 xi.r (a.v.take k ++ a.v.drop (k + 1)) q) → n ≤ 2000 → Calls Tryz.prog 20 #[.agg #[.int .i64 x.nd, .slice x.A x.n x.c], .slice x.SA x.sn x.sc, .slice A n k'] w' fun e w2 => (∃ A n c, e = .returned (.tuple #[.slice A n c, .int .i64 0])) ∧ Below w'.heap.size w' w2 from fun k hk w' A n k' h hl hn => plan_top x A n k' (K.pick33 xi.r (a.v.take k ++ a.v.drop (k + 1)) q) w' (Lst.below hR3 (bel hb9 h)) (hS3.below (bel hb9 h)) hl hXn hXs hXr (by omega) (pick_n (fun j hj => hvr j (by rcases List.mem_append.1 hj with hj | hj; exact List.mem_of_mem_take hj; exact List.mem_of_mem_drop hj)) hq6x hq6) 0 (by have h9 := HT2.out.less hacR k (by rw [hvb]; omega); rw [hvb] at h9; exact h9))
        have y3 := blk_cell hA9 3 _ rfl
        have g3 := blk_cell hI9.blk 3 _ rfl
        have d1 : ((x'.m : Int) != (xi.m : Int)) = false := by rw [hx0]; simp
        have d2 : decide ((x'.m : Int) = (xi.m : Int)) = true := by rw [hx0]; simp
        have d3 : decide (x'.m = xi.m) = true := by rw [hx0]; simp
        clear hx0 hL hvb hvr hv9 hvn
        go_upto_region 23 with fail
        clear u0 y3 g3 d1 d2 d3
        have hbd : Below w9.heap.size w9 w9.drew := (Below.refl _ _).drew
        have S0 := HM2.out _ (Below.refl _ _)
        have S0d := HM2.out _ hbd
        go_region_held3 (fun w' : World => w'.cell? ⟨g0, 0, none⟩ = some (.int .i64 x.nd) ∧ w'.cell? ⟨g0, 1, none⟩ = some (.slice x.A x.n x.c) ∧ w'.cell? ⟨g, 3, none⟩ = some (.slice xi.B xi.m xi.d) ∧ w'.cell? ⟨gB, 2, none⟩ = some (.slice a.VA a.vn a.vc) ∧ w'.cell? (adl.add (i * 7)) = some (.int .i64 q.node) ∧ w'.cell? ⟨(adl.add (i * 7)).block, (adl.add (i * 7)).off + 1, none⟩ = some (.int .i64 q.room) ∧ w'.cell? ⟨(adl.add (i * 7)).block, (adl.add (i * 7)).off + 2, none⟩ = some (.int .i64 q.kilos) ∧ w'.cell? ⟨(adl.add (i * 7)).block, (adl.add (i * 7)).off + 3, none⟩ = some (.int .i64 q.service) ∧ w'.cell? ⟨(adl.add (i * 7)).block, (adl.add (i * 7)).off + 4, none⟩ = some (.int .i64 q.frm) ∧ w'.cell? ⟨(adl.add (i * 7)).block, (adl.add (i * 7)).off + 5, none⟩ = some (.int .i64 q.by_) ∧ w'.cell? ⟨(adl.add (i * 7)).block, (adl.add (i * 7)).off + 6, none⟩ = some (.slice q.A q.n q.c))
          (first | with_reducible exact S2 | with_reducible exact S1 | with_reducible exact S0d | with_reducible exact S0 | fail)
          (first
            | (go_at_call 61; refine (HC61.out _ hbd).mono ?_; rintro e wp ⟨⟨PA, pn, pk, rfl, hLP, hpn⟩, bp⟩; have bpr := bel hbd bp; have S1 := HM2.out _ bpr)
            | (go_at_call 20; refine (HC20.out _ PA pn pk bpr hLP hpn).mono ?_; rintro e wq ⟨⟨TA, tn, tc, rfl⟩, bq⟩; have bqr := bel bpr bq; have S2 := HM2.out _ bqr)
            | fail)
        clear S0 S0d S1 S2 hbd bp bpr bq hLP hpn
        clear HC61 HC20
        go_wp2_with fail
        go_loopw [17] (fun v17 wi => ∃ k : Nat, v17 = .int .i64 k ∧ k ≤ a.vn ∧ Below w9.heap.size w9 wi) (fun v17 _ => a.vn - (intOf v17).toNat)
        case atStart => exact ⟨0, rfl, Nat.zero_le _, bqr⟩
        case round =>
          clear bqr
          obtain ⟨k, rfl, hk, hbi⟩ := hrel
          have hBi := blk_below (bel b9 hbi) hDB
          have u2 := blk_cell hBi 2 _ rfl
          by_cases hlk : k < a.vn
          · have HM3 := Lib.hid (show ∀ w', Below wr.heap.size wr w' → (fun w' : World => w'.cell? ⟨g0, 0, none⟩ = some (.int .i64 x.nd) ∧ w'.cell? ⟨g0, 1, none⟩ = some (.slice x.A x.n x.c) ∧ w'.cell? ⟨g, 3, none⟩ = some (.slice xi.B xi.m xi.d) ∧ w'.cell? ⟨gB, 2, none⟩ = some (.slice a.VA a.vn a.vc) ∧ w'.cell? (adl.add (i * 7)) = some (.int .i64 q.node) ∧ w'.cell? ⟨(adl.add (i * 7)).block, (adl.add (i * 7)).off + 1, none⟩ = some (.int .i64 q.room) ∧ w'.cell? ⟨(adl.add (i * 7)).block, (adl.add (i * 7)).off + 2, none⟩ = some (.int .i64 q.kilos) ∧ w'.cell? ⟨(adl.add (i * 7)).block, (adl.add (i * 7)).off + 3, none⟩ = some (.int .i64 q.service) ∧ w'.cell? ⟨(adl.add (i * 7)).block, (adl.add (i * 7)).off + 4, none⟩ = some (.int .i64 q.frm) ∧ w'.cell? ⟨(adl.add (i * 7)).block, (adl.add (i * 7)).off + 5, none⟩ = some (.int .i64 q.by_) ∧ w'.cell? ⟨(adl.add (i * 7)).block, (adl.add (i * 7)).off + 6, none⟩ = some (.slice q.A q.n q.c)) w' from fun w' h => HM2.out w' (bel hbi h))
            have HD61 := Lib.hid (fun w' (h : Below wr.heap.size wr w') => HC61k.out k hlk w' (bel hbi h))
            have HD20 := Lib.hid (fun w' A n k' (h : Below wr.heap.size wr w') => HC20k.out k hlk w' A n k' (bel hbi h))
            have hd : decide ((k : Int) < (a.vn : Int)) = true := by simp; omega
            have hd2 : decide (k < a.vn) = true := by simp; omega
            go_upto_region 29 with fail
            clear u2 hd hd2
            have hbd : Below wr.heap.size wr wr.drew := (Below.refl _ _).drew
            have S0 := HM3.out _ (Below.refl _ _)
            have S0d := HM3.out _ hbd
            go_region_held3 (fun w' : World => w'.cell? ⟨g0, 0, none⟩ = some (.int .i64 x.nd) ∧ w'.cell? ⟨g0, 1, none⟩ = some (.slice x.A x.n x.c) ∧ w'.cell? ⟨g, 3, none⟩ = some (.slice xi.B xi.m xi.d) ∧ w'.cell? ⟨gB, 2, none⟩ = some (.slice a.VA a.vn a.vc) ∧ w'.cell? (adl.add (i * 7)) = some (.int .i64 q.node) ∧ w'.cell? ⟨(adl.add (i * 7)).block, (adl.add (i * 7)).off + 1, none⟩ = some (.int .i64 q.room) ∧ w'.cell? ⟨(adl.add (i * 7)).block, (adl.add (i * 7)).off + 2, none⟩ = some (.int .i64 q.kilos) ∧ w'.cell? ⟨(adl.add (i * 7)).block, (adl.add (i * 7)).off + 3, none⟩ = some (.int .i64 q.service) ∧ w'.cell? ⟨(adl.add (i * 7)).block, (adl.add (i * 7)).off + 4, none⟩ = some (.int .i64 q.frm) ∧ w'.cell? ⟨(adl.add (i * 7)).block, (adl.add (i * 7)).off + 5, none⟩ = some (.int .i64 q.by_) ∧ w'.cell? ⟨(adl.add (i * 7)).block, (adl.add (i * 7)).off + 6, none⟩ = some (.slice q.A q.n q.c))
              (first | with_reducible exact S2 | with_reducible exact S1 | with_reducible exact S0d | with_reducible exact S0 | fail)
              (first
                | (go_at_call 61; refine (HD61.out _ hbd).mono ?_; rintro e wp ⟨⟨PA, pn, pk, rfl, hLP, hpn⟩, bp⟩; have bpr := bel hbd bp; have S1 := HM3.out _ bpr)
                | (go_at_call 20; refine (HD20.out _ PA pn pk bpr hLP hpn).mono ?_; rintro e wq ⟨⟨TA, tn, tc, rfl⟩, bq⟩; have bqr := bel bpr bq; have S2 := HM3.out _ bqr)
                | fail)
            clear S0 S0d S1 S2 hbd bp bpr bq hLP hpn
            have hbi2 := bel hbi bqr
            clear HM3 HD61 HD20 bqr
            go_wp2_with fail
            go_roundw
            case rel => (go_light; exact ⟨k + 1, by go_num, hlk, hbi2⟩)
            case measure => (go_light; simp [intOf]; omega)
          · have hd : decide ((k : Int) < (a.vn : Int)) = false := by simp; omega
            have hd2 : decide (k < a.vn) = false := by simp; omega
            have hIi := hI9.below hbi
            have HNX := Lib.hid hbk.out.next
            have hbz := bel hb9 hbi
            clear hlk
            go_wp2_with fail
            go_roundw
            case rel => (go_light; exact ⟨i + 1, xi, by go_num, hlt, hIi, HNX, hbz⟩)
            case measure => (go_light; simp [intOf]; omega)
      · skip
        have hpl := HT2.out.checks hacR
        have HPL := Lib.hid hpl
        obtain ⟨hxm1, hnx⟩ := hbk.out.snoc hI9.reqs.1 (show BookAt w9 xi x' (some (xi.r ++ [q])) by
          have h9 := (HTT.out w9 hS9).2
          rw [HT1.out.book, if_pos hacR] at h9
          exact h9) hI9.shifts hql hxl HT2.out hacR
        have HXM := Lib.hid hxm1
        have HNX := Lib.hid hnx
        have HJ7 := Lib.hid (show x'.r.map Q.bare = (xi.r ++ [q]).map Q.bare by
          have h9 := (HTT.out w9 hS9).2
          rw [HT1.out.book, if_pos hacR] at h9
          exact h9.2.2.2.2.2.2)
        have hx5 : x'.m ≤ 4 := by omega
        clear hpl hxm1 hnx
        have HMA := Lib.hid (show ∀ w', Below w9.heap.size w9 w' → (fun w' : World => w'.cell? ⟨g, 3, none⟩ = some (.slice xi.B xi.m xi.d) ∧ w'.cell? (adl.add (i * 7)) = some (.int .i64 q.node) ∧ w'.cell? ⟨(adl.add (i * 7)).block, (adl.add (i * 7)).off + 1, none⟩ = some (.int .i64 q.room) ∧ w'.cell? ⟨(adl.add (i * 7)).block, (adl.add (i * 7)).off + 2, none⟩ = some (.int .i64 q.kilos) ∧ w'.cell? ⟨(adl.add (i * 7)).block, (adl.add (i * 7)).off + 3, none⟩ = some (.int .i64 q.service) ∧ w'.cell? ⟨(adl.add (i * 7)).block, (adl.add (i * 7)).off + 4, none⟩ = some (.int .i64 q.frm) ∧ w'.cell? ⟨(adl.add (i * 7)).block, (adl.add (i * 7)).off + 5, none⟩ = some (.int .i64 q.by_) ∧ w'.cell? ⟨(adl.add (i * 7)).block, (adl.add (i * 7)).off + 6, none⟩ = some (.slice q.A q.n q.c)) w' from fun w' h => by
          obtain ⟨p0, p1, p2, p3, c0, c1, c2, c3, c4, c5, c6⟩ := HMK.out w' (bel hbc (bel b9 h))
          exact ⟨p3, c0, c1, c2, c3, c4, c5, c6⟩)
        have hRq0 : Rd w9 7 xi.B xi.m (xi.r.flatMap Q.cells) := by have h := hI9.reqs.2.1; rw [reqCells_flat] at h; exact h
        go_upto_region 12 with fail
        clear u0
        have hWW : Below w9.heap.size w9 w9 := Below.refl _ _
        have Fd : Below w9.heap.size w9 w9.drew := hWW.drew
        have Fz : Below w9.heap.size w9 (w9.alloc (.cells #[] 47)) := bel_alc _ _
        have S0 := HMA.out _ hWW
        have S0d := HMA.out _ Fd
        have S0z := HMA.out _ Fz
        have S0zd := HMA.out _ Fz.drew
        obtain ⟨i0, hi, hzz0, hzz1, hzz2⟩ := info_parts clone120_info
        have hone : ∀ u ∈ xi.r.flatMap Q.cells, u.oneCell' = true := flat_one Q.cells req_one _
        have hone2 : ∀ u ∈ q.cells, u.oneCell' = true := req_one q
        have hm63 : 0 + xi.m ≤ maxLen := by simp only [maxLen]; omega
        have hm47 : (0 + xi.m) * 72 ≤ 140737488355328 := by omega
        have hn63 : xi.m + 1 ≤ maxLen := by simp only [maxLen]; omega
        have hn47 : (xi.m + 1) * 72 ≤ 140737488355328 := by omega
        have Cz : ∀ g, (Value.slice (some ⟨w9.heap.size, 0, none⟩) 0 0).ownBlock = some g → w9.heap.size ≤ g := fun g e => by injection e with e; rw [← e]; exact Nat.le_refl _
        have Oa : (w9.alloc (.cells #[] 47)).drew.ownsRow w9.heap.size 47 7 (.slice (some ⟨w9.heap.size, 0, none⟩) 0 0) 0 [] := own_lit (heap_alloc_new w9 (.cells #[] 47)) (Nat.le_refl _)
        have Rq : Rd w9 7 (xi.B) xi.m (xi.r.flatMap Q.cells) := hRq0
        have Ra := Rq.below Fz.drew
        have Oz : True := trivial
        have Fx : Below w9.heap.size w9 (w9.alloc (.cells #[.int .i64 q.node, .int .i64 q.room, .int .i64 q.kilos, .int .i64 q.service, .int .i64 q.frm, .int .i64 q.by_, .slice q.A q.n q.c] 47)) := bel_alc _ _
        have Fzx : Below w9.heap.size w9 ((w9.alloc (.cells #[] 47)).alloc (.cells #[.int .i64 q.node, .int .i64 q.room, .int .i64 q.kilos, .int .i64 q.service, .int .i64 q.frm, .int .i64 q.by_, .slice q.A q.n q.c] 47)) := bel Fz (bel_alc _ _)
        have Fxz : Below w9.heap.size w9 ((w9.alloc (.cells #[.int .i64 q.node, .int .i64 q.room, .int .i64 q.kilos, .int .i64 q.service, .int .i64 q.frm, .int .i64 q.by_, .slice q.A q.n q.c] 47)).alloc (.cells #[] 47)) := bel Fx (bel_alc _ _)
        have S0x := HMA.out _ Fx
        have S0zx := HMA.out _ Fzx
        have S0xz := HMA.out _ Fxz
        have S0xd := HMA.out _ Fx.drew
        have S0zxd := HMA.out _ Fzx.drew
        have S0xzd := HMA.out _ Fxz.drew
        have Ob : ((w9.alloc (.cells #[] 47)).alloc (.cells #[.int .i64 q.node, .int .i64 q.room, .int .i64 q.kilos, .int .i64 q.service, .int .i64 q.frm, .int .i64 q.by_, .slice q.A q.n q.c] 47)).drew.ownsRow w9.heap.size 47 7 (.slice (some ⟨w9.heap.size, 0, none⟩) 0 0) 0 [] := own_lit (blk_alloc (heap_alloc_new w9 (.cells #[] 47)) (.cells #[.int .i64 q.node, .int .i64 q.room, .int .i64 q.kilos, .int .i64 q.service, .int .i64 q.frm, .int .i64 q.by_, .slice q.A q.n q.c] 47)) (Nat.le_refl _)
        have Oc : ((w9.alloc (.cells #[.int .i64 q.node, .int .i64 q.room, .int .i64 q.kilos, .int .i64 q.service, .int .i64 q.frm, .int .i64 q.by_, .slice q.A q.n q.c] 47)).alloc (.cells #[] 47)).drew.ownsRow w9.heap.size 47 7 (.slice (some ⟨w9.heap.size + 1, 0, none⟩) 0 0) 0 [] := own_lit (heap_alloc_at (w9.alloc (.cells #[.int .i64 q.node, .int .i64 q.room, .int .i64 q.kilos, .int .i64 q.service, .int .i64 q.frm, .int .i64 q.by_, .slice q.A q.n q.c] 47)) (.cells #[] 47) _ (World.size_alloc _ _).symm) (Nat.le_succ _)
        have Xb : ((w9.alloc (.cells #[] 47)).alloc (.cells #[.int .i64 q.node, .int .i64 q.room, .int .i64 q.kilos, .int .i64 q.service, .int .i64 q.frm, .int .i64 q.by_, .slice q.A q.n q.c] 47)).drew.heap[w9.heap.size + 1]? = some (.cells #[.int .i64 q.node, .int .i64 q.room, .int .i64 q.kilos, .int .i64 q.service, .int .i64 q.frm, .int .i64 q.by_, .slice q.A q.n q.c] 47 (0, 0)) := heap_alloc_at (w9.alloc (.cells #[] 47)) (.cells #[.int .i64 q.node, .int .i64 q.room, .int .i64 q.kilos, .int .i64 q.service, .int .i64 q.frm, .int .i64 q.by_, .slice q.A q.n q.c] 47) _ (World.size_alloc _ _).symm
        have Xc : ((w9.alloc (.cells #[.int .i64 q.node, .int .i64 q.room, .int .i64 q.kilos, .int .i64 q.service, .int .i64 q.frm, .int .i64 q.by_, .slice q.A q.n q.c] 47)).alloc (.cells #[] 47)).drew.heap[w9.heap.size]? = some (.cells #[.int .i64 q.node, .int .i64 q.room, .int .i64 q.kilos, .int .i64 q.service, .int .i64 q.frm, .int .i64 q.by_, .slice q.A q.n q.c] 47 (0, 0)) := blk_alloc (heap_alloc_new w9 (.cells #[.int .i64 q.node, .int .i64 q.room, .int .i64 q.kilos, .int .i64 q.service, .int .i64 q.frm, .int .i64 q.by_, .slice q.A q.n q.c] 47)) (.cells #[] 47)
        have Rb := Rq.below Fzx.drew
        have Rc := Rq.below Fxz.drew
        have hRX : ∀ (W : World) (gg : Nat), W.heap[gg]? = some (.cells #[.int .i64 q.node, .int .i64 q.room, .int .i64 q.kilos, .int .i64 q.service, .int .i64 q.frm, .int .i64 q.by_, .slice q.A q.n q.c] 47 (0, 0)) → Rd W 7 (some ⟨gg, 0, none⟩) 1 (q.cells) := fun W gg h => Rd.of_block h 7 1 rfl
        have HRX := Lib.hid hRX
        have Cxz : ∀ g, (Value.slice (some ⟨w9.heap.size + 1, 0, none⟩) 0 0).ownBlock = some g → w9.heap.size ≤ g := fun g e => by injection e with e; rw [← e]; exact Nat.le_succ _
        have Nb : some (w9.heap.size + 1) ≠ (Value.slice (some ⟨w9.heap.size, 0, none⟩) 0 0).ownBlock := fun e => by injection e with e; dsimp only at e; omega
        have Nc : some w9.heap.size ≠ (Value.slice (some ⟨w9.heap.size + 1, 0, none⟩) 0 0).ownBlock := fun e => by injection e with e; dsimp only at e; omega
        clear hRX
        go_cut [13] from 70 to 79 (fun v13 wc => ∃ A7 k7, v13 = .slice A7 x'.m k7 ∧ Reqs wc A7 x'.m (xi.r ++ [q]) ∧ Below w9.heap.size w9 wc)
        case first =>
          go_region_held3 (fun w' : World => w'.cell? ⟨g, 3, none⟩ = some (.slice xi.B xi.m xi.d) ∧ w'.cell? (adl.add (i * 7)) = some (.int .i64 q.node) ∧ w'.cell? ⟨(adl.add (i * 7)).block, (adl.add (i * 7)).off + 1, none⟩ = some (.int .i64 q.room) ∧ w'.cell? ⟨(adl.add (i * 7)).block, (adl.add (i * 7)).off + 2, none⟩ = some (.int .i64 q.kilos) ∧ w'.cell? ⟨(adl.add (i * 7)).block, (adl.add (i * 7)).off + 3, none⟩ = some (.int .i64 q.service) ∧ w'.cell? ⟨(adl.add (i * 7)).block, (adl.add (i * 7)).off + 4, none⟩ = some (.int .i64 q.frm) ∧ w'.cell? ⟨(adl.add (i * 7)).block, (adl.add (i * 7)).off + 5, none⟩ = some (.int .i64 q.by_) ∧ w'.cell? ⟨(adl.add (i * 7)).block, (adl.add (i * 7)).off + 6, none⟩ = some (.slice q.A q.n q.c))
            (first | with_reducible exact S7s | with_reducible exact S7 | with_reducible exact S6x | with_reducible exact S6 | with_reducible exact S0zxd | with_reducible exact S0xzd | with_reducible exact S0zd | with_reducible exact S0xd | with_reducible exact S0zx | with_reducible exact S0xz | with_reducible exact S0z | with_reducible exact S0x | with_reducible exact S0d | with_reducible exact S0 | fail)
            (first
              | (have h0 := Oz; clear Oz; apply step_append_rd (hgd := rfl) (s := .tmp 70) (x := .tmp 72) (t := 26) (ho := rfl) (base := w9.heap.size) (e := 47) (i := i0) (z := (.agg #[.int .i64 0, .int .i64 0, .int .i64 0, .int .i64 0, .int .i64 0, .int .i64 0, .slice none 0 0])) (size := 7) (bytes := 72) (ht := Tryz.underlying26) (hi := hi) (hz := hzz0) (hsize := hzz1) (hby := hzz2) (hzs := rfl) (hsz := by decide) (v := .slice (some ⟨_, 0, none⟩) 0 0) (n := 0) (xs := []) (hs := rfl) (A := xi.B) (m := xi.m) (c := xi.d) (news := xi.r.flatMap Q.cells) (hx := rfl) (h1 := hone) (h63 := hm63) (hbytes := hm47); (first | with_reducible exact Oa | with_reducible exact Ob | with_reducible exact Oc | fail); (first | with_reducible exact Ra | with_reducible exact Rb | with_reducible exact Rc | fail); (first | with_reducible exact Fz.drew.size | with_reducible exact Fzx.drew.size | with_reducible exact Fxz.drew.size | fail); intro v6 w6 hown6 hgr6 hat6; (first | (have b6r : Below w9.heap.size w9 w6 := by with_reducible exact below_own2 Fz.drew hgr6 Cz) | (have b6r : Below w9.heap.size w9 w6 := by with_reducible exact below_own2 Fzx.drew hgr6 Cz) | (have b6r : Below w9.heap.size w9 w6 := by with_reducible exact below_own2 Fxz.drew hgr6 Cxz) | fail); (first | (with_reducible (have hL := grow_blk hgr6 Xb Nb)) | (with_reducible (have hL := grow_blk hgr6 Xc Nc)) | skip); have S6 := HMA.out _ b6r; have F6x : Below w6.heap.size w6 (w6.alloc (.cells #[.int .i64 q.node, .int .i64 q.room, .int .i64 q.kilos, .int .i64 q.service, .int .i64 q.frm, .int .i64 q.by_, .slice q.A q.n q.c] 47)) := bel_alc _ _; have S6x := HMA.out _ (bel b6r F6x); rw [Nat.zero_add, List.nil_append] at hown6)
              | (have h9 := hown6; clear hown6; apply step_append_rd (hgd := rfl) (s := .tmp 73) (x := .tmp 78) (t := 26) (ho := rfl) (base := w9.heap.size) (e := 47) (i := i0) (z := (.agg #[.int .i64 0, .int .i64 0, .int .i64 0, .int .i64 0, .int .i64 0, .int .i64 0, .slice none 0 0])) (size := 7) (bytes := 72) (ht := Tryz.underlying26) (hi := hi) (hz := hzz0) (hsize := hzz1) (hby := hzz2) (hzs := rfl) (hsz := by decide) (v := v6) (n := xi.m) (xs := xi.r.flatMap Q.cells) (hs := rfl) (A := some ⟨_, 0, none⟩) (m := 1) (c := 1) (news := q.cells) (hx := rfl) (h1 := hone2) (h63 := hn63) (hbytes := hn47); rotate_right 1; (first | with_reducible exact h9 | with_reducible exact own_below h9 F6x | fail); (first | with_reducible exact HRX.out _ _ hL | with_reducible exact HRX.out _ _ (heap_alloc_new w6 _) | fail); (first | with_reducible exact b6r.size | with_reducible exact Nat.le_trans b6r.size F6x.size | fail); intro v7 w7 hown7 hgr7 hat7; obtain ⟨A7, k7, rfl, hRd7, hF7⟩ := own_form hown7; (first | (have b7r : Below w9.heap.size w9 w7 := by with_reducible exact below_own2 b6r hgr7 (fun g e => (h9.lt g e).1)) | (have b7r : Below w9.heap.size w9 w7 := by with_reducible exact below_own2 (bel b6r F6x) hgr7 (fun g e => (h9.lt g e).1)) | fail); have S7 := HMA.out _ b7r)
              | fail)
          all_goals go_wp2_with fail
          all_goals go_meet
          all_goals exact ⟨A7, k7, by rw [HXM.out], by rw [HXM.out]; exact reqs_snoc hRd7 hI9.reqs.1 (fun p hp => (hI9.reqs.2.2 p hp).below b7r) (hWq.below b7r), b7r⟩
        case rest =>
          obtain ⟨A7, k7, rfl, hL7, b12⟩ := hcut
          clear hRq0 HMA Fd Fz S0 S0d S0z S0zd hone hone2 hm63 hm47 hn63 hn47 Cz Oa Rq Ra Oz Fx Fzx Fxz S0x S0zx S0xz S0xd S0zxd S0xzd Ob Oc Xb Xc Rb Rc HRX Cxz Nb Nc
          obtain ⟨V, hV⟩ : ∃ V : World, V = wc := ⟨_, rfl⟩
          subst hV
          have b9V := bel b9 b12
          have hbV := bel hb9 b12
          have hB0V := blk_below hbV hB03
          have hAV := blk_below b9V hDA
          have hBV := blk_below b9V hDB
          have hIV := hI9.below b12
          have CS := serves_top x A7 x'.m k7 (xi.r ++ [q]) a.PA a.pn a.pc a.ts V (Lst.below hR3 hbV) (hS3.below hbV) hL7 hXn hXs hXr (by omega) hq6a (HTT.out V (Stays.below Bc b9V)).1.t HAO.out.ft (by
            rw [show a.ts.map TV.pr = R.2.1.tours from congrArg K.An.tours HAN.out]
            exact HPL.out)
          have p0 := blk_cell hB0V 0 _ rfl
          have p1 := blk_cell hB0V 1 _ rfl
          have y3 := blk_cell hAV 3 _ rfl
          have u1 := blk_cell hBV 1 _ rfl
          have d1 : ((x'.m : Int) != (x'.m : Int)) = false := by simp
          go_wp2_with fail
          refine CS.mono ?_
          rintro e w13 ⟨rfl, b13⟩
          clear CS p0 p1 y3 u1 d1
          have hA13 := blk_below b13 hAV
          have hL13 := hL7.below b13
          have hT13 := (HTT.out w13 (Stays.below Bc (bel b9V b13))).2
          have hb13 := bel hbV b13
          have hI13 := hIV.below b13
          have hbc13 := bel b9V b13
          rw [HT1.out.book, if_pos hacR] at hT13
          have hQ13 : Reqs w13 x'.B x'.m x'.r := hT13.2.2.2.2.1.reqs
          clear hT13 hIV hL7 hAV hBV hB0V
          go_wp2_with fail
          go_loopw [14] (fun v14 wi => ∃ k : Nat, v14 = .int .i64 k ∧ k ≤ x'.m ∧ Below w13.heap.size w13 wi) (fun v14 _ => x'.m - (intOf v14).toNat)
          case atStart => exact ⟨0, rfl, Nat.zero_le _, Below.refl _ _⟩
          case round =>
            obtain ⟨k, rfl, hk, hbi⟩ := hrel
            have hAi := blk_below hbi hA13
            by_cases hlk : k < x'.m
            · obtain ⟨ad1, p1, rfl, hp1, hWp, d0, d1, d2, d3, d4, d5, d6⟩ := (hL13.below hbi).at_ hlk
              obtain ⟨ad2, p2, hB2, hp2, hWp2, e0, e1, e2, e3, e4, e5, e6⟩ := (hQ13.below hbi).at_ hlk
              have hpq : p1.bare = p2.bare := by
                have h1 : ((xi.r ++ [q]).map Q.bare)[k]? = some p1.bare := by rw [List.getElem?_map, hp1]; rfl
                rw [← HJ7.out, List.getElem?_map, hp2] at h1
                injection h1 with h1
                exact h1.symm
              have hpn : p1.n ≤ 1000000000 := by have := hq6a p1 (List.mem_of_getElem? hp1); omega
              have CK : ∀ i : Beh wr, Calls Tryz.prog 60 #[.agg #[.int .i64 p1.node, .int .i64 p1.room, .int .i64 p1.kilos, .int .i64 p1.service, .int .i64 p1.frm, .int .i64 p1.by_, .slice p1.A p1.n p1.c], .agg #[.int .i64 p2.node, .int .i64 p2.room, .int .i64 p2.kilos, .int .i64 p2.service, .int .i64 p2.frm, .int .i64 p2.by_, .slice p2.A p2.n p2.c]] i.val fun e w' => e = .returned (.bool true) ∧ Below i.val.heap.size i.val w' := fun i => sameReq60_yes p1 p2 i.val (hWp.below i.property) (hWp2.below i.property) hpq hpn
              have k0 : (0 : Int) ≤ (k : Int) := by omega
              have k1 : (k : Int) < (x'.m : Int) := by omega
              have y3 := blk_cell hAi 3 _ rfl
              rw [hB2] at y3
              have q3 := Beh.cell y3
              have f0 := Beh.cell d0
              have f1 := Beh.cell d1
              have f2 := Beh.cell d2
              have f3 := Beh.cell d3
              have f4 := Beh.cell d4
              have f5 := Beh.cell d5
              have f6 := Beh.cell d6
              have g0' := Beh.cell e0
              have g1' := Beh.cell e1
              have g2' := Beh.cell e2
              have g3' := Beh.cell e3
              have g4' := Beh.cell e4
              have g5' := Beh.cell e5
              have g6' := Beh.cell e6
              clear hp1 hp2 hpq hpn hWp hWp2 d0 d1 d2 d3 d4 d5 d6 e0 e1 e2 e3 e4 e5 e6 y3 hB2
              go_upto_region 18 with fail
              refine reg_beh (by kernel_rfl) (by kernel_rfl) ?_
              repeat (go_big_quiet_step ((go_at_call 60; exact Beh.calls (CK _))))
              refine wpQuiet_nil ?_
              rintro w4 ⟨⟨w4, b4⟩, rfl⟩
              have hb4 := bel hbi b4
              clear CK q3 f0 f1 f2 f3 f4 f5 f6 g0' g1' g2' g3' g4' g5' g6'
              go_wp2_with fail
              go_roundw
              case rel => (go_light; exact ⟨k + 1, by go_num, hlk, hb4⟩)
              case measure => (go_light; simp [intOf]; omega)
            · have hd : decide ((k : Int) < (x'.m : Int)) = false := by simp; omega
              have hd2 : decide (k < x'.m) = false := by simp; omega
              have hIi := hI13.below hbi
              have f0 := blk_free hIi.blk
              have g0' := blk_cell hIi.blk 0 _ rfl
              have g1' := blk_cell hIi.blk 1 _ rfl
              have g2' := blk_cell hIi.blk 2 _ rfl
              have g3' := blk_cell hIi.blk 3 _ rfl
              have y0 := blk_cell hAi 0 _ rfl
              have y1 := blk_cell hAi 1 _ rfl
              have y2 := blk_cell hAi 2 _ rfl
              have y3 := blk_cell hAi 3 _ rfl
              clear hlk
              go_upto_region 7 with fail
              clear hd hd2 f0 g0' g1' g2' g3' y0 y1 y2 y3
              obtain ⟨wz, hwz⟩ : ∃ wz : World, wz = (((wr.setCell ⟨g, 0, none⟩ (.int .i64 x'.nd)).setCell ⟨g, 1, none⟩ (.slice x'.A x'.n x'.c)).setCell ⟨g, 2, none⟩ (.slice x'.SA x'.sn x'.sc)).setCell ⟨g, 3, none⟩ (.slice x'.B x'.m x'.d) := ⟨_, rfl⟩
              rw [← hwz]
              have hSz : Stays Bc V1 wz := by rw [hwz]; exact St4.stays (Stays.below Bc (bel hbc13 hbi)) (.inl hgB) _ _ _ _
              have hBz : BkBlk wz g x' := by rw [hwz]; exact St4.at_ hIi.blk _ _ _ _
              have hbz : Below w3.heap.size w3 wz := by rw [hwz]; exact St4.below (bel hb13 hbi) (by rw [HG.out]; exact Nat.le_refl _) _ _ _ _
              have hIz : BkIn g wz x' := by
                have h9 := (HTT.out wz hSz).2
                rw [HT1.out.book, if_pos hacR] at h9
                have h8 := h9.2.2.2.2.1
                exact ⟨hBz, h8.net, h8.shifts, h8.reqs, hOf⟩
              clear hwz hSz hBz
              go_wp2_with fail
              go_roundw
              case rel => (go_light; exact ⟨i + 1, x', by go_num, hlt, hIz, HNX, hbz⟩)
              case measure => (go_light; simp [intOf]; omega)
end Go.Proofs.YtippdjmpkafifaaGreat
