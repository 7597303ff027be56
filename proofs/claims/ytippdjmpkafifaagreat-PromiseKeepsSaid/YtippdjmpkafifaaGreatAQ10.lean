import Derived.Test.YtippdjmpkafifaaGreatAQ7
import Derived.Test.YtippdjmpkafifaaGreatAQ8
import Derived.Test.YtippdjmpkafifaaGreatAQ9
/-
Plans: the walk of plan.Plan once more: all that it hands back is new.
-/
namespace Go.Proofs.YtippdjmpkafifaaGreat
open Go.RowKit
/-- Old blocks. -/
def Old (w : World) (g : Nat) : Prop := g < w.heap.size
/-- Tours that lie in new memory. -/
def NT (w : World) (ts : List TV) : Prop := ∀ y ∈ ts, (0 < y.n → ∀ ad, y.A = some ad → w.heap.size ≤ ad.block) ∧ (0 < y.n' → ∀ ad, y.A' = some ad → w.heap.size ≤ ad.block)
theorem NT.snoc {w : World} {ts : List TV} (h : NT w ts) {y : TV} (h1 : 0 < y.n → ∀ ad, y.A = some ad → w.heap.size ≤ ad.block) (h2 : 0 < y.n' → ∀ ad, y.A' = some ad → w.heap.size ≤ ad.block) : NT w (ts ++ [y]) := fun z hz => by
  rcases List.mem_append.1 hz with hz | hz
  · exact h z hz
  · rw [List.mem_singleton.1 hz]; exact ⟨h1, h2⟩
structure PlAz (w0 w : World) (b mb gb : Nat) (x : Cs) (X : Nat → Prop) (shs : List Sh) : Prop where
  case : CsAt w0 x
  bw : Below w0.heap.size w0 w
  hb : w0.heap.size ≤ b
  hm : w0.heap.size ≤ mb
  hg : w0.heap.size ≤ gb
  blk : PlBlk w b mb gb x
  sh : ShBlk w gb shs
  len : shs.length = x.sn
  ints : ∀ s ∈ shs, Ints w s.A s.n s.l ∧ s.n ≤ s.c
  memo : Memo32 w mb x X
  ok : K.pcheck x.nd x.l x.ss x.r = 0
  away : ∀ g, X g → 0 ≤ g ∧ g ≠ b ∧ g ≠ mb ∧ g ≠ gb ∧ ∀ s ∈ shs, 0 < s.n → ∀ ad, s.A = some ad → ad.block ≠ g
theorem PlAz.keep {w0 w w' : World} {b mb gb : Nat} {x : Cs} {X : Nat → Prop} {shs : List Sh} (h : PlAz w0 w b mb gb x X shs) (hb : Below w0.heap.size w0 w') (he : Ext w w') (hm : Memo32 w' mb x X) : PlAz w0 w' b mb gb x X shs :=
  ⟨h.case, hb, h.hb, h.hm, h.hg, he.cells _ _ _ _ h.blk, he.cells _ _ _ _ h.sh, h.len, fun s hs => ⟨(h.ints s hs).1.ext he, (h.ints s hs).2⟩, hm, h.ok, h.away⟩
theorem PlAz.below {w0 w w' : World} {b mb gb : Nat} {x : Cs} {X : Nat → Prop} {shs : List Sh} (h : PlAz w0 w b mb gb x X shs) (hb : Below w.heap.size w w') : PlAz w0 w' b mb gb x X shs :=
  h.keep (bel h.bw hb) (Ext.below hb) (h.memo.below hb)
theorem PlAz.grown {w0 w w' : World} {b mb gb : Nat} {x : Cs} {X : Nat → Prop} {shs : List Sh} (h : PlAz w0 w b mb gb x X shs) (hg : w.grownBy w' (some mb)) (hm : Memo32 w' mb x X) : PlAz w0 w' b mb gb x X shs :=
  h.keep (below_own2 h.bw hg (fun k e => by injection e with e; rw [← e]; exact h.hm)) (h.memo.ext hg) hm
theorem PlAz.cs {w0 w : World} {b mb gb : Nat} {x : Cs} {X : Nat → Prop} {shs : List Sh} (h : PlAz w0 w b mb gb x X shs) : CsAt w x := h.case.below h.bw
theorem PlAz.one {w0 w : World} {b mb gb : Nat} {x : Cs} {X : Nat → Prop} {shs : List Sh} (h : PlAz w0 w b mb gb x X shs) {s : S} (hs : s ∈ x.ss) : At w (x.one s) := h.cs.case hs
def RetPlX (x : Cs) (w w' : World) (e : Ending) : Prop := ∃ b mb gb, e = .returned (.pointer (some ⟨b, 0, none⟩)) ∧ ∀ X : Nat → Prop, (∀ g, X g → g < w.heap.size) → PlAz w w' b mb gb x X (List.replicate x.sn ⟨none, 0, 0, []⟩)
theorem retPlX_mk {x : Cs} {w w' : World} {b mb gb : Nat} (hx : CsAt w x) (hok : K.pcheck x.nd x.l x.ss x.r = 0) (hb : Below w.heap.size w w') (h1 : w.heap.size ≤ b) (h2 : w.heap.size ≤ mb) (h3 : w.heap.size ≤ gb) (hp : PlBlk w' b mb gb x)
    (hs : w'.heap[gb]? = some (.cells (List.replicate x.sn (Value.slice none 0 0)).toArray 48 (0, 0))) (hm : w'.heap[mb]? = some (.map #[] 0)) : RetPlX x w w' (.returned (.pointer (some ⟨b, 0, none⟩))) := by
  refine ⟨b, mb, gb, rfl, fun X hX => ⟨hx, hb, h1, h2, h3, hp, ?_, by simp, fun s h => ?_, ⟨#[], 0, hm, fun e he => by simp at he⟩, hok, fun g hg => ⟨Nat.zero_le _, by have := hX g hg; omega, by have := hX g hg; omega, by have := hX g hg; omega, fun s hs h0 => absurd h0 (by rw [List.eq_of_mem_replicate hs]; exact Nat.lt_irrefl _)⟩⟩⟩
  · unfold ShBlk
    rw [hs, List.map_replicate]
    rfl
  · rw [List.eq_of_mem_replicate h]
    exact ⟨ints_nil _, Nat.le_refl _⟩

set_option maxRecDepth 100000 in
set_option maxHeartbeats 16000000 in
theorem start32X (x : Cs) (w : World) (hx : CsAt w x) (hok : K.pcheck x.nd x.l x.ss x.r = 0) :
    Calls Tryz.prog 66 #[.agg #[.int .i64 x.nd, .slice x.A x.n x.c], .slice x.SA x.sn x.sc, .slice x.B x.m x.d] w fun e w' => RetPlX x w w' e := by
  have hN := Net.new w x.nd x.A x.n x.c
  have z1 := World.size_alloc w (.cells #[.int .i64 x.nd, .slice x.A x.n x.c] 24)
  have b1 : Below w.heap.size w (w.alloc (.cells #[.int .i64 x.nd, .slice x.A x.n x.c] 24)) := (Below.refl _ _).alloc (Nat.le_refl _) _
  obtain ⟨w1, hw1⟩ : ∃ w1 : World, w1 = w.alloc (.cells #[.int .i64 x.nd, .slice x.A x.n x.c] 24) := ⟨_, rfl⟩
  have hsn : x.sn ≤ 1000000 := by have := (K.pcheck_ok hok).2.1; rw [hx.shifts.1.1]; omega
  go_enter Tryz.func66, Tryz.ntmps66
  go_wp2_with fail
  rw [← hw1] at hN z1 b1 ⊢
  clear hw1
  have hmk := fun w' => make_rows x.sn hsn w'
  have hmm := @run_makeMap Tryz.prog
  have hS : ∀ w', Below w1.heap.size w1 w' → (fun w' : World => Below w1.heap.size w1 w' ∧ w'.cell? ⟨w.heap.size, 0, none⟩ = some (.int .i64 x.nd) ∧ w'.cell? ⟨w.heap.size, 1, none⟩ = some (.slice x.A x.n x.c)) w' := fun w' h => ⟨h, (hN.below h).c0, (hN.below h).c1⟩
  have S0 := hS _ (Below.refl _ _)
  have hSd : ∀ w', (fun w' : World => Below w1.heap.size w1 w' ∧ w'.cell? ⟨w.heap.size, 0, none⟩ = some (.int .i64 x.nd) ∧ w'.cell? ⟨w.heap.size, 1, none⟩ = some (.slice x.A x.n x.c)) w' → (fun w' : World => Below w1.heap.size w1 w' ∧ w'.cell? ⟨w.heap.size, 0, none⟩ = some (.int .i64 x.nd) ∧ w'.cell? ⟨w.heap.size, 1, none⟩ = some (.slice x.A x.n x.c)) w'.drew := fun w' h => hS _ h.1.drew
  have hSa : ∀ w' o, (fun w' : World => Below w1.heap.size w1 w' ∧ w'.cell? ⟨w.heap.size, 0, none⟩ = some (.int .i64 x.nd) ∧ w'.cell? ⟨w.heap.size, 1, none⟩ = some (.slice x.A x.n x.c)) w' → (fun w' : World => Below w1.heap.size w1 w' ∧ w'.cell? ⟨w.heap.size, 0, none⟩ = some (.int .i64 x.nd) ∧ w'.cell? ⟨w.heap.size, 1, none⟩ = some (.slice x.A x.n x.c)) (w'.alloc o) := fun w' o h => hS _ (bel h.1 ((Below.refl _ _).alloc (Nat.le_refl _) _))
  go_region_held3 (fun w' : World => Below w1.heap.size w1 w' ∧ w'.cell? ⟨w.heap.size, 0, none⟩ = some (.int .i64 x.nd) ∧ w'.cell? ⟨w.heap.size, 1, none⟩ = some (.slice x.A x.n x.c))
    (first | assumption | exact S0 | exact hSd _ S0 | exact hSd _ (by assumption) | exact hSa _ _ (by assumption) | exact hSa _ _ (hSa _ _ (by assumption)) | exact hSa _ _ (hSd _ S0))
    (fail)
  · go_wp2_with fail
    go_ret
    have za := World.size_alloc w1 (.cells (Array.replicate x.sn (Value.slice none 0 0)) 48)
    have zb := World.size_alloc (w1.alloc (.cells (Array.replicate x.sn (Value.slice none 0 0)) 48)) (.map #[] 0)
    refine retPlX_mk (mb := w.heap.size + 1 + 1) (gb := w.heap.size + 1) hx hok (bel b1 (bel (bel ((Below.refl _ _).alloc (Nat.le_refl _) _) ((Below.refl _ _).alloc (Nat.le_refl _) _)) (((Below.refl _ _).alloc (Nat.le_refl _) _).drew))) (by omega) (by omega) (by omega) ?_ ?_ ?_
    · exact heap_alloc_at _ _ _ (by rw [zb, za, z1])
    · exact blk_alloc (blk_alloc (heap_alloc_at _ _ _ z1.symm) _) _ |>.trans (by simp)
    · exact blk_alloc (heap_alloc_at _ _ _ (by rw [za, z1])) _
  · go_wp2_with fail
    go_ret
    have za := World.size_alloc w1 (.map #[] 0)
    have zb := World.size_alloc (w1.alloc (.map #[] 0)) (.cells (Array.replicate x.sn (Value.slice none 0 0)) 48)
    refine retPlX_mk (mb := w.heap.size + 1) (gb := w.heap.size + 1 + 1) hx hok (bel b1 (bel (bel ((Below.refl _ _).alloc (Nat.le_refl _) _) ((Below.refl _ _).alloc (Nat.le_refl _) _)) (((Below.refl _ _).alloc (Nat.le_refl _) _).drew))) (by omega) (by omega) (by omega) ?_ ?_ ?_
    · exact heap_alloc_at _ _ _ (by rw [zb, za, z1])
    · exact blk_alloc (heap_alloc_at _ _ _ (by rw [za, z1])) _ |>.trans (by simp)
    · exact blk_alloc (blk_alloc (heap_alloc_at _ _ _ z1.symm) _) _
def RetTBz (w0 w w' : World) (b mb gb : Nat) (x : Cs) (X : Nat → Prop) (shs : List Sh) (k : Nat) (t : Option K.Tr) (e : Ending) : Prop :=
  (∃ u, e = .returned u ∧ TourAt w' X k t u) ∧ w.grownBy w' (some mb) ∧ PlAz w0 w' b mb gb x X shs
set_option maxRecDepth 100000 in
set_option maxHeartbeats 16000000 in
theorem best32z (w0 : World) (b mb gb : Nat) (x : Cs) {X : Nat → Prop} (shs : List Sh) (k : Nat) (s : S) (V : Option Addr) (vn vc : Nat) (v : List Int) (w : World) (hp : PlAz w0 w b mb gb x X shs) (hX : ∀ g, X g → g < w.heap.size) (hs : x.ss[k]? = some s) (hV : Ints w V vn v) (hvc : vn ≤ vc) (hvs : v.Pairwise (· < ·)) (hvb : ∀ i ∈ v, 0 ≤ i ∧ i < (x.r.length : Int)) :
    Calls Tryz.prog 68 #[.pointer (some ⟨b, 0, none⟩), .int .i64 k, .slice V vn vc] w fun e w' => RetTBz w0 w w' b mb gb x X shs k (K.best x.nd x.l s x.r v) e := by
  obtain ⟨h1, h2, h3, h4, h5⟩ := K.pcheck_ok hp.ok
  obtain ⟨m, h6⟩ := K.set6 hvs fun i hi => by have := hvb i hi; omega
  have hm := h6.lt
  have hsm := List.mem_of_getElem? hs
  have HOK := Lib.hid (K.ok31_of hp.ok hsm hvs hvb)
  have hlt : k < x.ss.length := (List.getElem?_eq_some_iff.1 hs).1
  have hsn := hp.case.shifts.1.1
  have hksn : k < x.sn := by rw [hsn]; exact hlt
  have hk4 : k ≤ 4 := by omega
  have hk6 : k ≤ 1000000 := by omega
  have hv6 : vn ≤ 6 := by rw [hV.1]; exact h6.len
  have HL := Lib.hid hV.1
  have HS := Lib.hid hs
  have H6 := Lib.hid h6
  obtain ⟨ad, -, hA, -⟩ := hp.cs.shifts.at_ hksn
  have HA := Lib.hid hA
  have hw0H : w0.heap.size ≤ w.heap.size := hp.bw.size
  clear h1 h2 h3 h4 h5 hvs hvb hsm hlt hsn hs h6 hA
  obtain ⟨w1, hw1⟩ : ∃ w1 : World, w1 = w.alloc (.cells #[.int .i64 k, .int .i64 0] 159) := ⟨_, rfl⟩
  obtain ⟨H, hH⟩ : ∃ H, H = w.heap.size := ⟨_, rfl⟩
  have b1 : Below w.heap.size w w1 := by rw [hw1]; exact (Below.refl _ _).alloc (Nat.le_refl _) _
  have hK1 : KBlk w1 H k 0 := by rw [hw1, hH]; exact heap_alloc_new _ _
  have HH := Lib.hid hH
  go_enter Tryz.func68, Tryz.ntmps68
  go_upto_region 3 with fail
  rw [← hw1, ← hH]
  clear hw1 hH
  go_loopw [18] (fun v18 wr => ∃ j : Nat, v18 = .int .i64 j ∧ j ≤ vn ∧ KBlk wr H k (K.num (v.take j)) ∧ Below w.heap.size w wr) (fun v18 _ => vn - (intOf v18).toNat)
  case atStart => exact ⟨0, rfl, Nat.zero_le _, hK1, b1⟩
  case round =>
    clear hK1 b1
    obtain ⟨j, rfl, hj, hK, hbr⟩ := hrel
    by_cases hlt : j < vn
    · obtain ⟨adv, i, hVA, hi, ci⟩ := (hV.below hbr).at_ hlt
      obtain ⟨g1, g2, g3, g4⟩ := H6.out.at_ hi
      have HN := Lib.hid (H6.out.next hi)
      obtain ⟨i, rfl⟩ : ∃ n : Nat, i = (n : Int) := ⟨i.toNat, by omega⟩
      rw [Int.toNat_natCast] at g2 HN
      obtain ⟨nm, hnm⟩ : ∃ nm, nm = K.num (v.take j) := ⟨_, rfl⟩
      rw [← hnm] at g1 g2 hK HN
      obtain ⟨mm, hmm⟩ : ∃ mm, mm = nm + 2 ^ i := ⟨_, rfl⟩
      have hor : bits BinOp.or IntKind.i64 (nm : Int) (IntKind.i64.wrap (2 ^ i)) = (mm : Int) := by rw [wrap_pow (by omega), bit_or g1 (by omega) g2, hmm]
      have hor' : bits BinOp.or IntKind.i64 (nm : Int) (wrap64 (2 ^ i)) = (mm : Int) := by rw [← IntWalk.i64_left]; exact hor
      have HM := Lib.hid (show K.num (v.take (j + 1)) = mm by rw [HN.out, hmm])
      have c0 := blk_cell hK 0 _ rfl
      have c1 := blk_cell hK 1 _ rfl
      have f1 := blk_free hK
      have k0 : (0 : Int) ≤ (j : Int) := by omega
      have k1 : (j : Int) < (vn : Int) := by omega
      have k2 : (0 : Int) ≤ (i : Int) := by omega
      have k3 : (i : Int) < 64 := by omega
      have HI6 := Lib.hid (show i < 6 by omega)
      clear hi hmm hnm HN g1 g2 g3 g4
      rw [hVA]
      go_wp2_with fail
      go_region
      go_wp2_with fail
      go_roundw
      case rel => exact ⟨j + 1, by go_num, hlt, by rw [HM.out]; exact blk_set hK 1 _, (hbr.setCell (by rw [HH.out]; exact Nat.le_refl _) _).drew⟩
      case measure => simp [intOf]; omega
    · have hK : KBlk wr H k m := by
        have h9 := hK
        rw [List.take_of_length_le (by rw [← HL.out]; omega), H6.out.num] at h9
        exact h9
      have hp1 := hp.below hbr
      have HP := Lib.hid hp1
      have HK := Lib.hid hK
      have HB := Lib.hid hbr
      have hmk : ∀ w', Below wr.heap.size wr w' → BCells b mb gb H k m x s ad w' := fun w' h => BCells.mk' HK.out HP.out.blk HA.out HS.out HP.out.cs (Ext.below h)
      have hbd : Below wr.heap.size wr wr.drew := (Below.refl _ _).drew
      have S0 : (fun w' : World => w'.cell? ⟨H, 0, none⟩ = some (.int .i64 (k : Int)) ∧ w'.cell? ⟨H, 1, none⟩ = some (.int .i64 (m : Int)) ∧ w'.cell? ⟨b, 0, none⟩ = some (.int .i64 x.nd) ∧ w'.cell? ⟨b, 1, none⟩ = some (.slice x.A x.n x.c) ∧ w'.cell? ⟨b, 2, none⟩ = some (.slice (some ad) x.sn x.sc) ∧ w'.cell? ⟨b, 3, none⟩ = some (.slice x.B x.m x.d) ∧ w'.cell? ⟨b, 4, none⟩ = some (.slice (some ⟨gb, 0, none⟩) x.sn x.sn) ∧ w'.cell? ⟨b, 5, none⟩ = some (.map (some mb)) ∧ w'.cell? (ad.add (k * 6)) = some (.int .i64 s.day) ∧ w'.cell? ⟨(ad.add (k * 6)).block, (ad.add (k * 6)).off + 1, none⟩ = some (.int .i64 s.depot) ∧ w'.cell? ⟨(ad.add (k * 6)).block, (ad.add (k * 6)).off + 2, none⟩ = some (.int .i64 s.start) ∧ w'.cell? ⟨(ad.add (k * 6)).block, (ad.add (k * 6)).off + 3, none⟩ = some (.int .i64 s.end_) ∧ w'.cell? ⟨(ad.add (k * 6)).block, (ad.add (k * 6)).off + 4, none⟩ = some (.int .i64 s.tare) ∧ w'.cell? ⟨(ad.add (k * 6)).block, (ad.add (k * 6)).off + 5, none⟩ = some (.slice s.A s.n s.c)) wr := hmk _ (Below.refl _ _)
      have S0d : (fun w' : World => w'.cell? ⟨H, 0, none⟩ = some (.int .i64 (k : Int)) ∧ w'.cell? ⟨H, 1, none⟩ = some (.int .i64 (m : Int)) ∧ w'.cell? ⟨b, 0, none⟩ = some (.int .i64 x.nd) ∧ w'.cell? ⟨b, 1, none⟩ = some (.slice x.A x.n x.c) ∧ w'.cell? ⟨b, 2, none⟩ = some (.slice (some ad) x.sn x.sc) ∧ w'.cell? ⟨b, 3, none⟩ = some (.slice x.B x.m x.d) ∧ w'.cell? ⟨b, 4, none⟩ = some (.slice (some ⟨gb, 0, none⟩) x.sn x.sn) ∧ w'.cell? ⟨b, 5, none⟩ = some (.map (some mb)) ∧ w'.cell? (ad.add (k * 6)) = some (.int .i64 s.day) ∧ w'.cell? ⟨(ad.add (k * 6)).block, (ad.add (k * 6)).off + 1, none⟩ = some (.int .i64 s.depot) ∧ w'.cell? ⟨(ad.add (k * 6)).block, (ad.add (k * 6)).off + 2, none⟩ = some (.int .i64 s.start) ∧ w'.cell? ⟨(ad.add (k * 6)).block, (ad.add (k * 6)).off + 3, none⟩ = some (.int .i64 s.end_) ∧ w'.cell? ⟨(ad.add (k * 6)).block, (ad.add (k * 6)).off + 4, none⟩ = some (.int .i64 s.tare) ∧ w'.cell? ⟨(ad.add (k * 6)).block, (ad.add (k * 6)).off + 5, none⟩ = some (.slice s.A s.n s.c)) wr.drew := hmk _ hbd
      obtain ⟨val, ok, hlook, hy, hn⟩ := (hp1.memo.below hbd).look HS.out hk6 hm
      rw [← H6.out.eq] at hy
      clear hp1 hK hbr hmk
      go_wp2_with fail
      go_region_held3 (fun w' : World => w'.cell? ⟨H, 0, none⟩ = some (.int .i64 (k : Int)) ∧ w'.cell? ⟨H, 1, none⟩ = some (.int .i64 (m : Int)) ∧ w'.cell? ⟨b, 0, none⟩ = some (.int .i64 x.nd) ∧ w'.cell? ⟨b, 1, none⟩ = some (.slice x.A x.n x.c) ∧ w'.cell? ⟨b, 2, none⟩ = some (.slice (some ad) x.sn x.sc) ∧ w'.cell? ⟨b, 3, none⟩ = some (.slice x.B x.m x.d) ∧ w'.cell? ⟨b, 4, none⟩ = some (.slice (some ⟨gb, 0, none⟩) x.sn x.sn) ∧ w'.cell? ⟨b, 5, none⟩ = some (.map (some mb)) ∧ w'.cell? (ad.add (k * 6)) = some (.int .i64 s.day) ∧ w'.cell? ⟨(ad.add (k * 6)).block, (ad.add (k * 6)).off + 1, none⟩ = some (.int .i64 s.depot) ∧ w'.cell? ⟨(ad.add (k * 6)).block, (ad.add (k * 6)).off + 2, none⟩ = some (.int .i64 s.start) ∧ w'.cell? ⟨(ad.add (k * 6)).block, (ad.add (k * 6)).off + 3, none⟩ = some (.int .i64 s.end_) ∧ w'.cell? ⟨(ad.add (k * 6)).block, (ad.add (k * 6)).off + 4, none⟩ = some (.int .i64 s.tare) ∧ w'.cell? ⟨(ad.add (k * 6)).block, (ad.add (k * 6)).off + 5, none⟩ = some (.slice s.A s.n s.c))
        (first | with_reducible exact S0d | with_reducible exact S0 | fail)
        (fail)
      obtain ⟨wd, hwd⟩ : ∃ wd, wd = wr.drew := ⟨_, rfl⟩
      rw [← hwd] at hy hbd ⊢
      have hp2 := HP.out.below hbd
      have hg2 : w.grownBy wd (some mb) := grow_below (grow_below (grow_refl w _) HB.out) hbd
      clear hlook S0 S0d hwd
      cases ok
      · obtain rfl := hn rfl
        clear hy hn
        have hK2 : KBlk wd H k m := blk_below hbd HK.out
        have HP2 := Lib.hid hp2
        have HK2 := Lib.hid hK2
        have HG2 := Lib.hid hg2
        have hVd := hV.below (bel HB.out hbd)
        have hmk : ∀ w', Below wd.heap.size wd w' → (fun w' : World => w'.cell? ⟨H, 0, none⟩ = some (.int .i64 (k : Int)) ∧ w'.cell? ⟨H, 1, none⟩ = some (.int .i64 (m : Int)) ∧ w'.cell? ⟨b, 0, none⟩ = some (.int .i64 x.nd) ∧ w'.cell? ⟨b, 1, none⟩ = some (.slice x.A x.n x.c) ∧ w'.cell? ⟨b, 2, none⟩ = some (.slice (some ad) x.sn x.sc) ∧ w'.cell? ⟨b, 3, none⟩ = some (.slice x.B x.m x.d) ∧ w'.cell? ⟨b, 4, none⟩ = some (.slice (some ⟨gb, 0, none⟩) x.sn x.sn) ∧ w'.cell? ⟨b, 5, none⟩ = some (.map (some mb)) ∧ w'.cell? (ad.add (k * 6)) = some (.int .i64 s.day) ∧ w'.cell? ⟨(ad.add (k * 6)).block, (ad.add (k * 6)).off + 1, none⟩ = some (.int .i64 s.depot) ∧ w'.cell? ⟨(ad.add (k * 6)).block, (ad.add (k * 6)).off + 2, none⟩ = some (.int .i64 s.start) ∧ w'.cell? ⟨(ad.add (k * 6)).block, (ad.add (k * 6)).off + 3, none⟩ = some (.int .i64 s.end_) ∧ w'.cell? ⟨(ad.add (k * 6)).block, (ad.add (k * 6)).off + 4, none⟩ = some (.int .i64 s.tare) ∧ w'.cell? ⟨(ad.add (k * 6)).block, (ad.add (k * 6)).off + 5, none⟩ = some (.slice s.A s.n s.c)) w' := fun w' h => BCells.mk' HK2.out HP2.out.blk HA.out HS.out HP2.out.cs (Ext.below h)
        have hbd0 : Below wd.heap.size wd wd := Below.refl _ _
        have S0 := hmk _ hbd0
        obtain ⟨Y, hY⟩ : ∃ Y, Y = K.bestOut x.nd x.l s x.r v := ⟨_, rfl⟩
        have HY := Lib.hid hY
        have ba : Below wd.heap.size wd (wd.alloc (.cells #[.int .i64 0, .slice none 0 0, .slice none 0 0, .int .i64 0] 80)) := (Below.refl _ _).alloc (Nat.le_refl _) _
        have S0a := hmk _ ba
        have S0d := hmk _ hbd0.drew
        have S0ad := hmk _ ba.drew
        have hAt := fun w' (h : Below wd.heap.size wd w') => (HP2.out.below h).one (List.mem_of_getElem? HS.out)
        have hvn9 : vn ≤ 1000000000 := by omega
        have HX9 := Lib.hid (show ∀ g, wd.heap.size ≤ g → X g → False from fun g h1 h2 => by have := hX g h2; have := HB.out.size; have := hbd.size; omega)
        clear hY hp2 hK2 hg2
        go_wp2_with fail
        go_cut [12, 13] from 40 to 59 (fun v12 v13 wc => ∃ g A n c A' n' c', v12 = .pointer (some ⟨g, 0, none⟩) ∧ v13 = .int .i64 Y.2 ∧ TBlk wc g 0 (.slice A n c) (.slice A' n' c') Y.1.end_ ∧ Ints wc A n Y.1.stops ∧ Ints wc A' n' Y.1.times ∧ Below wd.heap.size wd wc ∧ wd.heap.size ≤ g ∧ (0 < n → ∀ ad, A = some ad → ad.block ≠ g) ∧ (0 < n' → ∀ ad, A' = some ad → ad.block ≠ g) ∧ (∀ ad, A = some ad → wd.heap.size ≤ ad.block) ∧ ∀ ad, A' = some ad → wd.heap.size ≤ ad.block)
        case first =>
          go_region_held3 (fun w' : World => w'.cell? ⟨H, 0, none⟩ = some (.int .i64 (k : Int)) ∧ w'.cell? ⟨H, 1, none⟩ = some (.int .i64 (m : Int)) ∧ w'.cell? ⟨b, 0, none⟩ = some (.int .i64 x.nd) ∧ w'.cell? ⟨b, 1, none⟩ = some (.slice x.A x.n x.c) ∧ w'.cell? ⟨b, 2, none⟩ = some (.slice (some ad) x.sn x.sc) ∧ w'.cell? ⟨b, 3, none⟩ = some (.slice x.B x.m x.d) ∧ w'.cell? ⟨b, 4, none⟩ = some (.slice (some ⟨gb, 0, none⟩) x.sn x.sn) ∧ w'.cell? ⟨b, 5, none⟩ = some (.map (some mb)) ∧ w'.cell? (ad.add (k * 6)) = some (.int .i64 s.day) ∧ w'.cell? ⟨(ad.add (k * 6)).block, (ad.add (k * 6)).off + 1, none⟩ = some (.int .i64 s.depot) ∧ w'.cell? ⟨(ad.add (k * 6)).block, (ad.add (k * 6)).off + 2, none⟩ = some (.int .i64 s.start) ∧ w'.cell? ⟨(ad.add (k * 6)).block, (ad.add (k * 6)).off + 3, none⟩ = some (.int .i64 s.end_) ∧ w'.cell? ⟨(ad.add (k * 6)).block, (ad.add (k * 6)).off + 4, none⟩ = some (.int .i64 s.tare) ∧ w'.cell? ⟨(ad.add (k * 6)).block, (ad.add (k * 6)).off + 5, none⟩ = some (.slice s.A s.n s.c))
            (first | with_reducible exact S1s | with_reducible exact S1b | with_reducible exact S1a | with_reducible exact S1 | with_reducible exact S0ad | with_reducible exact S0a | with_reducible exact S0d | with_reducible exact S0 | fail)
            (first
              | (go_at_call 125; refine (best_any (x.one s) V vn vc v _ (hAt _ ?_) (hVd.below ?_) hvc hvn9).mono ?_; (first | with_reducible exact hbd0 | with_reducible exact ba | with_reducible exact hbd0.drew | with_reducible exact ba.drew); (first | with_reducible exact hbd0 | with_reducible exact ba | with_reducible exact hbd0.drew | with_reducible exact ba.drew); rw [show K.bestOut (x.one s).nd (x.one s).l (x.one s).s (x.one s).r v = Y from HY.out.symm]; rintro e w5 ⟨⟨A0, n0, c0, A1, n1, c1, rfl, hI0, hI1, hf0, hf1⟩, hbn⟩; (first | (have b5 := bel hbd0.drew hbn; have b5b := bel b5 ((Below.refl _ _).alloc (Nat.le_refl _) (.cells #[.int .i64 0, .slice A0 n0 c0, .slice A1 n1 c1, .int .i64 Y.1.end_] 80)); have S1b := hmk _ b5b; have S1a := hmk _ (bel b5 ((Below.refl _ _).alloc (Nat.le_refl _) (.cells #[.int .i64 0, .slice none 0 0, .slice none 0 0, .int .i64 0] 80)))) | (have b5 := bel ba.drew hbn; have hT5 := blk_below hbn (heap_alloc_new wd (.cells #[.int .i64 0, .slice none 0 0, .slice none 0 0, .int .i64 0] 80)); have S1s := hmk _ (below_set4 b5 (Nat.le_refl _) (.int .i64 0) (.slice A0 n0 c0) (.slice A1 n1 c1) (.int .i64 Y.1.end_)); obtain ⟨t0, t1, t2, t3⟩ := TBlk.cells (h := 0) hT5; have tf := blk_free hT5)); have S1 := hmk _ b5)
              | fail)
          · go_wp2_with fail
            go_meet
            case rel => (go_light; exact ⟨w5.heap.size, A0, n0, c0, A1, n1, c1, rfl, rfl, heap_alloc_new _ _, hI0.below ((Below.refl _ _).alloc (Nat.le_refl _) _), hI1.below ((Below.refl _ _).alloc (Nat.le_refl _) _), b5b, b5.size, fun h0 ad' e h9 => Nat.lt_irrefl _ (h9 ▸ hI0.lt_of h0 e), fun h0 ad' e h9 => Nat.lt_irrefl _ (h9 ▸ hI1.lt_of h0 e), hf0, hf1⟩)
          · have hz9 := World.size_alloc wd (.cells #[.int .i64 0, .slice none 0 0, .slice none 0 0, .int .i64 0] 80)
            have hne0 : ∀ ad' : Addr, A0 = some ad' → ad'.block ≠ wd.heap.size := fun ad' e h9 => by
              have h8 := hf0 ad' e
              rw [h9] at h8
              have h8 : (wd.alloc (.cells #[.int .i64 0, .slice none 0 0, .slice none 0 0, .int .i64 0] 80)).heap.size ≤ wd.heap.size := h8
              omega
            have hne1 : ∀ ad' : Addr, A1 = some ad' → ad'.block ≠ wd.heap.size := fun ad' e h9 => by
              have h8 := hf1 ad' e
              rw [h9] at h8
              have h8 : (wd.alloc (.cells #[.int .i64 0, .slice none 0 0, .slice none 0 0, .int .i64 0] 80)).heap.size ≤ wd.heap.size := h8
              omega
            have hT9 : TBlk ((((w5.setCell ⟨wd.heap.size, 0, none⟩ (.int .i64 0)).setCell ⟨wd.heap.size, 1, none⟩ (.slice A0 n0 c0)).setCell ⟨wd.heap.size, 2, none⟩ (.slice A1 n1 c1)).setCell ⟨wd.heap.size, 3, none⟩ (.int .i64 Y.1.end_)) wd.heap.size 0 (.slice A0 n0 c0) (.slice A1 n1 c1) Y.1.end_ := blk_set (blk_set (blk_set (blk_set hT5 0 _) 1 _) 2 _) 3 _
            have b9 := below_set4 b5 (Nat.le_refl _) (.int .i64 0) (.slice A0 n0 c0) (.slice A1 n1 c1) (.int .i64 Y.1.end_)
            go_wp2_with fail
            go_meet
            case rel => (go_light; exact ⟨wd.heap.size, A0, n0, c0, A1, n1, c1, rfl, rfl, hT9, (((hI0.set _ hne0).set _ hne0).set _ hne0).set _ hne0, (((hI1.set _ hne1).set _ hne1).set _ hne1).set _ hne1, b9, Nat.le_refl _, fun _ => hne0, fun _ => hne1, fun ad' e => Nat.le_trans ba.size (hf0 ad' e), fun ad' e => Nat.le_trans ba.size (hf1 ad' e)⟩)
        case rest =>
          obtain ⟨g, A0, n0, c0, A1, n1, c1, rfl, rfl, hT, hI0, hI1, hbc, hgd, hn0, hn1, hu0, hu1⟩ := hcut
          clear S0 S0a S0d S0ad hmk hAt hVd ba hbd0
          cases hb : K.best x.nd x.l s x.r v with
          | none =>
            have he : Y.2 = 4 := by rw [HY.out, K.bestOut_none HOK.out hb]
            have hd : (Y.2 == 0) = false := by rw [he]; rfl
            have hd2 : decide (Y.2 = 0) = false := by rw [he]; rfl
            clear he hT hI0 hI1 hn0 hn1 hu0 hu1
            have hv0 : TourAt wc X k (none : Option K.Tr) (.pointer none) := rfl
            rw [← hb] at hv0
            have HV0 := Lib.hid hv0
            clear hv0 hb
            go_wp2_with fail
            clear hd hd2
            obtain ⟨wx, hwx⟩ : ∃ wx, wx = wc := ⟨_, rfl⟩
            rw [← hwx] at HV0 hbc ⊢
            have hbx := hbc
            clear hwx hbc
            have hpx := HP2.out.below hbx
            have hKx : KBlk wx H k m := blk_below hbx HK2.out
            have hgx := grow_below HG2.out hbx
            have hxd : Below wx.heap.size wx wx.drew := (Below.refl _ _).drew
            obtain ⟨w6, hupd, hM6, hg6⟩ := (hpx.memo.below hxd).store HS.out hk6 hm (v := .pointer none) (by rw [← H6.out.eq]; exact HV0.out.ext (Ext.below hxd))
            have hx6 := (Ext.below hxd).trans ((hpx.memo.below hxd).ext hg6)
            have S7 : (fun w' : World => w'.cell? ⟨H, 0, none⟩ = some (.int .i64 (k : Int)) ∧ w'.cell? ⟨H, 1, none⟩ = some (.int .i64 (m : Int)) ∧ w'.cell? ⟨b, 0, none⟩ = some (.int .i64 x.nd) ∧ w'.cell? ⟨b, 1, none⟩ = some (.slice x.A x.n x.c) ∧ w'.cell? ⟨b, 2, none⟩ = some (.slice (some ad) x.sn x.sc) ∧ w'.cell? ⟨b, 3, none⟩ = some (.slice x.B x.m x.d) ∧ w'.cell? ⟨b, 4, none⟩ = some (.slice (some ⟨gb, 0, none⟩) x.sn x.sn) ∧ w'.cell? ⟨b, 5, none⟩ = some (.map (some mb)) ∧ w'.cell? (ad.add (k * 6)) = some (.int .i64 s.day) ∧ w'.cell? ⟨(ad.add (k * 6)).block, (ad.add (k * 6)).off + 1, none⟩ = some (.int .i64 s.depot) ∧ w'.cell? ⟨(ad.add (k * 6)).block, (ad.add (k * 6)).off + 2, none⟩ = some (.int .i64 s.start) ∧ w'.cell? ⟨(ad.add (k * 6)).block, (ad.add (k * 6)).off + 3, none⟩ = some (.int .i64 s.end_) ∧ w'.cell? ⟨(ad.add (k * 6)).block, (ad.add (k * 6)).off + 4, none⟩ = some (.int .i64 s.tare) ∧ w'.cell? ⟨(ad.add (k * 6)).block, (ad.add (k * 6)).off + 5, none⟩ = some (.slice s.A s.n s.c)) wx := BCells.mk' hKx hpx.blk HA.out HS.out hpx.cs (Ext.refl _)
            have S7d : (fun w' : World => w'.cell? ⟨H, 0, none⟩ = some (.int .i64 (k : Int)) ∧ w'.cell? ⟨H, 1, none⟩ = some (.int .i64 (m : Int)) ∧ w'.cell? ⟨b, 0, none⟩ = some (.int .i64 x.nd) ∧ w'.cell? ⟨b, 1, none⟩ = some (.slice x.A x.n x.c) ∧ w'.cell? ⟨b, 2, none⟩ = some (.slice (some ad) x.sn x.sc) ∧ w'.cell? ⟨b, 3, none⟩ = some (.slice x.B x.m x.d) ∧ w'.cell? ⟨b, 4, none⟩ = some (.slice (some ⟨gb, 0, none⟩) x.sn x.sn) ∧ w'.cell? ⟨b, 5, none⟩ = some (.map (some mb)) ∧ w'.cell? (ad.add (k * 6)) = some (.int .i64 s.day) ∧ w'.cell? ⟨(ad.add (k * 6)).block, (ad.add (k * 6)).off + 1, none⟩ = some (.int .i64 s.depot) ∧ w'.cell? ⟨(ad.add (k * 6)).block, (ad.add (k * 6)).off + 2, none⟩ = some (.int .i64 s.start) ∧ w'.cell? ⟨(ad.add (k * 6)).block, (ad.add (k * 6)).off + 3, none⟩ = some (.int .i64 s.end_) ∧ w'.cell? ⟨(ad.add (k * 6)).block, (ad.add (k * 6)).off + 4, none⟩ = some (.int .i64 s.tare) ∧ w'.cell? ⟨(ad.add (k * 6)).block, (ad.add (k * 6)).off + 5, none⟩ = some (.slice s.A s.n s.c)) wx.drew := BCells.mk' hKx hpx.blk HA.out HS.out hpx.cs (Ext.below hxd)
            have S7u : (fun w' : World => w'.cell? ⟨H, 0, none⟩ = some (.int .i64 (k : Int)) ∧ w'.cell? ⟨H, 1, none⟩ = some (.int .i64 (m : Int)) ∧ w'.cell? ⟨b, 0, none⟩ = some (.int .i64 x.nd) ∧ w'.cell? ⟨b, 1, none⟩ = some (.slice x.A x.n x.c) ∧ w'.cell? ⟨b, 2, none⟩ = some (.slice (some ad) x.sn x.sc) ∧ w'.cell? ⟨b, 3, none⟩ = some (.slice x.B x.m x.d) ∧ w'.cell? ⟨b, 4, none⟩ = some (.slice (some ⟨gb, 0, none⟩) x.sn x.sn) ∧ w'.cell? ⟨b, 5, none⟩ = some (.map (some mb)) ∧ w'.cell? (ad.add (k * 6)) = some (.int .i64 s.day) ∧ w'.cell? ⟨(ad.add (k * 6)).block, (ad.add (k * 6)).off + 1, none⟩ = some (.int .i64 s.depot) ∧ w'.cell? ⟨(ad.add (k * 6)).block, (ad.add (k * 6)).off + 2, none⟩ = some (.int .i64 s.start) ∧ w'.cell? ⟨(ad.add (k * 6)).block, (ad.add (k * 6)).off + 3, none⟩ = some (.int .i64 s.end_) ∧ w'.cell? ⟨(ad.add (k * 6)).block, (ad.add (k * 6)).off + 4, none⟩ = some (.int .i64 s.tare) ∧ w'.cell? ⟨(ad.add (k * 6)).block, (ad.add (k * 6)).off + 5, none⟩ = some (.slice s.A s.n s.c)) w6 := BCells.mk' hKx hpx.blk HA.out HS.out hpx.cs hx6
            have HPX := Lib.hid hpx
            have HGX := Lib.hid hgx
            clear hKx hpx hgx
            go_wp2_with fail
            go_region_held3 (fun w' : World => w'.cell? ⟨H, 0, none⟩ = some (.int .i64 (k : Int)) ∧ w'.cell? ⟨H, 1, none⟩ = some (.int .i64 (m : Int)) ∧ w'.cell? ⟨b, 0, none⟩ = some (.int .i64 x.nd) ∧ w'.cell? ⟨b, 1, none⟩ = some (.slice x.A x.n x.c) ∧ w'.cell? ⟨b, 2, none⟩ = some (.slice (some ad) x.sn x.sc) ∧ w'.cell? ⟨b, 3, none⟩ = some (.slice x.B x.m x.d) ∧ w'.cell? ⟨b, 4, none⟩ = some (.slice (some ⟨gb, 0, none⟩) x.sn x.sn) ∧ w'.cell? ⟨b, 5, none⟩ = some (.map (some mb)) ∧ w'.cell? (ad.add (k * 6)) = some (.int .i64 s.day) ∧ w'.cell? ⟨(ad.add (k * 6)).block, (ad.add (k * 6)).off + 1, none⟩ = some (.int .i64 s.depot) ∧ w'.cell? ⟨(ad.add (k * 6)).block, (ad.add (k * 6)).off + 2, none⟩ = some (.int .i64 s.start) ∧ w'.cell? ⟨(ad.add (k * 6)).block, (ad.add (k * 6)).off + 3, none⟩ = some (.int .i64 s.end_) ∧ w'.cell? ⟨(ad.add (k * 6)).block, (ad.add (k * 6)).off + 4, none⟩ = some (.int .i64 s.tare) ∧ w'.cell? ⟨(ad.add (k * 6)).block, (ad.add (k * 6)).off + 5, none⟩ = some (.slice s.A s.n s.c))
              (first | with_reducible exact S7u | with_reducible exact S7d | with_reducible exact S7 | fail)
              (fail)
            clear S7 S7d S7u hupd
            go_wp2_with fail
            go_ret
            exact ⟨⟨_, rfl, HV0.out.ext hx6⟩, grow_step (grow_below HGX.out hxd) hg6 (.inl rfl), (HPX.out.below hxd).grown hg6 hM6⟩
          | some bt =>
            have he : Y = (bt, 0) := by rw [HY.out, K.bestOut_some HOK.out hb]
            clear HY
            subst he
            obtain ⟨wx, hwx⟩ : ∃ wx : World, wx = wc.setCell ⟨g, 0, none⟩ (.int .i64 k) := ⟨_, rfl⟩
            have hbx : Below wd.heap.size wd wx := by rw [hwx]; exact hbc.setCell hgd _
            have hv0 : TourAt wx X k (some bt) (.pointer (some ⟨g, 0, none⟩)) := by
              rw [hwx]
              exact ⟨g, A0, n0, c0, A1, n1, c1, rfl, blk_set hT 0 _, hI0.set1 _ hn0, hI1.set1 _ hn1, fun hg => HX9.out g hgd hg, fun _ ad e hg => HX9.out _ (hu0 ad e) hg, fun _ ad e hg => HX9.out _ (hu1 ad e) hg⟩
            have t0 := blk_cell hT 0 _ rfl
            have tf := blk_free hT
            rw [← hb] at hv0
            have HV0 := Lib.hid hv0
            clear hv0 hb hT hI0 hI1 hn0 hn1 hu0 hu1
            go_upto_region 12 with fail
            rw [← hwx]
            clear hwx t0 tf hbc
            have hpx := HP2.out.below hbx
            have hKx : KBlk wx H k m := blk_below hbx HK2.out
            have hgx := grow_below HG2.out hbx
            have hxd : Below wx.heap.size wx wx.drew := (Below.refl _ _).drew
            obtain ⟨w6, hupd, hM6, hg6⟩ := (hpx.memo.below hxd).store HS.out hk6 hm (v := .pointer (some ⟨g, 0, none⟩)) (by rw [← H6.out.eq]; exact HV0.out.ext (Ext.below hxd))
            have hx6 := (Ext.below hxd).trans ((hpx.memo.below hxd).ext hg6)
            have S7 : (fun w' : World => w'.cell? ⟨H, 0, none⟩ = some (.int .i64 (k : Int)) ∧ w'.cell? ⟨H, 1, none⟩ = some (.int .i64 (m : Int)) ∧ w'.cell? ⟨b, 0, none⟩ = some (.int .i64 x.nd) ∧ w'.cell? ⟨b, 1, none⟩ = some (.slice x.A x.n x.c) ∧ w'.cell? ⟨b, 2, none⟩ = some (.slice (some ad) x.sn x.sc) ∧ w'.cell? ⟨b, 3, none⟩ = some (.slice x.B x.m x.d) ∧ w'.cell? ⟨b, 4, none⟩ = some (.slice (some ⟨gb, 0, none⟩) x.sn x.sn) ∧ w'.cell? ⟨b, 5, none⟩ = some (.map (some mb)) ∧ w'.cell? (ad.add (k * 6)) = some (.int .i64 s.day) ∧ w'.cell? ⟨(ad.add (k * 6)).block, (ad.add (k * 6)).off + 1, none⟩ = some (.int .i64 s.depot) ∧ w'.cell? ⟨(ad.add (k * 6)).block, (ad.add (k * 6)).off + 2, none⟩ = some (.int .i64 s.start) ∧ w'.cell? ⟨(ad.add (k * 6)).block, (ad.add (k * 6)).off + 3, none⟩ = some (.int .i64 s.end_) ∧ w'.cell? ⟨(ad.add (k * 6)).block, (ad.add (k * 6)).off + 4, none⟩ = some (.int .i64 s.tare) ∧ w'.cell? ⟨(ad.add (k * 6)).block, (ad.add (k * 6)).off + 5, none⟩ = some (.slice s.A s.n s.c)) wx := BCells.mk' hKx hpx.blk HA.out HS.out hpx.cs (Ext.refl _)
            have S7d : (fun w' : World => w'.cell? ⟨H, 0, none⟩ = some (.int .i64 (k : Int)) ∧ w'.cell? ⟨H, 1, none⟩ = some (.int .i64 (m : Int)) ∧ w'.cell? ⟨b, 0, none⟩ = some (.int .i64 x.nd) ∧ w'.cell? ⟨b, 1, none⟩ = some (.slice x.A x.n x.c) ∧ w'.cell? ⟨b, 2, none⟩ = some (.slice (some ad) x.sn x.sc) ∧ w'.cell? ⟨b, 3, none⟩ = some (.slice x.B x.m x.d) ∧ w'.cell? ⟨b, 4, none⟩ = some (.slice (some ⟨gb, 0, none⟩) x.sn x.sn) ∧ w'.cell? ⟨b, 5, none⟩ = some (.map (some mb)) ∧ w'.cell? (ad.add (k * 6)) = some (.int .i64 s.day) ∧ w'.cell? ⟨(ad.add (k * 6)).block, (ad.add (k * 6)).off + 1, none⟩ = some (.int .i64 s.depot) ∧ w'.cell? ⟨(ad.add (k * 6)).block, (ad.add (k * 6)).off + 2, none⟩ = some (.int .i64 s.start) ∧ w'.cell? ⟨(ad.add (k * 6)).block, (ad.add (k * 6)).off + 3, none⟩ = some (.int .i64 s.end_) ∧ w'.cell? ⟨(ad.add (k * 6)).block, (ad.add (k * 6)).off + 4, none⟩ = some (.int .i64 s.tare) ∧ w'.cell? ⟨(ad.add (k * 6)).block, (ad.add (k * 6)).off + 5, none⟩ = some (.slice s.A s.n s.c)) wx.drew := BCells.mk' hKx hpx.blk HA.out HS.out hpx.cs (Ext.below hxd)
            have S7u : (fun w' : World => w'.cell? ⟨H, 0, none⟩ = some (.int .i64 (k : Int)) ∧ w'.cell? ⟨H, 1, none⟩ = some (.int .i64 (m : Int)) ∧ w'.cell? ⟨b, 0, none⟩ = some (.int .i64 x.nd) ∧ w'.cell? ⟨b, 1, none⟩ = some (.slice x.A x.n x.c) ∧ w'.cell? ⟨b, 2, none⟩ = some (.slice (some ad) x.sn x.sc) ∧ w'.cell? ⟨b, 3, none⟩ = some (.slice x.B x.m x.d) ∧ w'.cell? ⟨b, 4, none⟩ = some (.slice (some ⟨gb, 0, none⟩) x.sn x.sn) ∧ w'.cell? ⟨b, 5, none⟩ = some (.map (some mb)) ∧ w'.cell? (ad.add (k * 6)) = some (.int .i64 s.day) ∧ w'.cell? ⟨(ad.add (k * 6)).block, (ad.add (k * 6)).off + 1, none⟩ = some (.int .i64 s.depot) ∧ w'.cell? ⟨(ad.add (k * 6)).block, (ad.add (k * 6)).off + 2, none⟩ = some (.int .i64 s.start) ∧ w'.cell? ⟨(ad.add (k * 6)).block, (ad.add (k * 6)).off + 3, none⟩ = some (.int .i64 s.end_) ∧ w'.cell? ⟨(ad.add (k * 6)).block, (ad.add (k * 6)).off + 4, none⟩ = some (.int .i64 s.tare) ∧ w'.cell? ⟨(ad.add (k * 6)).block, (ad.add (k * 6)).off + 5, none⟩ = some (.slice s.A s.n s.c)) w6 := BCells.mk' hKx hpx.blk HA.out HS.out hpx.cs hx6
            have HPX := Lib.hid hpx
            have HGX := Lib.hid hgx
            clear hKx hpx hgx
            go_wp2_with fail
            go_region_held3 (fun w' : World => w'.cell? ⟨H, 0, none⟩ = some (.int .i64 (k : Int)) ∧ w'.cell? ⟨H, 1, none⟩ = some (.int .i64 (m : Int)) ∧ w'.cell? ⟨b, 0, none⟩ = some (.int .i64 x.nd) ∧ w'.cell? ⟨b, 1, none⟩ = some (.slice x.A x.n x.c) ∧ w'.cell? ⟨b, 2, none⟩ = some (.slice (some ad) x.sn x.sc) ∧ w'.cell? ⟨b, 3, none⟩ = some (.slice x.B x.m x.d) ∧ w'.cell? ⟨b, 4, none⟩ = some (.slice (some ⟨gb, 0, none⟩) x.sn x.sn) ∧ w'.cell? ⟨b, 5, none⟩ = some (.map (some mb)) ∧ w'.cell? (ad.add (k * 6)) = some (.int .i64 s.day) ∧ w'.cell? ⟨(ad.add (k * 6)).block, (ad.add (k * 6)).off + 1, none⟩ = some (.int .i64 s.depot) ∧ w'.cell? ⟨(ad.add (k * 6)).block, (ad.add (k * 6)).off + 2, none⟩ = some (.int .i64 s.start) ∧ w'.cell? ⟨(ad.add (k * 6)).block, (ad.add (k * 6)).off + 3, none⟩ = some (.int .i64 s.end_) ∧ w'.cell? ⟨(ad.add (k * 6)).block, (ad.add (k * 6)).off + 4, none⟩ = some (.int .i64 s.tare) ∧ w'.cell? ⟨(ad.add (k * 6)).block, (ad.add (k * 6)).off + 5, none⟩ = some (.slice s.A s.n s.c))
              (first | with_reducible exact S7u | with_reducible exact S7d | with_reducible exact S7 | fail)
              (fail)
            clear S7 S7d S7u hupd
            go_wp2_with fail
            go_ret
            exact ⟨⟨_, rfl, HV0.out.ext hx6⟩, grow_step (grow_below HGX.out hxd) hg6 (.inl rfl), (HPX.out.below hxd).grown hg6 hM6⟩
      · have hy2 := hy rfl
        clear hy hn
        go_wp2_with fail
        go_ret
        exact ⟨⟨_, rfl, hy2⟩, hg2, hp2⟩
theorem PlAz.store {w0 w : World} {b mb gb : Nat} {x : Cs} {X : Nat → Prop} {shs : List Sh} (h : PlAz w0 w b mb gb x X shs) (s : Nat) (u : Sh) (hu : Ints w u.A u.n u.l ∧ u.n ≤ u.c) (hu2 : ∀ g, X g → 0 < u.n → ∀ ad, u.A = some ad → ad.block ≠ g) : PlAz w0 (w.setCell ⟨gb, s, none⟩ u.val) b mb gb x X (shs.set s u) := by
  have hbne : b ≠ gb := fun e => by
    have h1 := h.blk
    have h2 := h.sh
    subst e
    unfold PlBlk at h1
    unfold ShBlk at h2
    rw [h1] at h2
    injection h2 with h2
    injection h2 with h3 h4
    cases h4
  obtain ⟨es, clock, hm, hes⟩ := h.memo
  have hmne : mb ≠ gb := fun e => by
    have h2 := h.sh
    subst e
    unfold ShBlk at h2
    rw [hm] at h2
    injection h2 with h2
    cases h2
  refine ⟨h.case, h.bw.setCell h.hg _, h.hb, h.hm, h.hg, (Below.heap_setCell w _ _ b (fun e => hbne e)).trans h.blk, ?_, by rw [List.length_set]; exact h.len, fun t ht => ?_, ⟨es, clock, (Below.heap_setCell w _ _ mb (fun e => hmne e)).trans hm, fun e he => ?_⟩, h.ok, fun g hg => ?_⟩
  · have := blk_set h.sh s u.val
    unfold ShBlk
    rw [this]
    simp [List.map_set]
  · rcases List.mem_or_eq_of_mem_set ht with ht | rfl
    · exact ⟨(h.ints t ht).1.set1 _ (h.sh.ints_ne (h.ints t ht).1), (h.ints t ht).2⟩
    · exact ⟨hu.1.set1 _ (h.sh.ints_ne hu.1), hu.2⟩
  · obtain ⟨k, s', m, g1, g2, g3, g4, g5⟩ := hes e he
    exact ⟨k, s', m, g1, g2, g3, g4, g5.setgb h.sh _ _⟩
  · obtain ⟨a1, a2, a3, a4, a5⟩ := h.away g hg
    refine ⟨a1, a2, a3, a4, fun t ht => ?_⟩
    rcases List.mem_or_eq_of_mem_set ht with ht | rfl
    · exact a5 t ht
    · exact hu2 g hg
def RetAsX (w0 w w' : World) (b mb gb : Nat) (x : Cs) (X : Nat → Prop) (shs : List Sh) (o : Option (List (List Int))) (e : Ending) : Prop :=
  (∃ shs', PlAz w0 w' b mb gb x X shs' ∧ ((o = none ∧ e = .returned (.bool false) ∧ shs' = shs) ∨ ∃ fin, o = some fin ∧ e = .returned (.bool true) ∧ shs'.map Sh.l = fin)) ∧ But2 w w' mb gb
set_option maxRecDepth 100000 in
set_option maxHeartbeats 16000000 in
theorem assign32X (w0 : World) (b mb gb : Nat) (x : Cs) {X : Nat → Prop} (wX : Nat) (hX : ∀ g, X g → g < wX) : ∀ (k i : Nat) (shs : List Sh) (w : World), i + k = x.m → wX ≤ w.heap.size → PlAz w0 w b mb gb x X shs → Grown shs i →
    Calls Tryz.prog 67 #[.pointer (some ⟨b, 0, none⟩), .int .i64 i] w fun e w' => RetAsX w0 w w' b mb gb x X shs (A.assign (K.feas x.nd x.l x.ss x.r) x.sn k i (shs.map Sh.l)) e := by
  intro k
  induction k with
  | zero =>
    intro i shs w hi hwX hp hgr
    have c0 := blk_cell hp.blk 0 _ rfl
    have c2 := blk_cell hp.blk 2 _ rfl
    have c3 := blk_cell hp.blk 3 _ rfl
    have hd : decide ((i : Int) = (x.m : Int)) = true := by simp; omega
    have hd2 : ((i : Int) == (x.m : Int)) = true := by simp; omega
    have hd3 : decide (i = x.m) = true := by simp; omega
    have hd4 : (i == x.m) = true := by simp; omega
    have hdi : i = x.m := by omega
    go_enter Tryz.func67, Tryz.ntmps67
    go_wp2_with fail
    go_ret
    exact ⟨⟨shs, hp, .inr ⟨_, rfl, rfl, rfl⟩⟩, But2.refl _ _ _⟩
  | succ k ih =>
    intro i shs w hi hwX hp hgr
    have HP := Lib.hid hp
    have HGR := Lib.hid hgr
    have c0 := blk_cell hp.blk 0 _ rfl
    have c2 := blk_cell hp.blk 2 _ rfl
    have c3 := blk_cell hp.blk 3 _ rfl
    have hd : decide ((i : Int) = (x.m : Int)) = false := by simp; omega
    have hd2 : ((i : Int) == (x.m : Int)) = false := by simp; omega
    have hd3 : decide (i = x.m) = false := by simp; omega
    have hd4 : (i == x.m) = false := by simp; omega
    obtain ⟨h1, h2, h3, h4, h5⟩ := K.pcheck_ok hp.ok
    have hm6 : x.m ≤ 6 := by rw [hp.case.reqs.1]; exact h5
    have hsn4 : x.sn ≤ 4 := by rw [hp.case.shifts.1.1]; exact h2
    have HSN := Lib.hid hp.case.shifts.1.1
    have HRN := Lib.hid hp.case.reqs.1
    have HLEN := Lib.hid hp.len
    clear h1 h2 h3 h4 h5 hp hgr
    go_enter Tryz.func67, Tryz.ntmps67
    go_wp2_with fail
    clear c0 c2 c3 hd hd2 hd3 hd4
    obtain ⟨o, ho⟩ : ∃ o, o = A.assign (K.feas x.nd x.l x.ss x.r) x.sn (k + 1) i (shs.map Sh.l) := ⟨_, rfl⟩
    have HO := Lib.hid ho
    clear ho
    go_loopw [19] (fun v19 wr => ∃ s : Nat, v19 = .int .i64 s ∧ s ≤ x.sn ∧ PlAz w0 wr b mb gb x X shs ∧ But2 w wr mb gb ∧ Hid (o = A.assign.go (K.feas x.nd x.l x.ss x.r) (A.assign (K.feas x.nd x.l x.ss x.r) x.sn k (i + 1)) i (shs.map Sh.l) ((List.range x.sn).drop s))) (fun v19 _ => x.sn - (intOf v19).toNat)
    case atStart => exact ⟨0, rfl, Nat.zero_le _, HP.out, But2.refl _ _ _, HO.out⟩
    case round =>
      obtain ⟨s, rfl, hs, hpr, hbr, hor⟩ := hrel
      by_cases hlt : s < x.sn
      · obtain ⟨sh, hsh⟩ : ∃ sh, shs[s]? = some sh := ⟨_, List.getElem?_eq_getElem (by rw [HLEN.out]; exact hlt)⟩
        have hget : ((shs.map Sh.l)[s]?).getD [] = sh.l := by rw [List.getElem?_map, hsh]; rfl
        obtain ⟨hI, hnc⟩ := hpr.ints sh (List.mem_of_getElem? hsh)
        obtain ⟨hso, hbd, hAn⟩ := HGR.out sh (List.mem_of_getElem? hsh)
        have hn6 : sh.n ≤ 6 := by
          obtain ⟨m6, h6⟩ := K.set6 hso fun y hy => by have := hbd y hy; omega
          rw [hI.1]; exact h6.len
        have HNC := Lib.hid hnc
        have c4 := blk_cell hpr.blk 4 _ rfl
        have c5 : wr.cell? ⟨gb, s, none⟩ = some (.slice sh.A sh.n sh.c) := blk_cell hpr.sh s _ (by simp [hsh, Sh.val])
        have HSH := Lib.hid hsh
        have HSO := Lib.hid hso
        have HBD := Lib.hid hbd
        have HGET := Lib.hid hget
        have HPR := Lib.hid hpr
        have HBR := Lib.hid hbr
        have HXW := Lib.hid (show ∀ g, X g → g < wr.heap.size from fun g hg => Nat.lt_of_lt_of_le (hX g hg) (Nat.le_trans hwX hbr.size))
        have k0 : (0 : Int) ≤ (s : Int) := by omega
        have k1 : (s : Int) < (x.sn : Int) := by omega
        clear hpr hbr hso hbd hget hsh
        go_upto_region 7 with fail
        have HI := Lib.hid hI
        have hA0 : sh.A = none → sh.n = 0 := fun e => (hAn e).1
        have hbla : Below wr.heap.size wr (wr.alloc (.cells #[.int .i64 (i : Int)] 3)).drew := ((Below.refl _ _).alloc (Nat.le_refl _) _).drew
        have hbdr : Below wr.heap.size wr wr.drew := (Below.refl _ _).drew
        have S0 : (fun w' : World => w'.cell? ⟨b, 4, none⟩ = some (.slice (some ⟨gb, 0, none⟩) x.sn x.sn)) wr := c4
        have S0d : (fun w' : World => w'.cell? ⟨b, 4, none⟩ = some (.slice (some ⟨gb, 0, none⟩) x.sn x.sn)) wr.drew := blk_cell (HPR.out.below hbdr).blk 4 _ rfl
        have S0l : (fun w' : World => w'.cell? ⟨b, 4, none⟩ = some (.slice (some ⟨gb, 0, none⟩) x.sn x.sn)) (wr.alloc (.cells #[.int .i64 (i : Int)] 3)).drew := blk_cell (HPR.out.below hbla).blk 4 _ rfl
        have hn9 : sh.n ≤ 1000000 := by omega
        have hkc := HNC.out
        clear hI hnc c4 c5
        go_cut [38] from 29 to 39 (fun v38 wa => ∃ B c9, v38 = .slice (some B) (sh.n + 1) c9 ∧ sh.n + 1 ≤ c9 ∧ PlAz w0 wa b mb gb x X (shs.set s ⟨some B, sh.n + 1, c9, sh.l ++ [(i : Int)]⟩) ∧ Ints wa (some B) (sh.n + 1) (sh.l ++ [(i : Int)]) ∧ Ints wa sh.A sh.n sh.l ∧ But2 w wa mb gb)
        case first =>
          go_region_held3 (fun w' : World => w'.cell? ⟨b, 4, none⟩ = some (.slice (some ⟨gb, 0, none⟩) x.sn x.sn))
            (first | with_reducible exact S10 | with_reducible exact S9 | with_reducible exact S0l | with_reducible exact S0d | with_reducible exact S0 | fail)
            (first
              | (go_at_call 124; refine (clip_any sh.A sh.n sh.c _ hkc hAn).mono ?_; rintro e w9 ⟨rfl, rfl⟩)
              | (refine step_app_full rfl (.tmp 35) (.tmp 37) rfl HI.out hA0 rfl wr.heap.size (i : Int) rfl hbla (heap_alloc_new wr _) hn9 ?_; intro B c9 w9 hI9 hc9 hb9 hB9; have hp9 := HPR.out.below (bel hbla hb9); have S9 : w9.cell? ⟨b, 4, none⟩ = some (.slice (some ⟨gb, 0, none⟩) x.sn x.sn) := blk_cell hp9.blk 4 _ rfl; have c59 : w9.cell? ⟨gb, s, none⟩ = some (.slice sh.A sh.n sh.c) := blk_cell hp9.sh s _ (by simp [HSH.out, Sh.val]); have f59 := blk_free hp9.sh; have hp10 := hp9.store s ⟨some B, sh.n + 1, c9, sh.l ++ [(i : Int)]⟩ ⟨hI9, hc9⟩ (fun g hg _ ad e e2 => by have h1 := HXW.out g hg; have h2 := hbla.size; (injection e with e); rw [e] at hB9; omega); have S10 : (w9.setCell ⟨gb, s, none⟩ (.slice (some B) (sh.n + 1) c9)).cell? ⟨b, 4, none⟩ = some (.slice (some ⟨gb, 0, none⟩) x.sn x.sn) := blk_cell hp10.blk 4 _ rfl)
              | fail)
          all_goals
            have hr1 := hI9.set1 (i := s) (.slice (some B) (sh.n + 1) c9) (hp9.sh.ints_ne hI9)
            have hr2 := (HI.out.below (bel hbla hb9)).set1 (i := s) (.slice (some B) (sh.n + 1) c9) (hp9.sh.ints_ne (HI.out.below (bel hbla hb9)))
            have hr3 := (HBR.out.below (bel hbla hb9)).set s (.slice (some B) (sh.n + 1) c9)
            go_wp2_with fail
            go_meet
            exact ⟨B, c9, rfl, hc9, hp10, hr1, hr2, hr3⟩
        case rest =>
          obtain ⟨B, c9, rfl, hc9, hpa, hIa, hIo, hba⟩ := hcut
          obtain ⟨u, hu⟩ : ∃ u : Sh, u = ⟨some B, sh.n + 1, c9, sh.l ++ [(i : Int)]⟩ := ⟨_, rfl⟩
          rw [← hu] at hpa
          obtain ⟨wa, hwa⟩ : ∃ wa, wa = wc := ⟨_, rfl⟩
          rw [← hwa] at hpa hIa hIo hba
          have hsl : s < shs.length := by rw [HLEN.out]; exact hlt
          have HSL := Lib.hid (show (shs.set s u)[s]? = some ⟨some B, sh.n + 1, c9, sh.l ++ [(i : Int)]⟩ by rw [List.getElem?_set, if_pos rfl, if_pos hsl, hu])
          have hgu : Grown (shs.set s u) (i + 1) := by rw [hu]; exact HGR.out.give HSH.out B _ _
          obtain ⟨gso, gbd, -⟩ := hgu _ (List.mem_of_getElem? HSL.out)
          obtain ⟨sS, hsS⟩ : ∃ sS, x.ss[s]? = some sS := ⟨_, List.getElem?_eq_getElem (by rw [← HSN.out]; exact hlt)⟩
          have HGB := Lib.hid (show ∀ y ∈ sh.l ++ [(i : Int)], 0 ≤ y ∧ y < (x.r.length : Int) from fun y hy => by have := gbd y hy; have := HRN.out; omega)
          have HGS := Lib.hid (show (sh.l ++ [(i : Int)]).Pairwise (· < ·) from gso)
          have CB := best32z w0 b mb gb x (shs.set s u) s sS (some B) (sh.n + 1) c9 (sh.l ++ [(i : Int)]) wa hpa (fun g hg => Nat.lt_of_lt_of_le (hX g hg) (Nat.le_trans hwX hba.size)) hsS hIa hc9 gso HGB.out
          have hfe : K.feas x.nd x.l x.ss x.r s (((shs.map Sh.l)[s]?).getD [] ++ [(i : Int)]) = (K.best x.nd x.l sS x.r (sh.l ++ [(i : Int)])).isSome := by
            rw [HGET.out, Bool.eq_iff_iff, K.feas_iff hpa.ok gso HGB.out, Option.isSome_iff_exists]
            exact ⟨fun ⟨s2, t, e1, e2⟩ => by rw [hsS] at e1; injection e1 with e1; subst e1; exact ⟨t, e2⟩, fun ⟨t, e2⟩ => ⟨sS, t, hsS, e2⟩⟩
          have hgv : (shs.set s u).map Sh.l = A.give (shs.map Sh.l) s i := by
            unfold A.give
            rw [HGET.out, List.map_set, hu]
          obtain ⟨T, hT⟩ : ∃ T, T = K.best x.nd x.l sS x.r (sh.l ++ [(i : Int)]) := ⟨_, rfl⟩
          rw [← hT] at CB hfe
          have HFE := Lib.hid hfe
          have HGV := Lib.hid hgv
          have HGU := Lib.hid hgu
          have c4a := blk_cell hpa.blk 4 _ rfl
          have c5a : wa.cell? ⟨gb, s, none⟩ = some (.slice (some B) (sh.n + 1) c9) := blk_cell hpa.sh s _ (by rw [List.getElem?_toArray, List.getElem?_map, HSL.out]; rfl)
          have HOR := Lib.hid hor.out
          rw [← hwa]
          clear hgu gso gbd hfe hgv hT hsS hwa S0 S0d S0l hbla hbdr hu hor hA0 hkc hAn
          go_wp2_with fail
          refine CB.mono ?_
          rintro e wb ⟨⟨u', rfl, hTA⟩, hgb, hpb⟩
          have hIb := hIo.ext (hpa.memo.ext hgb)
          have hbb := hba.trans (But2.of hgb)
          clear CB c4a c5a hpa hIa hba hIo
          cases T with
          | none =>
            obtain rfl : u' = .pointer none := hTA
            have HNX := Lib.hid (show o = A.assign.go (K.feas x.nd x.l x.ss x.r) (A.assign (K.feas x.nd x.l x.ss x.r) x.sn k (i + 1)) i (shs.map Sh.l) ((List.range x.sn).drop (s + 1)) from HOR.out.trans (A.go_no hlt (.inl HFE.out)))
            have c4c := blk_cell hpb.blk 4 _ rfl
            have c5c : wb.cell? ⟨gb, s, none⟩ = some (.slice (some B) (sh.n + 1) c9) := blk_cell hpb.sh s _ (by rw [List.getElem?_toArray, List.getElem?_map, HSL.out]; rfl)
            have f5c := blk_free hpb.sh
            have hpd := hpb.store s sh ⟨hIb, HNC.out⟩ (fun g hg h0 ad e => (HPR.out.away g hg).2.2.2.2 sh (List.mem_of_getElem? HSH.out) h0 ad e)
            rw [List.set_set, set_same HSH.out] at hpd
            have hbd := hbb.set s sh.val
            go_wp2_with fail
            go_roundw
            case rel => (go_light; exact ⟨s + 1, by go_num, hlt, hpd, hbd, HNX.out⟩)
            case measure => (go_light; simp [intOf]; omega)
          | some bt =>
            obtain ⟨g, A8, n8, c8, A7, n7, c7, rfl, -⟩ := hTA
            obtain ⟨ii, hii⟩ : ∃ ii, ii = i + 1 := ⟨_, rfl⟩
            have kw : IntKind.i64.wrap ((i : Int) + 1) = (ii : Int) := by rw [IntWalk.i64_in _ (by omega)]; omega
            have CI := ih ii (shs.set s u) wb (by omega) (Nat.le_trans hwX hbb.size) hpb (by rw [hii]; exact HGU.out)
            rw [HGV.out] at CI
            obtain ⟨O, hO⟩ : ∃ O, O = A.assign (K.feas x.nd x.l x.ss x.r) x.sn k ii (A.give (shs.map Sh.l) s i) := ⟨_, rfl⟩
            rw [← hO] at CI
            have HO2 := Lib.hid (show A.assign (K.feas x.nd x.l x.ss x.r) x.sn k (i + 1) (A.give (shs.map Sh.l) s i) = O by rw [hO, hii]; simp)
            obtain ⟨es, clock, hmw, -⟩ := hpb.memo
            have hgn := hpb.sh.ints_ne hIb
            clear hO hii
            go_wp2_with fail
            refine CI.mono ?_
            rintro e wc ⟨⟨shs', hpc, hres⟩, hbc⟩
            have hIc := hIb.but2 hbc hgn hmw
            have hbw := hbb.trans hbc
            clear CI hmw hgn hpb hIb hbb hbc kw
            rcases hres with ⟨h1, rfl, rfl⟩ | ⟨fin, h1, rfl, h2⟩
            · have HNX := Lib.hid (show o = A.assign.go (K.feas x.nd x.l x.ss x.r) (A.assign (K.feas x.nd x.l x.ss x.r) x.sn k (i + 1)) i (shs.map Sh.l) ((List.range x.sn).drop (s + 1)) from HOR.out.trans (A.go_no hlt (.inr (HO2.out.trans h1))))
              clear h1
              have c4c := blk_cell hpc.blk 4 _ rfl
              have c5c : wc.cell? ⟨gb, s, none⟩ = some (.slice (some B) (sh.n + 1) c9) := blk_cell hpc.sh s _ (by rw [List.getElem?_toArray, List.getElem?_map, HSL.out]; rfl)
              have f5c := blk_free hpc.sh
              have hpd := hpc.store s sh ⟨hIc, HNC.out⟩ (fun g hg h0 ad e => (HPR.out.away g hg).2.2.2.2 sh (List.mem_of_getElem? HSH.out) h0 ad e)
              rw [List.set_set, set_same HSH.out] at hpd
              have hbd := hbw.set s sh.val
              go_wp2_with fail
              go_roundw
              case rel => (go_light; exact ⟨s + 1, by go_num, hlt, hpd, hbd, HNX.out⟩)
              case measure => (go_light; simp [intOf]; omega)
            · have HFN := Lib.hid (show o = some fin from HOR.out.trans (A.go_yes hlt HFE.out (HO2.out.trans h1)))
              clear h1
              go_wp2_with fail
              go_ret
              exact ⟨⟨shs', hpc, .inr ⟨fin, HO.out ▸ HFN.out, rfl, h2⟩⟩, hbw⟩
      · have HFN := Lib.hid (show o = none by rw [hor.out, List.drop_eq_nil_of_le (by rw [List.length_range]; omega)]; rfl)
        clear hor
        go_wp2_with fail
        go_ret
        exact ⟨⟨shs, hpr, .inl ⟨HO.out ▸ HFN.out, rfl, rfl⟩⟩, hbr⟩
theorem PlAz.turn {w0 w : World} {b mb gb : Nat} {x : Cs} {X Y : Nat → Prop} {shs : List Sh} (h : PlAz w0 w b mb gb x X shs) (hY : ∀ g, Y g → X g ∨ w.heap.size ≤ g) : PlAz w0 w b mb gb x Y shs := by
  refine ⟨h.case, h.bw, h.hb, h.hm, h.hg, h.blk, h.sh, h.len, h.ints, h.memo.more fun g hg hy => (hY g hy).resolve_right (by omega), h.ok, fun g hy => ?_⟩
  rcases hY g hy with hx | hs
  · exact h.away g hx
  · have h1 := lt_of_block h.blk
    have h2 := lt_of_block h.sh
    obtain ⟨es, clock, hm, -⟩ := h.memo
    have h3 := (Array.getElem?_eq_some_iff.1 hm).1
    have h4 := h.bw.size
    refine ⟨by omega, by omega, by omega, by omega, fun s hs' h0 ad e => ?_⟩
    have := (h.ints s hs').1.lt_of h0 e
    omega
theorem PlAz.own {w0 w w' : World} {b mb gb : Nat} {x : Cs} {X : Nat → Prop} {shs : List Sh} {r : Option Nat} (h : PlAz w0 w b mb gb x X shs) (hg : w.grownBy w' r) (hr : ∀ g, r = some g → X g) (hr2 : ∀ g, r = some g → w0.heap.size ≤ g) : PlAz w0 w' b mb gb x X shs := by
  have hb : ∀ g, g < w.heap.size → (∀ k, r = some k → g ≠ k) → w'.heap[g]? = w.heap[g]? := fun g hl hne => hg.block g hl (fun e => hne g e.symm rfl)
  obtain ⟨es, clock, hm, hes⟩ := h.memo
  refine ⟨h.case, below_own2 h.bw hg hr2, h.hb, h.hm, h.hg, (hb b (lt_of_block h.blk) fun k e => ((h.away k (hr k e)).2.1).symm).trans h.blk, (hb gb (lt_of_block h.sh) fun k e => ((h.away k (hr k e)).2.2.2.1).symm).trans h.sh, h.len, fun s hs => ⟨(h.ints s hs).1.grow hg fun h0 ad e e2 => (h.away _ (hr _ e2.symm)).2.2.2.2 s hs h0 ad e rfl, (h.ints s hs).2⟩,
    ⟨es, clock, (hb mb (Array.getElem?_eq_some_iff.1 hm).1 fun k e => ((h.away k (hr k e)).2.2.1).symm).trans hm, fun e he => ?_⟩, h.ok, h.away⟩
  obtain ⟨k, s, m, h1, h2, h3, h4, h5⟩ := hes e he
  refine ⟨k, s, m, h1, h2, h3, h4, ?_⟩
  cases hbt : K.best x.nd x.l s x.r (K.part (K.iota 6) m) with
  | none => rw [hbt] at h5; exact h5
  | some t =>
    rw [hbt] at h5
    obtain ⟨g, A, n, c, A', n', c', g1, g2, g3, g4, g5, g6, g7⟩ := h5
    exact ⟨g, A, n, c, A', n', c', g1, grow_blk hg g2 (fun e => g5 (hr g e.symm)), g3.grow hg (fun h0 ad e e2 => g6 h0 ad e (hr _ e2.symm)), g4.grow hg (fun h0 ad e e2 => g7 h0 ad e (hr _ e2.symm)), g5, g6, g7⟩

/-- What plan.Plan hands back: all of it is new. -/
def RetPlanX (w w' : World) (p : List (Nat × K.Tr) × Int) (e : Ending) : Prop :=
  (∃ A n c l, e = .returned (.tuple #[.slice A n c, .int .i64 p.2]) ∧ Tours w' A n l ∧ n ≤ c ∧ l.map TV.pr = p.1.map (fun t => ((t.1 : Int), t.2)) ∧ (∀ ad, A = some ad → w.heap.size ≤ ad.block) ∧ NT w l) ∧ Below w.heap.size w w'
theorem retPlanX_nil {w w' : World} {p : List (Nat × K.Tr) × Int} {er : Int} (h : p = ([], er)) (hb : Below w.heap.size w w') : RetPlanX w w' p (.returned (.tuple #[.slice none 0 0, .int .i64 er])) := by
  subst h
  exact ⟨⟨none, 0, 0, [], rfl, ⟨⟨rfl, rfl, fun h => absurd h (by omega)⟩, fun y h => by cases h⟩, Nat.le_refl _, rfl, (fun ad e => (by cases e)), (fun y h => (by cases h))⟩, hb⟩
set_option maxRecDepth 100000 in
set_option maxHeartbeats 16000000 in
theorem plan32X (x : Cs) (w : World) (hx : CsAt w x) :
    Calls Tryz.prog 20 #[.agg #[.int .i64 x.nd, .slice x.A x.n x.c], .slice x.SA x.sn x.sc, .slice x.B x.m x.d] w fun e w' => RetPlanX w w' (K.plan x.nd x.l x.ss x.r) e := by
  have hN := Net.new w x.nd x.A x.n x.c
  have p0 := hN.c0
  have p1 := hN.c1
  have b0 : Below w.heap.size w (w.alloc (.cells #[.int .i64 x.nd, .slice x.A x.n x.c] 24)) := (Below.refl _ _).alloc (Nat.le_refl _) _
  go_enter Tryz.func20, Tryz.ntmps20
  go_wp2_with fail
  refine (check32_any x _ (hx.below b0)).mono ?_
  obtain ⟨ce, hce⟩ : ∃ ce, ce = K.pcheck x.nd x.l x.ss x.r := ⟨_, rfl⟩
  rw [← hce]
  rintro e w1 ⟨rfl, b1⟩
  have hN1 := hN.below b1
  have hb1 := bel b0 b1
  clear p0 p1 b0 b1 hN
  by_cases hz : ce = 0
  rotate_left
  · have HX := Lib.hid (show K.plan x.nd x.l x.ss x.r = ([], ce) by rw [hce] at hz ⊢; exact K.plan_err hz)
    have hd : (ce != 0) = true := by simp [bne, hz]
    clear hce
    go_wp2_with fail
    go_ret2
    exact retPlanX_nil HX.out hb1
  subst hz
  have HOK := Lib.hid hce.symm
  clear hce
  have p0 := hN1.c0
  have p1 := hN1.c1
  go_wp2_with fail
  refine (start32X x _ (hx.below hb1) HOK.out).mono ?_
  rintro e w2 ⟨b, mb, gb, rfl, hp0⟩
  have hww1 := hb1.size
  have hp2 := hp0 (Old w) (fun g hg => Nat.lt_of_lt_of_le hg hww1)
  have hw12 := hp2.bw.size
  have hmb1 := hp2.hm
  clear hp0
  have hm6 : x.m ≤ 6 := by rw [hx.reqs.1]; exact (K.pcheck_ok HOK.out).2.2.2.2
  have hsn4 : x.sn ≤ 4 := by rw [hx.shifts.1.1]; exact (K.pcheck_ok HOK.out).2.1
  have HSN := Lib.hid hx.shifts.1.1
  have HRN := Lib.hid hx.reqs.1
  clear p0 p1 hN1
  go_wp2_with fail
  have CA := assign32X w1 b mb gb x w.heap.size (fun g (hg : Old w g) => hg) x.m 0 _ w2 (by omega) (Nat.le_trans hww1 hw12) hp2 (fun s hs => by rw [List.eq_of_mem_replicate hs]; exact ⟨List.Pairwise.nil, fun y hy => (by cases hy), fun _ => ⟨rfl, rfl⟩⟩)
  have hasg := A.assign_first (B := K.feas x.nd x.l x.ss x.r) K.feas_mono.mono x.sn x.m
  rw [show (List.replicate x.sn (⟨none, 0, 0, []⟩ : Sh)).map Sh.l = List.replicate x.sn [] by rw [List.map_replicate], show ((0 : Nat) : Int) = 0 from rfl, hasg] at CA
  refine CA.mono ?_
  rintro e w3 ⟨⟨shs, hp3, hres⟩, -⟩
  clear hasg hp2 CA
  cases hf : A.first (K.feas x.nd x.l x.ss x.r) x.sn x.m with
  | none =>
    rw [hf] at hres
    rcases hres with ⟨-, rfl, -⟩ | ⟨fin, h, -⟩
    rotate_left
    · cases h
    have HX := Lib.hid (show K.plan x.nd x.l x.ss x.r = ([], 4) by unfold K.plan; rw [if_pos HOK.out, ← HSN.out, ← HRN.out, hf])
    have hb3 := bel hb1 hp3.bw
    clear hf
    go_wp2_with fail
    go_ret2
    exact retPlanX_nil HX.out hb3
  | some d =>
    rw [hf] at hres
    rcases hres with ⟨h, -⟩ | ⟨fin, h, rfl, hfin⟩
    · cases h
    injection h with h
    have HPL := Lib.hid (show K.plan x.nd x.l x.ss x.r = (K.toursOf x.nd x.l x.ss x.r d, 0) by unfold K.plan; rw [if_pos HOK.out, ← HSN.out, ← HRN.out, hf])
    have HFS := Lib.hid (K.first_some hf)
    have HFIN := Lib.hid (hfin.trans h.symm)
    have c4 : w3.cell? ⟨b, 4, none⟩ = some (.slice (some ⟨gb, 0, none⟩) x.sn x.sn) := blk_cell hp3.blk 4 _ rfl
    obtain ⟨hd1, -, hd3⟩ := HFS.out
    have hw1 := hp3.bw.size
    have hwb := lt_of_block hp3.blk
    obtain ⟨base, hbase⟩ : ∃ base, base = w3.heap.size := ⟨_, rfl⟩
    have hbw1 : w1.heap.size ≤ base := by rw [hbase]; exact hw1
    have hbse : w.heap.size ≤ base := Nat.le_trans hww1 hbw1
    clear hf h hfin HFS
    have HD1 := Lib.hid hd1
    have HD3 := Lib.hid hd3
    clear hd1 hd3
    go_wp2_with fail
    clear c4
    go_loopw [10, 32] (fun v10 v32 wr => ∃ (s : Nat) (ts : List TV), v32 = .int .i64 s ∧ s ≤ x.sn ∧ ts.length ≤ s ∧ wr.ownsRow base 80 4 v10 ts.length (ts.flatMap TV.cells) ∧ PlAz w1 wr b mb gb x (fun g => v10.ownBlock = some g ∨ Old w g) shs ∧ NT w ts ∧ base ≤ wr.heap.size ∧ (∀ y ∈ ts, (Ints wr y.A y.n y.t.stops ∧ Ints wr y.A' y.n' y.t.times) ∧ (0 < y.n → ∀ ad, y.A = some ad → v10.ownBlock ≠ some ad.block) ∧ (0 < y.n' → ∀ ad, y.A' = some ad → v10.ownBlock ≠ some ad.block)) ∧ Hid (ts.map TV.pr = ((List.range s).filterMap (K.tourAt x.nd x.l x.ss x.r d)).map fun t => ((t.1 : Int), t.2))) (fun _ v32 _ => x.sn - (intOf v32).toNat)
    case atStart => exact ⟨0, [], rfl, Nat.zero_le _, Nat.zero_le _, World.ownsRow_nil _ _ _ _, hp3.turn (fun g h => h.elim (fun e => (by cases e)) .inl), fun y hy => (by cases hy), by rw [hbase]; exact Nat.le_refl _, fun y hy => (by cases hy), rfl⟩
    case round =>
      clear hp3 hwb hw1
      obtain ⟨s, ts, rfl, hs, htl, hown, hpr, hawt, hbs, hts, hpl⟩ := hrel
      by_cases hlt : s < x.sn
      · obtain ⟨sh, hsh⟩ : ∃ sh, shs[s]? = some sh := ⟨_, List.getElem?_eq_getElem (by rw [hpr.len]; exact hlt)⟩
        have hshl : sh.l = A.share d s 0 := by
          have h9 := congrArg (fun l => l[s]?) HFIN.out
          simp only [List.getElem?_map, List.getElem?_range hlt, hsh, Option.map_some] at h9
          injection h9
        obtain ⟨hI, hnc⟩ := hpr.ints sh (List.mem_of_getElem? hsh)
        have c5 : wr.cell? ⟨gb, s, none⟩ = some (.slice sh.A sh.n sh.c) := blk_cell hpr.sh s _ (by rw [List.getElem?_toArray, List.getElem?_map, hsh]; rfl)
        have k0 : (0 : Int) ≤ (s : Int) := by omega
        have k1 : (s : Int) < (x.sn : Int) := by omega
        have HPR := Lib.hid hpr
        have HI := Lib.hid hI
        have HSHL := Lib.hid hshl
        have HSH := Lib.hid hsh
        have HTS := Lib.hid hts
        clear hpr hI hsh hts
        by_cases hn0 : sh.n = 0
        · have hd1 : decide ((0 : Int) < (sh.n : Int)) = false := by rw [hn0]; rfl
          have hd2 : decide (0 < sh.n) = false := by rw [hn0]; rfl
          have HE := Lib.hid (show K.tourAt x.nd x.l x.ss x.r d s = none by
            unfold K.tourAt
            have : A.share d s 0 = [] := by rw [← HSHL.out]; exact List.length_eq_zero_iff.1 (by rw [← HI.out.1]; exact hn0)
            rw [this]; rfl)
          have HNX := Lib.hid (hpl.out.trans (congrArg _ (K.upto_none HE.out).symm))
          clear hshl hpl
          go_wp2_with fail
          go_roundw
          case rel => (go_light; exact ⟨s + 1, ts, by go_num, hlt, by omega, hown, HPR.out, hawt, hbs, HTS.out, HNX.out⟩)
          case measure => (go_light; simp [intOf]; omega)
        · have hn1 : 0 < sh.n := by omega
          have hd1 : decide ((0 : Int) < (sh.n : Int)) = true := by simp; omega
          have hd2 : decide (0 < sh.n) = true := by simp; omega
          have hne : A.share d s 0 ≠ [] := fun e => by
            rw [← HSHL.out] at e
            have := HI.out.1
            rw [e] at this
            exact hn0 this
          obtain ⟨sS, hsS⟩ : ∃ sS, x.ss[s]? = some sS := ⟨_, List.getElem?_eq_getElem (by rw [← HSN.out]; exact hlt)⟩
          have hsorted : sh.l.Pairwise (· < ·) := by rw [HSHL.out]; exact A.share_sorted _ _ _
          have hbound : ∀ i ∈ sh.l, 0 ≤ i ∧ i < (x.r.length : Int) := fun i hi => by
            rw [HSHL.out] at hi
            have := A.share_mem hi
            rw [HD1.out] at this
            have := HRN.out
            omega
          have hfe := (HD3.out s hlt).resolve_left hne
          rw [← HSHL.out] at hfe
          obtain ⟨s2, t, hs2, hbt⟩ := (K.feas_iff HOK.out hsorted hbound).1 hfe
          rw [hsS] at hs2
          injection hs2 with hs2
          subst hs2
          have CB := best32z w1 b mb gb x shs s sS sh.A sh.n sh.c sh.l wr HPR.out (fun g hg => hg.elim (fun hg => (hown.lt g hg).2) (fun hg => Nat.lt_of_lt_of_le hg (Nat.le_trans hbse hbs))) hsS HI.out hnc hsorted hbound
          rw [hbt] at CB
          have HE := Lib.hid (show K.tourAt x.nd x.l x.ss x.r d s = some (s, t) by
            unfold K.tourAt
            rw [List.isEmpty_eq_false_iff.2 hne, hsS]
            rw [HSHL.out] at hbt
            show (K.best x.nd x.l sS x.r (A.share d s 0)).map _ = _
            rw [hbt]
            rfl)
          have HNX := Lib.hid (show (ts.map TV.pr) ++ [((s : Int), t)] = ((List.range (s + 1)).filterMap (K.tourAt x.nd x.l x.ss x.r d)).map fun t => ((t.1 : Int), t.2) by rw [K.upto_some HE.out, List.map_append, ← hpl.out]; rfl)
          clear hne hsorted hbound hfe hbt hpl hsS hshl
          go_wp2_with fail
          refine CB.mono ?_
          rintro e wb ⟨⟨u, rfl, g, A, n, c, A', n', c', rfl, hT, hI1, hI2, hx1, hx2, hx3⟩, hgb, hpb⟩
          have hownb := hown.kept hgb (.inr fun e => (hpb.away mb (.inl e)).2.2.1 rfl)
          have hx2a : 0 < n → ∀ ad, A = some ad → u10.ownBlock ≠ some ad.block := fun h0 ad e e2 => hx2 h0 ad e (.inl e2)
          have hx3a : 0 < n' → ∀ ad, A' = some ad → u10.ownBlock ≠ some ad.block := fun h0 ad e e2 => hx3 h0 ad e (.inl e2)
          have hawt2 : NT w (ts ++ [(⟨s, A, n, c, A', n', c', t⟩ : TV)]) := hawt.snoc (fun h0 ad e => Nat.le_of_not_lt fun e2 => hx2 h0 ad e (.inr e2)) (fun h0 ad e => Nat.le_of_not_lt fun e2 => hx3 h0 ad e (.inr e2))
          have hxb := HPR.out.memo.ext hgb
          obtain ⟨t0, t1, t2, t3⟩ := hT.cells
          obtain ⟨wl, hwl⟩ : ∃ wl : World, wl = wb.alloc (.cells #[.int .i64 s, .slice A n c, .slice A' n' c', .int .i64 t.end_] 80) := ⟨_, rfl⟩
          have bl : Below wb.heap.size wb wl := by rw [hwl]; exact (Below.refl _ _).alloc (Nat.le_refl _) _
          have hLT : wl.heap[wb.heap.size]? = some (.cells #[.int .i64 s, .slice A n c, .slice A' n' c', .int .i64 t.end_] 80 (0, 0)) := by rw [hwl]; exact heap_alloc_new _ _
          have hownl := own_below hownb bl
          have hpl := hpb.below bl
          have hbl : base ≤ wl.heap.size := Nat.le_trans hbs (Nat.le_trans hgb.size bl.size)
          have hln : ts.length ≤ 1000000 := by omega
          have HNXT := Lib.hid (show ((ts ++ [(⟨s, A, n, c, A', n', c', t⟩ : TV)]).map TV.pr) = ((List.range (s + 1)).filterMap (K.tourAt x.nd x.l x.ss x.r d)).map fun t => ((t.1 : Int), t.2) by rw [← HNX.out, List.map_append]; rfl)
          have hts1 : ∀ y ∈ ts, (Ints wl y.A y.n y.t.stops ∧ Ints wl y.A' y.n' y.t.times) ∧ (0 < y.n → ∀ ad, y.A = some ad → u10.ownBlock ≠ some ad.block) ∧ (0 < y.n' → ∀ ad, y.A' = some ad → u10.ownBlock ≠ some ad.block) := fun y hy => ⟨⟨((HTS.out y hy).1.1.ext hxb).below bl, ((HTS.out y hy).1.2.ext hxb).below bl⟩, (HTS.out y hy).2⟩
          have HTS1 := Lib.hid hts1
          have hI1l := hI1.below bl
          have hI2l := hI2.below bl
          have hownl0 := hownl
          rw [hwl] at hownl hLT
          clear CB hown HPR HTS hxb hgb hownb hpb hts1 hT
          go_wp2_with (at_builtin; refine app_tour rfl (.tmp 40) (.tmp 47) rfl base u10 ts.length ts rfl hownl wb.heap.size ⟨s, A, n, c, A', n', c', t⟩ rfl hLT hln (by rw [← hwl]; exact hbl) ?_; rw [← hwl]; intro v' w6 hown6 hgrow6 hat6)
          have hp6 : PlAz w1 w6 b mb gb x (fun g => v'.ownBlock = some g ∨ Old w g) shs := by
            refine ((hpl.turn (Y := fun g => (u10.ownBlock = some g ∨ g = wl.heap.size) ∨ Old w g) (fun g h => h.elim (fun h => h.elim (fun e => .inl (.inl e)) fun e => .inr (by rw [e]; exact Nat.le_refl _)) (fun h => .inl (.inr h)))).own hgrow6 (fun g e => .inl (.inl e)) (fun g e => Nat.le_trans hbw1 (hownl0.lt g e).1)).turn fun g h => .inl ?_
            rcases h with h | h
            · refine .inl ?_
              rcases hat6 with e | e
              · rw [e] at h; exact .inl h
              · rw [e] at h; injection h with h; exact .inr h.symm
            · exact .inr h
          have hgo : ∀ (B : Option Addr) (k : Nat) (l : List Int), Ints wl B k l → (0 < k → ∀ ad, B = some ad → u10.ownBlock ≠ some ad.block) → Ints w6 B k l ∧ (0 < k → ∀ ad, B = some ad → v'.ownBlock ≠ some ad.block) := fun B k l hI hne => ⟨hI.grow hgrow6 (fun h0 ad e e2 => hne h0 ad e e2.symm), fun h0 ad e e2 => by
            rcases hat6 with e3 | e3
            · rw [e3] at e2; exact hne h0 ad e e2
            · rw [e3] at e2
              injection e2 with e2
              have := hI.lt_of h0 e
              omega⟩
          have hts6 : ∀ y ∈ ts ++ [(⟨s, A, n, c, A', n', c', t⟩ : TV)], (Ints w6 y.A y.n y.t.stops ∧ Ints w6 y.A' y.n' y.t.times) ∧ (0 < y.n → ∀ ad, y.A = some ad → v'.ownBlock ≠ some ad.block) ∧ (0 < y.n' → ∀ ad, y.A' = some ad → v'.ownBlock ≠ some ad.block) := fun y hy => by
            rcases List.mem_append.1 hy with hy | hy
            · obtain ⟨⟨g1, g2⟩, g3, g4⟩ := HTS1.out y hy
              obtain ⟨f1, f2⟩ := hgo _ _ _ g1 g3
              obtain ⟨f3, f4⟩ := hgo _ _ _ g2 g4
              exact ⟨⟨f1, f3⟩, f2, f4⟩
            · rw [List.mem_singleton] at hy
              subst hy
              obtain ⟨f1, f2⟩ := hgo _ _ _ hI1l hx2a
              obtain ⟨f3, f4⟩ := hgo _ _ _ hI2l hx3a
              exact ⟨⟨f1, f3⟩, f2, f4⟩
          have hb6 := Nat.le_trans hbl hgrow6.size
          have hl6 : (ts ++ [(⟨s, A, n, c, A', n', c', t⟩ : TV)]).length = ts.length + 1 := by rw [List.length_append]; rfl
          clear hgo hgrow6 hat6 hwl hownl hownl0 hx2a hx3a hLT hI1l hI2l hx1 hx2 hx3 HTS1 bl t0 t1 t2 t3
          go_roundw
          case rel => (go_light; exact ⟨s + 1, ts ++ [⟨s, A, n, c, A', n', c', t⟩], by go_num, hlt, by omega, by rw [hl6]; exact hown6, hp6, hawt2, hb6, hts6, HNXT⟩)
          case measure => (go_light; simp [intOf]; omega)
      · have hse : s = x.ss.length := by have := HSN.out; omega
        obtain ⟨A9, c9, rfl, hRd, hF9⟩ := own_form hown
        have hnc9 : ts.length ≤ c9 := by
          obtain ⟨-, ⟨e, e0⟩ | ⟨g', cap, cur, e, -, -, h9, -⟩⟩ := hown
          · rw [e0]; exact Nat.zero_le _
          · injection e with e1 e2 e3; rw [e3]; exact h9
        have HX := Lib.hid (show K.plan x.nd x.l x.ss x.r = (_, 0) from HPL.out)
        have HTO := Lib.hid (show ts.map TV.pr = (K.plan x.nd x.l x.ss x.r).1.map fun t => ((t.1 : Int), t.2) by rw [HPL.out, K.toursOf_eq, ← hse]; exact hpl.out)
        clear hse hpl
        go_wp2_with fail
        go_ret2
        refine ⟨⟨A9, ts.length, c9, ts, by rw [HX.out]; rfl, ⟨⟨rfl, hRd⟩, fun y hy => (hts y hy).1⟩, hnc9, HTO.out, fun ad e => Nat.le_trans hbse (hF9 _ (by rw [e]; rfl)).1, hawt⟩, bel hb1 hpr.bw⟩
end Go.Proofs.YtippdjmpkafifaaGreat

/-
Plans: the walk of plan.Refute once more: its blocks are new.
-/
namespace Go.Proofs.YtippdjmpkafifaaGreat
open Go.RowKit
/-- Blocks that lie in new memory. -/
def NB (w : World) (bl : List BV) : Prop := ∀ y ∈ bl, (0 < y.vn → ∀ ad, y.V = some ad → w.heap.size ≤ ad.block) ∧ (0 < y.ln → ∀ ad, y.LA = some ad → w.heap.size ≤ ad.block)
theorem NB.snoc {w : World} {bl : List BV} (h : NB w bl) {y : BV} (h1 : 0 < y.vn → ∀ ad, y.V = some ad → w.heap.size ≤ ad.block) (h2 : 0 < y.ln → ∀ ad, y.LA = some ad → w.heap.size ≤ ad.block) : NB w (bl ++ [y]) := fun z hz => by
  rcases List.mem_append.1 hz with hz | hz
  · exact h z hz
  · rw [List.mem_singleton.1 hz]; exact ⟨h1, h2⟩
/-- What plan.Refute hands back: all of it is new. -/
def RetRefuteX (w w' : World) (p : List (Int × List Int × List Lb)) (er : Int) (e : Ending) : Prop :=
  (∃ A n c bl, e = .returned (.tuple #[.slice A n c, .int .i64 er]) ∧ Blks w' A n bl ∧ n ≤ c ∧ FewB n bl ∧ bl.map BV.pr = p ∧ (∀ ad, A = some ad → w.heap.size ≤ ad.block) ∧ NB w bl) ∧ Below w.heap.size w w'
theorem retRefuteX_nil {w w' : World} {er : Int} (hb : Below w.heap.size w w') : RetRefuteX w w' [] er (.returned (.tuple #[.slice none 0 0, .int .i64 er])) :=
  ⟨⟨none, 0, 0, [], rfl, ⟨⟨rfl, rfl, fun h => absurd h (by omega)⟩, fun y h => by cases h⟩, Nat.le_refl _, ⟨by omega, fun y h => by cases h⟩, rfl, (fun ad e => (by cases e)), (fun y h => (by cases h))⟩, hb⟩

set_option maxRecDepth 100000 in
set_option maxHeartbeats 16000000 in
theorem refute32X (x : Cs) (w : World) (hx : CsAt w x) :
    Calls Tryz.prog 22 #[.agg #[.int .i64 x.nd, .slice x.A x.n x.c], .slice x.SA x.sn x.sc, .slice x.B x.m x.d] w fun e w' => RetRefuteX w w' ((K.refute x.nd x.l x.ss x.r).1.map fun b => ((b.1 : Int), b.2)) (K.refute x.nd x.l x.ss x.r).2 e := by
  have hN := Net.new w x.nd x.A x.n x.c
  have p0 := hN.c0
  have p1 := hN.c1
  have b0 : Below w.heap.size w (w.alloc (.cells #[.int .i64 x.nd, .slice x.A x.n x.c] 24)) := (Below.refl _ _).alloc (Nat.le_refl _) _
  have CP := plan32_any x _ (hx.below b0)
  go_enter Tryz.func22, Tryz.ntmps22
  go_wp2_with fail
  refine CP.mono ?_
  obtain ⟨ce, hce⟩ : ∃ ce, ce = (K.plan x.nd x.l x.ss x.r).2 := ⟨_, rfl⟩
  rintro e w1 ⟨⟨PA, pn, pc, pl, rfl, -, -, -⟩, b1⟩
  rw [← hce]
  have hN1 := hN.below b1
  have hb1 := bel b0 b1
  clear p0 p1 b0 b1 hN CP
  by_cases hz : ce = 0
  · have HX := Lib.hid (show K.refute x.nd x.l x.ss x.r = ([], 7) from K.refute_zero (by rw [← hce]; exact hz))
    have hd : (ce == 0) = true := by simp [hz]
    have hd2 : decide (ce = 0) = true := by simp [hz]
    clear hce hz
    go_wp2_with fail
    go_ret2
    rw [HX.out]
    exact retRefuteX_nil hb1
  by_cases hz4 : ce = 4
  rotate_left
  · have HX := Lib.hid (show K.refute x.nd x.l x.ss x.r = ([], ce) by rw [hce] at hz hz4 ⊢; exact K.refute_other hz hz4)
    have hd : (ce == 0) = false := by simp [hz]
    have hd2 : (ce == 4) = false := by simp [hz4]
    clear hce hz hz4
    go_wp2_with fail
    go_ret2
    rw [HX.out]
    exact retRefuteX_nil hb1
  subst hz4
  have HR := Lib.hid (K.refute_four hce.symm)
  have HOK := Lib.hid (K.plan_four hce.symm)
  clear hce hz
  have p0 := hN1.c0
  have p1 := hN1.c1
  go_wp2_with fail
  refine (start32_any x _ (hx.below hb1) HOK.out).mono ?_
  rintro e w2 ⟨b, mb, gb, rfl, hp2⟩
  have hm6 : x.m ≤ 6 := by rw [hx.reqs.1]; exact (K.pcheck_ok HOK.out).2.2.2.2
  have hsn4 : x.sn ≤ 4 := by rw [hx.shifts.1.1]; exact (K.pcheck_ok HOK.out).2.1
  have HSN := Lib.hid hx.shifts.1.1
  have HRN := Lib.hid hx.reqs.1
  obtain ⟨shs, hshs⟩ : ∃ shs, shs = List.replicate x.sn (⟨none, 0, 0, []⟩ : Sh) := ⟨_, rfl⟩
  rw [← hshs] at hp2
  obtain ⟨G0, hG0⟩ : ∃ G0, G0 = w.heap.size := ⟨_, rfl⟩
  rw [← hG0] at hN1
  rw [← hG0]
  obtain ⟨B1, hB1⟩ : ∃ B1, B1 = w2.heap.size := ⟨_, rfl⟩
  have hWB := Lib.hid (show w.heap.size ≤ B1 by rw [hB1]; exact Nat.le_trans hb1.size hp2.bw.size)
  clear p0 p1 hshs hG0
  go_wp2_with fail
  go_loopw [11, 38] (fun v11 v38 wr => ∃ (s : Nat) (bl : List BV), v38 = .int .i64 s ∧ s ≤ x.sn ∧ wr.ownsRow B1 90 3 v11 bl.length (bl.flatMap BV.cells) ∧ BlOk wr v11 bl ∧ NB w bl ∧ PlAt w1 wr b mb gb x (fun g => v11.ownBlock = some g) shs ∧ B1 ≤ wr.heap.size ∧ bl.length ≤ 1000 * s ∧ Hid (bl.map BV.pr = K.blksUpto x.nd x.l x.ss x.r s)) (fun _ v38 _ => x.sn - (intOf v38).toNat)
  case atStart => exact ⟨0, [], rfl, Nat.zero_le _, World.ownsRow_nil _ _ _ _, fun y hy => (by cases hy), fun y hy => (by cases hy), hp2.turn (fun g h => (by cases h)), by rw [hB1]; exact Nat.le_refl _, Nat.zero_le _, rfl⟩
  case round =>
    clear hp2 hB1
    obtain ⟨s, bl, rfl, hs, hown, hbo, hnb, hp, hBr, hbl, hcl⟩ := hrel
    by_cases hlt : s < x.sn
    · obtain ⟨sS, hsS⟩ : ∃ sS, x.ss[s]? = some sS := ⟨_, List.getElem?_eq_getElem (by rw [← HSN.out]; exact hlt)⟩
      have j0 : decide ((s : Int) < (x.sn : Int)) = true := by simp; omega
      have HSS := Lib.hid hsS
      clear hsS
      obtain ⟨ws, hws⟩ : ∃ ws, ws = wr := ⟨_, rfl⟩
      rw [← hws] at hown hbo hp hBr
      rw [← hws]
      clear hws
      obtain ⟨BS, hBS⟩ : ∃ BS, BS = ws.heap.size := ⟨_, rfl⟩
      obtain ⟨FE, hFE⟩ : ∃ FE, FE = K.feas x.nd x.l x.ss x.r s := ⟨_, rfl⟩
      have HFE := Lib.hid hFE
      clear hFE
      go_wp2_with fail
      go_loopw [13, 43] (fun v13 v43 wi => ∃ (k : Nat) (own : List Sh), v43 = .int .i64 k ∧ k ≤ x.m ∧ wi.ownsRow BS 48 1 v13 own.length (own.map Sh.val) ∧ RowOk wi v13 own ∧ NewL BS own ∧ (∀ y ∈ own, y.n ≤ 6) ∧ PlAt w1 wi b mb gb x (fun g => u11.ownBlock = some g ∨ v13.ownBlock = some g) shs ∧ ws.grownBy wi (some mb) ∧ own.length ≤ 64 * k ∧ Hid (own.map Sh.l = A.ownGo FE [] (A.upto x.m k))) (fun _ v43 _ => x.m - (intOf v43).toNat)
      case atStart => exact ⟨0, [], rfl, Nat.zero_le _, World.ownsRow_nil _ _ _ _, fun y hy => (by cases hy), fun y hy => (by cases hy), fun y hy => (by cases hy), hp.turn (fun g h => h.elim .inl fun e => (by cases e)), ⟨rfl, rfl, rfl, Nat.le_refl _, fun _ _ _ => rfl⟩, Nat.zero_le _, rfl⟩
      case round =>
        obtain ⟨k, own, rfl, hk, hownO, hroO, hnwO, h6O, hpO, hgO, hlO, hcO⟩ := hrel
        obtain ⟨wk, hwk⟩ : ∃ wk, wk = wr := ⟨_, rfl⟩
        rw [← hwk] at hownO hroO hpO hgO
        rw [← hwk]
        clear hwk
        by_cases hkm : k < x.m
        · have k0 : decide ((k : Int) < (x.m : Int)) = true := by simp; omega
          obtain ⟨kk, hkk⟩ : ∃ kk, kk = k + 1 := ⟨_, rfl⟩
          have ks : IntKind.i64.wrap ((k : Int) + 1) = (kk : Int) := by rw [IntWalk.i64_in _ (by omega)]; omega
          have CS := sets35_any x.m hm6 kk 0 wk (by omega) (by omega)
          rw [show ((0 : Nat) : Int) = 0 from rfl] at CS
          have HKK := Lib.hid hkk
          have hDl : (A.combos x.m kk 0).length ≤ 64 := A.combos_few hm6 (by omega) (by omega)
          obtain ⟨D, hD⟩ : ∃ D, D = A.combos x.m kk 0 := ⟨_, rfl⟩
          rw [← hD] at CS hDl
          have HD := Lib.hid hD
          clear hkk hD
          go_wp2_with fail
          refine CS.mono ?_
          rintro e wl ⟨⟨E, m, c, l, rfl, hSl, hmc, hlD, hEn, hln⟩, bl2⟩
          have hml : m ≤ 64 := by rw [hSl.1.1, ← List.length_map (f := Sh.l), hlD]; exact hDl
          have hl6 : ∀ t ∈ l, t.n ≤ 6 ∧ t.l.Pairwise (· < ·) ∧ ∀ i ∈ t.l, 0 ≤ i ∧ i < (x.m : Int) := fun t ht => by
            have h9 : t.l ∈ A.combos x.m kk 0 := by rw [← HD.out, ← hlD]; exact List.mem_map_of_mem ht
            obtain ⟨h1, h2, h3⟩ := A.mem_combos.1 h9
            have h4 := (hSl.2 t ht).1.1
            have := HKK.out
            exact ⟨by omega, h2, fun i hi => by have := h3 i hi; omega⟩
          have hoffE : OffRow E m u13 := fun _ ad e e2 => by
            have h1 := (own_in hownO _ e2).2
            have h2 := hEn ad e
            omega
          have hroE : RowOk wl u13 l := fun t ht => ⟨hSl.2 t ht, fun h0 ad e e2 => by
            have h1 := (own_in hownO _ e2).2
            have h2 := hln t ht h0 ad e
            omega⟩
          have hownL := own_below hownO bl2
          have hroL := hroO.below bl2
          have hpL := hpO.below bl2
          have hgL : ws.grownBy wl (some mb) := hgO.andThen (row' := none) ⟨bl2.os, bl2.tape, bl2.output, bl2.size, fun q hq _ => bl2.block q hq⟩ (fun _ e => by cases e)
          have hnE : NewL BS l := hln.mono (by rw [hBS]; exact hgO.size)
          clear CS hownO hroO hpO hgO hEn hln bl2
          go_wp2_with fail
          go_loopw [13, 52] (fun v13 v52 wj => ∃ (j : Nat) (own' : List Sh), v52 = .int .i64 j ∧ j ≤ m ∧ Mid w1 ws wj b mb gb x shs u11 v13 BS own' E m l ∧ NewL BS own' ∧ (∀ y ∈ own', y.n ≤ 6) ∧ own'.length ≤ own.length + j ∧ Hid (own'.map Sh.l = A.ownGo FE [] (A.upto x.m k ++ (l.take j).map Sh.l))) (fun _ v52 _ => m - (intOf v52).toNat)
          case atStart => exact ⟨0, own, rfl, Nat.zero_le _, ⟨hownL, hroL, hpL, hgL, hSl, hoffE, hroE⟩, hnwO, h6O, Nat.le_refl _, by show _ = _; rw [List.take_zero, List.map_nil, List.append_nil]; exact hcO.out⟩
          case round =>
            clear hownL hroL hnwO h6O hpL hgL hoffE hroE hSl
            obtain ⟨j, own', rfl, hj, M, hnwI, h6I, hlI, hcI⟩ := hrel
            by_cases hjm : j < m
            · obtain ⟨E2, c2, rfl, hS2, hc2, -⟩ := own_shs M.row rfl M.ok
              obtain ⟨ad, t, rfl, hg, ⟨hI, hsc, hs0⟩, hc⟩ := M.sh.at_ hjm
              obtain ⟨wj, hwj⟩ : ∃ wj, wj = wr := ⟨_, rfl⟩
              rw [← hwj] at M hS2 hI hc
              rw [← hwj]
              clear hwj
              have j0 : decide ((j : Int) < (m : Int)) = true := by simp; omega
              have js : IntKind.i64.wrap ((j : Int) + 1) = ((j + 1 : Nat) : Int) := by rw [IntWalk.i64_in _ (by omega)]; omega
              have htm := List.mem_of_getElem? hg
              obtain ⟨h6, hso, hbd⟩ := hl6 t htm
              have hbd' : ∀ i ∈ t.l, 0 ≤ i ∧ i < (x.r.length : Int) := fun i hi => by have := hbd i hi; have := HRN.out; omega
              have bA : Below wj.heap.size wj (wj.alloc (.cells #[.slice t.A t.n t.c] 48)) := (Below.refl _ _).alloc (Nat.le_refl _) _
              have hG := heap_alloc_new wj (.cells #[.slice t.A t.n t.c] 48)
              have CC := contains36_any wj.heap.size E2 own'.length c2 own' t.A t.n t.c t.l (wj.alloc (.cells #[.slice t.A t.n t.c] 48)) (hS2.below bA) (by omega) hG (fun y hy => by have := h6I y hy; omega) (hI.below bA) (by omega)
              have HTM := Lib.hid htm
              have HSB := Lib.hid (And.intro hso hbd')
              have HG := Lib.hid hg
              have HLI := Lib.hid hlI
              have htk : (l.take (j + 1)).map Sh.l = (l.take j).map Sh.l ++ [t.l] := by rw [List.take_add_one, hg, List.map_append]; rfl
              have HTK := Lib.hid htk
              have hxsz : ∀ g, (u11.ownBlock = some g ∨ (Value.slice E2 own'.length c2).ownBlock = some g) → g < wj.heap.size := fun g e => e.elim (fun e => by have h1 := (own_in hown g e).2; have h2 := M.gr.size; omega) (fun e => (own_in M.row g e).2)
              have HXS := Lib.hid hxsz
              clear hg hlI htm hso hbd hbd' htk hxsz
              go_wp2_with fail
              refine CC.mono ?_
              rintro e wc ⟨rfl, bc⟩
              have M1 := (M.below bA).below bc
              have hG1 := blk_below bc hG
              have hI1 := (hI.below bA).below bc
              have bAC := bel bA bc
              have cG := blk_cell hG1 0 _ rfl
              clear CC M hG hI bA bc hS2 hc
              obtain ⟨z, hz⟩ : ∃ z, z = (own'.map Sh.l).any fun u => A.part u t.l := ⟨_, rfl⟩
              rw [← hz]
              have HZ := Lib.hid hz
              clear hz
              cases z with
              | true =>
                have HN := Lib.hid (A.ownGo_no (ok := FE) (own := []) (L := A.upto x.m k ++ (l.take j).map Sh.l) (v := t.l) (.inl (by rw [← hcI.out]; exact HZ.out.symm)))
                go_wp2_with fail
                go_roundw
                case rel => exact ⟨j + 1, own', by go_num, by omega, M1, hnwI, h6I, by have := HLI.out; omega, by show _ = _; rw [HTK.out, ← List.append_assoc, HN.out]; exact hcI.out⟩
                case measure => simp [intOf]; omega
              | false =>
                have CB := best32_any w1 b mb gb x shs s sS t.A t.n t.c t.l wc M1.pl (fun g e => Nat.lt_of_lt_of_le (HXS.out g e) bAC.size) HSS.out hI1 hsc HSB.out.1 HSB.out.2
                have hfe : FE t.l = (K.best x.nd x.l sS x.r t.l).isSome := by
                  rw [HFE.out, Bool.eq_iff_iff, K.feas_iff M1.pl.ok HSB.out.1 HSB.out.2, Option.isSome_iff_exists]
                  exact ⟨fun ⟨s2, t2, e1, e2⟩ => by rw [HSS.out] at e1; injection e1 with e1; subst e1; exact ⟨t2, e2⟩, fun ⟨t2, e2⟩ => ⟨sS, t2, HSS.out, e2⟩⟩
                obtain ⟨T, hT⟩ : ∃ T, T = K.best x.nd x.l sS x.r t.l := ⟨_, rfl⟩
                rw [← hT] at CB hfe
                have HFT := Lib.hid hfe
                clear hT hfe
                go_wp2_with fail
                refine CB.mono ?_
                rintro e wb ⟨⟨u', rfl, hTA⟩, hgb, hpb⟩
                have hGb := (M1.pl.memo.ext hgb).cells _ _ _ _ hG1
                have M2 := M1.best hgb hpb
                have cGb := blk_cell hGb 0 _ rfl
                clear CB hgb hpb M1 hG1 hI1 cG bAC
                cases T with
                | some bt =>
                  obtain ⟨g, A8, n8, c8, A7, n7, c7, rfl, -⟩ := hTA
                  have HN := Lib.hid (A.ownGo_no (ok := FE) (own := []) (L := A.upto x.m k ++ (l.take j).map Sh.l) (v := t.l) (.inr HFT.out))
                  go_wp2_with fail
                  go_roundw
                  case rel => exact ⟨j + 1, own', by go_num, by omega, M2, hnwI, h6I, by have := HLI.out; omega, by show _ = _; rw [HTK.out, ← List.append_assoc, HN.out]; exact hcI.out⟩
                  case measure => simp [intOf]; omega
                | none =>
                  obtain rfl : u' = .pointer none := hTA
                  have HN := Lib.hid (A.ownGo_yes (ok := FE) (own := []) (L := A.upto x.m k ++ (l.take j).map Sh.l) (v := t.l) (by rw [← hcI.out]; exact HZ.out.symm) HFT.out)
                  have hbs : BS ≤ wb.heap.size := by have h2 := M2.gr.size; omega
                  have bD : Below wb.heap.size wb (wb.alloc (.cells #[.slice t.A t.n t.c] 48)) := (Below.refl _ _).alloc (Nat.le_refl _) _
                  have M3 := M2.below bD
                  have hbs2 := Nat.le_trans hbs bD.size
                  have hln : own'.length ≤ 1000000 := by have := HLI.out; omega
                  clear M2 hGb
                  go_wp2_with (at_builtin; refine app_shs rfl (.tmp 67) (.tmp 69) rfl BS (.slice E2 own'.length c2) own'.length own' rfl M3.row wb.heap.size t rfl (heap_alloc_new wb _) hln hbs2 ?_; intro v' w6 hown6 hgrow6 hat6)
                  have M4 := M3.app HTM.out hgrow6 hat6 hown6 hBS
                  clear M3 hown6 hgrow6 hat6 bD cGb
                  go_roundw
                  case rel => exact ⟨j + 1, own' ++ [t], by go_num, by omega, M4, hnwI.snoc (hnE t HTM.out), fun y hy => (List.mem_append.1 hy).elim (h6I y) (fun hy => by rw [List.mem_singleton] at hy; rw [hy]; exact h6), by rw [List.length_append]; have := HLI.out; simp; omega, by show _ = _; rw [HTK.out, ← List.append_assoc, HN.out, List.map_append, hcI.out]; rfl⟩
                  case measure => simp [intOf]; omega
            · have j0 : decide ((j : Int) < (m : Int)) = false := by simp; omega
              have hjm2 : l.take j = l := List.take_of_length_le (by have := M.sh.1.1; omega)
              have HE := Lib.hid (show own'.map Sh.l = A.ownGo FE [] (A.upto x.m kk) by rw [hcI.out, hjm2, hlD, HD.out, HKK.out, A.upto_succ])
              have HLI := Lib.hid hlI
              clear hjm2 hlI
              go_wp2_with fail
              go_roundw
              case rel => exact ⟨kk, own', rfl, by rw [HKK.out]; omega, M.row, M.ok, hnwI, h6I, M.pl, M.gr, by have := HLI.out; have := HKK.out; omega, HE.out⟩
              case measure => simp [intOf]; have := HKK.out; omega
        · have k0 : decide ((k : Int) < (x.m : Int)) = false := by simp; omega
          have hkm2 : k = x.m := by omega
          have HOWN := Lib.hid (show own.map Sh.l = A.own FE x.m by rw [hcO.out, hkm2]; rfl)
          obtain ⟨E, c, rfl, hSE, hnc, hEn⟩ := own_shs hownO rfl hroO
          clear hkm2
          have F0 : Fin4 w1 wk b mb gb x shs u11 B1 bl E own.length own := ⟨hown.kept hgO (.inr fun e => (hp.away mb e).2.2.1 rfl), hbo.ext (hp.memo.ext hgO), hpO.turn (fun g h => .inl (.inl h)), hSE, fun h0 ad e e2 => (by have h1 := (own_in hown _ e2).2; have h2 := hEn ad e; omega), fun t ht => ⟨(hroO t ht).1, fun h0 ad e e2 => (by have h1 := (own_in hown _ e2).2; have h2 := hnwO t ht h0 ad e; omega)⟩⟩
          have hB1k : B1 ≤ wk.heap.size := by have := hgO.size; omega
          have hol : own.length ≤ 384 := by omega
          have HNW := Lib.hid (show NewL w.heap.size own from hnwO.mono (by rw [hBS]; exact Nat.le_trans hWB.out hBr))
          clear hown hbo hp hownO hroO hpO hgO hSE hEn hnwO hcO hBr
          go_wp2_with fail
          clear k0
          go_loopw [11, 75] (fun v11 v75 wf => ∃ (j : Nat) (bl' : List BV), v75 = .int .i64 j ∧ j ≤ own.length ∧ Fin4 w1 wf b mb gb x shs v11 B1 bl' E own.length own ∧ NB w bl' ∧ B1 ≤ wf.heap.size ∧ bl'.length = bl.length + j ∧ Hid (bl'.map BV.pr = bl.map BV.pr ++ (own.take j).map fun t => ((s : Int), t.l, K.labs x.nd x.l sS x.r t.l))) (fun _ v75 _ => own.length - (intOf v75).toNat)
          case atStart => exact ⟨0, bl, rfl, Nat.zero_le _, F0, hnb, hB1k, rfl, by show _ = _; rw [List.take_zero, List.map_nil, List.append_nil]⟩
          case round =>
            clear F0 hB1k
            obtain ⟨j, bl', rfl, hj, F, hnf, hBf, hlb, hcb⟩ := hrel
            obtain ⟨wf, hwf⟩ : ∃ wf, wf = wr := ⟨_, rfl⟩
            rw [← hwf] at F hBf
            rw [← hwf]
            clear hwf
            by_cases hjn : j < own.length
            · obtain ⟨adE, t, rfl, hg, ⟨hI, hsc, hs0⟩, hc⟩ := F.sh.at_ hjn
              obtain ⟨ads, s2, hSA, hs2, -, s0, s1, s2', s3, s4, s5⟩ := F.pl.case.shifts.at_ hlt
              rw [HSS.out] at hs2
              injection hs2 with hs2
              subst hs2
              rw [hSA]
              have hAt : At wf (x.one sS) := F.pl.one (List.mem_of_getElem? HSS.out)
              have SP : ∀ w8 : World, Below w1.heap.size w1 w8 → (fun w' : World => w'.cell? ⟨G0, 0, none⟩ = some (.int .i64 x.nd) ∧ w'.cell? ⟨G0, 1, none⟩ = some (.slice x.A x.n x.c) ∧ w'.cell? (ads.add (s * 6)) = some (.int .i64 sS.day) ∧ w'.cell? ⟨(ads.add (s * 6)).block, (ads.add (s * 6)).off + 1, none⟩ = some (.int .i64 sS.depot) ∧ w'.cell? ⟨(ads.add (s * 6)).block, (ads.add (s * 6)).off + 2, none⟩ = some (.int .i64 sS.start) ∧ w'.cell? ⟨(ads.add (s * 6)).block, (ads.add (s * 6)).off + 3, none⟩ = some (.int .i64 sS.end_) ∧ w'.cell? ⟨(ads.add (s * 6)).block, (ads.add (s * 6)).off + 4, none⟩ = some (.int .i64 sS.tare) ∧ w'.cell? ⟨(ads.add (s * 6)).block, (ads.add (s * 6)).off + 5, none⟩ = some (.slice sS.A sS.n sS.c)) w8 := fun w8 hb => ⟨(hN1.below hb).c0, (hN1.below hb).c1, (hb.cell (cell_lt s0)).trans s0, (hb.cell (cell_lt s1)).trans s1, (hb.cell (cell_lt s2')).trans s2', (hb.cell (cell_lt s3)).trans s3, (hb.cell (cell_lt s4)).trans s4, (hb.cell (cell_lt s5)).trans s5⟩
              have S0 := SP wf F.pl.bw
              have S0d := SP wf.drew (bel F.pl.bw (Below.refl _ _).drew)
              have hbdr : Below wf.heap.size wf wf.drew := (Below.refl _ _).drew
              have j0 : decide ((j : Int) < (own.length : Int)) = true := by simp; omega
              have js : IntKind.i64.wrap ((j : Int) + 1) = ((j + 1 : Nat) : Int) := by rw [IntWalk.i64_in _ (by omega)]; omega
              have htm := List.mem_of_getElem? hg
              have h6 := h6O t htm
              have htk : (own.take (j + 1)).map (fun t => ((s : Int), t.l, K.labs x.nd x.l sS x.r t.l)) = (own.take j).map (fun t => ((s : Int), t.l, K.labs x.nd x.l sS x.r t.l)) ++ [((s : Int), t.l, K.labs x.nd x.l sS x.r t.l)] := by rw [List.take_add_one, hg, List.map_append]; rfl
              have HTK := Lib.hid htk
              have HLB := Lib.hid hlb
              have HSA := Lib.hid hSA
              have hofft : OffRow t.A t.n u11 := fun h0 ad e => (F.lk t htm).2 h0 ad e
              clear hg htk hlb hSA s0 s1 s2' s3 s4 s5
              go_upto_region 26 with fail
              have k0 : (0 : Int) ≤ (s : Int) := by omega
              have k1 : (s : Int) < (x.sn : Int) := by omega
              have h69 : t.n ≤ 1000000000 := by omega
              have hvl : t.l.length ≤ 6 := by rw [← hI.1]; exact h6
              have hln : bl'.length ≤ 1000000 := by have := HLB.out; omega
              go_region_held3 (fun w' : World => w'.cell? ⟨G0, 0, none⟩ = some (.int .i64 x.nd) ∧ w'.cell? ⟨G0, 1, none⟩ = some (.slice x.A x.n x.c) ∧ w'.cell? (ads.add (s * 6)) = some (.int .i64 sS.day) ∧ w'.cell? ⟨(ads.add (s * 6)).block, (ads.add (s * 6)).off + 1, none⟩ = some (.int .i64 sS.depot) ∧ w'.cell? ⟨(ads.add (s * 6)).block, (ads.add (s * 6)).off + 2, none⟩ = some (.int .i64 sS.start) ∧ w'.cell? ⟨(ads.add (s * 6)).block, (ads.add (s * 6)).off + 3, none⟩ = some (.int .i64 sS.end_) ∧ w'.cell? ⟨(ads.add (s * 6)).block, (ads.add (s * 6)).off + 4, none⟩ = some (.int .i64 sS.tare) ∧ w'.cell? ⟨(ads.add (s * 6)).block, (ads.add (s * 6)).off + 5, none⟩ = some (.slice sS.A sS.n sS.c))
                (first | with_reducible exact S10 | with_reducible exact S9a | with_reducible exact S9 | with_reducible exact S0d | with_reducible exact S0 | fail)
                (first
                  | (go_at_call 78; refine (labels39_new (x.one sS) t.A t.n t.c t.l _ (hAt.below hbdr) (hI.below hbdr) hsc h69).mono ?_; rintro e w9 ⟨⟨LA, ln, lc, rfl, hL9, hLn9⟩, b9⟩; have F9 := F.below (bel hbdr b9); have hB9 : B1 ≤ w9.heap.size := Nat.le_trans hBf (bel hbdr b9).size; have a9 : Below w9.heap.size w9 (w9.alloc (.cells #[.int .i64 (s : Int), .slice t.A t.n t.c, .slice LA ln lc] 90)) := (Below.refl _ _).alloc (Nat.le_refl _) _; have S9 := SP w9 F9.pl.bw; have S9a := SP _ (F9.below a9).pl.bw; have hoL : OffRow LA ln u11 := fun h0 ad e e2 => (by have h1 := (own_in F.row _ e2).2; have h2 := hLn9 ad e; have h3 := hbdr.size; omega); have hll : ln ≤ 384 := (by have h1 := hL9.1; have h2 : (K.labs x.nd x.l sS x.r t.l).length ≤ 384 := K.labs_len6 hvl; have h3 : ln = (K.labs x.nd x.l sS x.r t.l).length := h1; omega))
                  | (refine step_app_blk rfl (.tmp 79) (.tmp 91) rfl F9.row hB9 rfl w9.heap.size ⟨s, t.A, t.n, t.c, t.l, LA, ln, lc, K.labs x.nd x.l sS x.r t.l⟩ rfl a9 (heap_alloc_new w9 _) hln ?_; intro v' w10 hown10 hgrow10 hat10; have F10 := (F9.below a9).app ⟨⟨(hI.below (bel hbdr b9)).below a9, Lst.below hL9 a9⟩, hofft, hoL, hsc, h6, hll⟩ hgrow10 hat10 hown10; have S10 := SP w10 F10.pl.bw)
                  | fail)
              have hB10 : B1 ≤ w10.heap.size := by have h1 := hgrow10.size; have h2 := a9.size; omega
              have hnf2 : NB w (bl' ++ [(⟨s, t.A, t.n, t.c, t.l, LA, ln, lc, K.labs x.nd x.l sS x.r t.l⟩ : BV)]) := hnf.snoc (fun h0 ad e => HNW.out t htm h0 ad e) (fun _ ad e => by have h1 := hLn9 ad e; have h2 := F.pl.bw.size; have h3 := hb1.size; have h4 := hbdr.size; omega)
              clear F F9 S0 S0d S9 S9a S10 SP hL9 hLn9 a9 b9 hown10 hgrow10 hat10 hbdr hAt hc hI
              go_wp2_with fail
              go_roundw
              case rel => exact ⟨j + 1, bl' ++ [⟨s, t.A, t.n, t.c, t.l, LA, ln, lc, K.labs x.nd x.l sS x.r t.l⟩], by go_num, by omega, F10, hnf2, hB10, by rw [List.length_append, HLB.out]; simp; omega, by show _ = _; rw [HTK.out, ← List.append_assoc, ← hcb.out, List.map_append]; rfl⟩
              case measure => simp [intOf]; omega
            · have j0 : decide ((j : Int) < (own.length : Int)) = false := by simp; omega
              have ks : IntKind.i64.wrap ((s : Int) + 1) = ((s + 1 : Nat) : Int) := by rw [IntWalk.i64_in _ (by omega)]; omega
              have hjn2 : own.take j = own := List.take_of_length_le (by omega)
              have HNX := Lib.hid (show bl'.map BV.pr = K.blksUpto x.nd x.l x.ss x.r (s + 1) by
                rw [K.blksUpto_succ, ← hcl.out, hcb.out, hjn2, ← HRN.out, ← HFE.out, ← HOWN.out, List.map_map]
                congr 1
                refine List.map_congr_left fun t _ => ?_
                show _ = ((s : Int), t.l, _)
                rw [HSS.out])
              have HLB := Lib.hid hlb
              clear hjn2 hlb
              go_wp2_with fail
              go_roundw
              case rel => exact ⟨s + 1, bl', by go_num, hlt, F.row, F.ok, hnf, F.pl, hBf, by have := HLB.out; omega, HNX.out⟩
              case measure => simp [intOf]; omega
    · have hse : s = x.ss.length := by have := HSN.out; omega
      have j0 : decide ((s : Int) < (x.sn : Int)) = false := by simp; omega
      obtain ⟨A9, c9, rfl, hRd, hF9⟩ := own_form hown
      have hnc9 : bl.length ≤ c9 := by
        obtain ⟨-, ⟨e, e0⟩ | ⟨g', cap, cur, e, -, -, h9, -⟩⟩ := hown
        · rw [e0]; exact Nat.zero_le _
        · injection e with e1 e2 e3; rw [e3]; exact h9
      have HB := Lib.hid (show bl.map BV.pr = (K.refute x.nd x.l x.ss x.r).1.map fun b => ((b.1 : Int), b.2) by rw [HR.out, K.blksUpto_all, ← hse]; exact hcl.out)
      have HX := Lib.hid (show (K.refute x.nd x.l x.ss x.r).2 = 0 by rw [HR.out])
      have hbn : bl.length ≤ 1000000000 := by omega
      clear hse hown
      go_wp2_with fail
      go_ret2
      rw [HX.out]
      exact ⟨⟨A9, bl.length, c9, bl, rfl, ⟨⟨rfl, hRd⟩, fun y hy => (hbo y hy).1⟩, hnc9, ⟨hbn, fun y hy => by obtain ⟨-, -, -, h1, h2, h3⟩ := hbo y hy; exact ⟨h1, by omega, by omega⟩⟩, HB.out, fun ad e => Nat.le_trans hWB.out (hF9 _ (by rw [e]; rfl)).1, hnb⟩, bel hb1 hp.bw⟩
end Go.Proofs.YtippdjmpkafifaaGreat

/-
Promises: answers and books in memory; the walk of promise.Ask.
-/
namespace Go.Proofs.YtippdjmpkafifaaGreat
open Go.RowKit
namespace K
section
variable {nd : Int} {l : List Ro} {ss : List S} {r : List Q} {x : Q}
theorem small33_step (k m : Nat) : small33 nd l ss r x (k + 1) m = (find33 nd l ss r x [] m 0).or (small33 nd l ss r x k (m + 1)) := by
  rw [small33]
  cases find33 nd l ss r x [] m 0 <;> rfl
theorem ask_refused (h1 : ¬ ((plan nd l ss r).2 ≠ 0 ∨ fits33 nd x = false)) (h2 : ¬ 6 ≤ r.length) (h3 : (plan nd l ss (r ++ [x])).2 ≠ 0) : (plan nd l ss (r ++ [x])).2 = 4 ∧ ∃ v, small33 nd l ss r x (r.length + 1) 0 = some v ∧ ask33 nd l ss r x = (some r, ⟨false, [], v, (refute nd l ss (pick33 r v x)).1.map fun b => ((b.1 : Int), b.2)⟩, 0) := by
  rcases ask_cases (nd := nd) (l := l) (ss := ss) (r := r) (x := x) with ⟨e, g1, g2⟩ | ⟨-, ⟨g4, -⟩ | ⟨g4, v, g5, g6⟩⟩
  · exfalso
    unfold ask33 at g2
    rw [if_neg h1, if_neg h2, if_neg h3] at g2
    split at g2
    · injection g2 with g3; cases g3
    · injection g2 with g3; cases g3
  · exact absurd g4 h3
  · exact ⟨g4, v, g5, g6⟩
end
end K
theorem NQ.mono {B B' : Nat} {L : List Q} (h : NQ B L) (hB : B' ≤ B) : NQ B' L := fun q hq h0 ad e => Nat.le_trans hB (h q hq h0 ad e)
theorem same_sn {w : World} {A : Option Addr} {n : Nat} {L M : List S} (h : Shifts w A n L) {A' : Option Addr} {n' : Nat} {w' : World} (h' : Shifts w' A' n' M) (e : L.map S.bare = M.map S.bare) {N : Nat} (hM : ∀ s ∈ M, s.n ≤ N) : ∀ s ∈ L, s.n ≤ N := fun s hs => by
  have h1 := (h.2 s hs).1
  have h2 : s.bare ∈ M.map S.bare := by rw [← e]; exact List.mem_map.2 ⟨s, hs, rfl⟩
  obtain ⟨s', h3, h4⟩ := List.mem_map.1 h2
  have h5 : s'.l = s.l := show s'.bare.l = s.bare.l by rw [h4]
  have h6 := (h'.2 s' h3).1
  have := hM s' h3
  rw [h5] at h6
  omega
/-- An answer, as the program holds it. -/
structure AV where
  acc : Bool
  PA : Option Addr
  pn : Nat
  pc : Nat
  ts : List TV
  VA : Option Addr
  vn : Nat
  vc : Nat
  v : List Int
  RA : Option Addr
  rn : Nat
  rc : Nat
  bl : List BV
def AV.an (a : AV) : K.An := ⟨a.acc, a.ts.map TV.pr, a.v, a.bl.map BV.pr⟩
structure AvAt (w : World) (a : AV) : Prop where
  t : Tours w a.PA a.pn a.ts
  v : Ints w a.VA a.vn a.v
  b : Blks w a.RA a.rn a.bl
theorem AvAt.below {w w' : World} {a : AV} (h : AvAt w a) (hb : Below w.heap.size w w') : AvAt w' a := ⟨h.t.below hb, h.v.below hb, h.b.below hb⟩
structure AvOk (a : AV) : Prop where
  ft : FewT a.pn a.ts
  fv : a.vn ≤ 1000
  fb : FewB a.rn a.bl
def AV.zero : AV := ⟨false, none, 0, 0, [], none, 0, 0, [], none, 0, 0, []⟩
theorem zero_at (w : World) : AvAt w AV.zero := ⟨⟨⟨rfl, rfl, fun h => absurd h (by decide)⟩, fun y h => (by cases h)⟩, ints_nil w, ⟨⟨rfl, rfl, fun h => absurd h (by decide)⟩, fun y h => (by cases h)⟩⟩
theorem zero_ok : AvOk AV.zero := ⟨⟨by decide, fun y h => (by cases h)⟩, by decide, ⟨by decide, fun y h => (by cases h)⟩⟩
/-- All of an answer lies in blocks from B on. -/
structure AvNew (B : Nat) (a : AV) : Prop where
  p : ∀ ad, a.PA = some ad → B ≤ ad.block
  t : ∀ y ∈ a.ts, (0 < y.n → ∀ ad, y.A = some ad → B ≤ ad.block) ∧ (0 < y.n' → ∀ ad, y.A' = some ad → B ≤ ad.block)
  v : ∀ ad, a.VA = some ad → B ≤ ad.block
  r : ∀ ad, a.RA = some ad → B ≤ ad.block
  b : ∀ y ∈ a.bl, (0 < y.vn → ∀ ad, y.V = some ad → B ≤ ad.block) ∧ (0 < y.ln → ∀ ad, y.LA = some ad → B ≤ ad.block)
theorem zero_new (B : Nat) : AvNew B AV.zero := ⟨fun ad e => (by cases e), fun y h => (by cases h), fun ad e => (by cases e), fun ad e => (by cases e), fun y h => (by cases h)⟩
/-- All of a book lies in blocks from B on. -/
structure BkNew (B : Nat) (x : Cs) : Prop where
  n : 0 < x.n → ∀ ad, x.A = some ad → B ≤ ad.block
  s : ∀ ad, x.SA = some ad → B ≤ ad.block
  r : ∀ s ∈ x.ss, 0 < s.n → ∀ ad, s.A = some ad → B ≤ ad.block
  q : ∀ ad, x.B = some ad → B ≤ ad.block
  w : NQ B x.r
/-- The book x' is what an answer makes of the book x. -/
def BookAt (w : World) (x x' : Cs) (o : Option (List Q)) : Prop := match o with
  | none => x'.m = 0
  | some r => x'.nd = x.nd ∧ x'.l = x.l ∧ x'.n = x.n ∧ x'.sn = x.sn ∧ CsAt w x' ∧ x'.ss.map S.bare = x.ss.map S.bare ∧ x'.r.map Q.bare = r.map Q.bare
/-- What promise.Ask hands back. -/
def RetAsk (w w' : World) (x : Cs) (R : Option (List Q) × K.An × Int) (e : Ending) : Prop :=
  (∃ (x' : Cs) (a : AV), e = .returned (.tuple #[.agg #[.int .i64 x'.nd, .slice x'.A x'.n x'.c, .slice x'.SA x'.sn x'.sc, .slice x'.B x'.m x'.d], .agg #[.bool a.acc, .slice a.PA a.pn a.pc, .slice a.VA a.vn a.vc, .slice a.RA a.rn a.rc], .int .i64 R.2.2]) ∧ AvAt w' a ∧ AvOk a ∧ a.an = R.2.1 ∧ BookAt w' x x' R.1 ∧ AvNew w.heap.size a ∧ BkNew w.heap.size x') ∧ Below w.heap.size w w'
def Cs.zero : Cs := ⟨0, none, 0, 0, [], none, 0, 0, [], none, 0, 0, []⟩
theorem retAsk_zero {w w' : World} {x : Cs} {R : Option (List Q) × K.An × Int} {er : Int} (h : R = (none, K.An.zero, er)) (hb : Below w.heap.size w w') : RetAsk w w' x R (.returned (.tuple #[.agg #[.int .i64 0, .slice none 0 0, .slice none 0 0, .slice none 0 0], .agg #[.bool false, .slice none 0 0, .slice none 0 0, .slice none 0 0], .int .i64 er])) := by
  subst h
  exact ⟨⟨Cs.zero, AV.zero, rfl, zero_at w', zero_ok, rfl, rfl, zero_new _, ⟨fun _ ad e => (by cases e), fun ad e => (by cases e), fun s h => (by cases h), fun ad e => (by cases e), fun q h => (by cases h)⟩⟩, hb⟩
theorem Lst.sets {α : Type} {f : α → List Value} {s : Nat} {w : World} {A : Option Addr} {n : Nat} {l : List α} (h : Lst f s w A n l) (M : List (Addr × Value)) (hM : 0 < n → ∀ ad, A = some ad → ∀ p ∈ M, p.1.block ≠ ad.block) : Lst f s (Sets w M) A n l := ⟨h.1, h.2.sets M hM⟩
theorem Tours.sets {w : World} {A : Option Addr} {n : Nat} {l : List TV} (h : Tours w A n l) (M : List (Addr × Value)) {B : Nat} (hA : ∀ ad, A = some ad → B ≤ ad.block) (hl : ∀ y ∈ l, (0 < y.n → ∀ ad, y.A = some ad → B ≤ ad.block) ∧ (0 < y.n' → ∀ ad, y.A' = some ad → B ≤ ad.block)) (hM : ∀ p ∈ M, p.1.block < B) : Tours (Sets w M) A n l :=
  ⟨Lst.sets h.1 M (fun _ ad e p hp => by have := hA ad e; have := hM p hp; omega), fun y hy => ⟨(h.2 y hy).1.sets M (fun h0 ad e p hp => by have := (hl y hy).1 h0 ad e; have := hM p hp; omega), (h.2 y hy).2.sets M (fun h0 ad e p hp => by have := (hl y hy).2 h0 ad e; have := hM p hp; omega)⟩⟩
theorem Blks.sets {w : World} {A : Option Addr} {n : Nat} {l : List BV} (h : Blks w A n l) (M : List (Addr × Value)) {B : Nat} (hA : ∀ ad, A = some ad → B ≤ ad.block) (hl : ∀ y ∈ l, (0 < y.vn → ∀ ad, y.V = some ad → B ≤ ad.block) ∧ (0 < y.ln → ∀ ad, y.LA = some ad → B ≤ ad.block)) (hM : ∀ p ∈ M, p.1.block < B) : Blks (Sets w M) A n l :=
  ⟨Lst.sets h.1 M (fun _ ad e p hp => by have := hA ad e; have := hM p hp; omega), fun y hy => ⟨(h.2 y hy).1.sets M (fun h0 ad e p hp => by have := (hl y hy).1 h0 ad e; have := hM p hp; omega), Lst.sets (h.2 y hy).2 M (fun h0 ad e p hp => by have := (hl y hy).2 h0 ad e; have := hM p hp; omega)⟩⟩
theorem Shifts.sets {w : World} {A : Option Addr} {n : Nat} {l : List S} (h : Shifts w A n l) (M : List (Addr × Value)) {B : Nat} (hA : ∀ ad, A = some ad → B ≤ ad.block) (hl : ∀ s ∈ l, 0 < s.n → ∀ ad, s.A = some ad → B ≤ ad.block) (hM : ∀ p ∈ M, p.1.block < B) : Shifts (Sets w M) A n l :=
  ⟨Lst.sets h.1 M (fun _ ad e p hp => by have := hA ad e; have := hM p hp; omega), fun y hy => (h.2 y hy).sets M (fun h0 ad e p hp => by have := hl y hy h0 ad e; have := hM p hp; omega)⟩
theorem Reqs.sets {w : World} {A : Option Addr} {n : Nat} {l : List Q} (h : Reqs w A n l) (M : List (Addr × Value)) {B : Nat} (hA : ∀ ad, A = some ad → B ≤ ad.block) (hl : NQ B l) (hM : ∀ p ∈ M, p.1.block < B) : Reqs (Sets w M) A n l :=
  ⟨h.1, h.2.1.sets M (fun _ ad e p hp => by have := hA ad e; have := hM p hp; omega), fun q hq => ⟨(h.2.2 q hq).1, (h.2.2 q hq).2.sets M (fun h0 ad e p hp => by have := hl q hq h0 ad e; have := hM p hp; omega)⟩⟩
theorem Reqs.take {w : World} {A : Option Addr} {n m : Nat} {l : List Q} (h : Reqs w A n l) (hm : m ≤ n) : Reqs w A m (l.take m) := by
  obtain ⟨h1, h2, h3⟩ := h
  refine ⟨by rw [List.length_take]; omega, ?_, fun q hq => h3 q (List.mem_of_mem_take hq)⟩
  refine ⟨by rw [reqCells_len, List.length_take]; rw [Nat.min_eq_left (by omega)], fun h0 => ?_⟩
  obtain ⟨ad, e, hc⟩ := h2.2 (by omega)
  refine ⟨ad, e, fun j u hu => hc j u ?_⟩
  have e2 : reqCells l = reqCells (l.take m) ++ reqCells (l.drop m) := by
    rw [reqCells_flat, reqCells_flat, reqCells_flat, ← List.flatMap_append, List.take_append_drop]
  rw [e2, List.getElem?_append_left (List.getElem?_eq_some_iff.1 hu).1]
  exact hu
theorem NQ.take {B : Nat} {l : List Q} (h : NQ B l) (m : Nat) : NQ B (l.take m) := fun q hq => h q (List.mem_of_mem_take hq)
set_option maxHeartbeats 2000000 in
theorem set8_blk {w : World} {g h : Nat} {x0 x1 x2 x3 u0 u1 u2 u3 : Value} {t t' : TypeId} (hg : w.heap[g]? = some (.cells #[x0, x1, x2, x3] t (0, 0))) (hh : w.heap[h]? = some (.cells #[u0, u1, u2, u3] t' (0, 0))) (hne : g ≠ h) (y0 y1 y2 y3 z0 z1 z2 z3 : Value) :
    (Sets w [(⟨g, 0, none⟩, y0), (⟨g, 1, none⟩, y1), (⟨g, 2, none⟩, y2), (⟨g, 3, none⟩, y3), (⟨h, 0, none⟩, z0), (⟨h, 1, none⟩, z1), (⟨h, 2, none⟩, z2), (⟨h, 3, none⟩, z3)]).heap[g]? = some (.cells #[y0, y1, y2, y3] t (0, 0)) ∧
    (Sets w [(⟨g, 0, none⟩, y0), (⟨g, 1, none⟩, y1), (⟨g, 2, none⟩, y2), (⟨g, 3, none⟩, y3), (⟨h, 0, none⟩, z0), (⟨h, 1, none⟩, z1), (⟨h, 2, none⟩, z2), (⟨h, 3, none⟩, z3)]).heap[h]? = some (.cells #[z0, z1, z2, z3] t' (0, 0)) := by
  obtain ⟨wy, hwy⟩ : ∃ wy, wy = Sets w [(⟨g, 0, none⟩, y0), (⟨g, 1, none⟩, y1), (⟨g, 2, none⟩, y2), (⟨g, 3, none⟩, y3)] := ⟨_, rfl⟩
  have h1 : wy.heap[g]? = some (.cells #[y0, y1, y2, y3] t (0, 0)) := by rw [hwy]; exact set4_blk hg _ _ _ _
  have h2 : wy.heap[h]? = some (.cells #[u0, u1, u2, u3] t' (0, 0)) := by
    rw [hwy]
    exact (Sets.other _ w h (fun p hp => by rw [set4_in hp]; exact hne)).trans hh
  have e : Sets w [(⟨g, 0, none⟩, y0), (⟨g, 1, none⟩, y1), (⟨g, 2, none⟩, y2), (⟨g, 3, none⟩, y3), (⟨h, 0, none⟩, z0), (⟨h, 1, none⟩, z1), (⟨h, 2, none⟩, z2), (⟨h, 3, none⟩, z3)] = Sets wy [(⟨h, 0, none⟩, z0), (⟨h, 1, none⟩, z1), (⟨h, 2, none⟩, z2), (⟨h, 3, none⟩, z3)] := by rw [hwy]; simp only [Sets]
  rw [e]
  exact ⟨(Sets.other _ wy g (fun p hp => by rw [set4_in hp]; exact hne.symm)).trans h1, set4_blk h2 _ _ _ _⟩
set_option maxHeartbeats 2000000 in
theorem set8_in {g h : Nat} {y0 y1 y2 y3 z0 z1 z2 z3 : Value} {p : Addr × Value} (hp : p ∈ [((⟨g, 0, none⟩ : Addr), y0), (⟨g, 1, none⟩, y1), (⟨g, 2, none⟩, y2), (⟨g, 3, none⟩, y3), (⟨h, 0, none⟩, z0), (⟨h, 1, none⟩, z1), (⟨h, 2, none⟩, z2), (⟨h, 3, none⟩, z3)]) : p.1.block = g ∨ p.1.block = h := by
  simp only [List.mem_cons, List.not_mem_nil, or_false] at hp
  rcases hp with rfl | rfl | rfl | rfl | rfl | rfl | rfl | rfl
  · exact .inl rfl
  · exact .inl rfl
  · exact .inl rfl
  · exact .inl rfl
  · exact .inr rfl
  · exact .inr rfl
  · exact .inr rfl
  · exact .inr rfl
set_option maxHeartbeats 2000000 in
theorem ask_results (tmps : Array Value) (wz : World) (a b : Nat) (y0 y1 y2 y3 z0 z1 z2 z3 : Value) (er : Int) (h4 : tmps.getD 4 undef = .pointer (some ⟨a, 0, none⟩)) (h5 : tmps.getD 5 undef = .pointer (some ⟨b, 0, none⟩)) (h6 : tmps.getD 6 undef = .int .i64 er)
    (ha : wz.heap[a]? = some (.cells #[y0, y1, y2, y3] 44 (0, 0))) (hb : wz.heap[b]? = some (.cells #[z0, z1, z2, z3] 50 (0, 0))) :
    (results Tryz.f33 tmps).run Tryz.prog wz = .ok (.tuple #[.agg #[y0, y1, y2, y3], .agg #[z0, z1, z2, z3], .int .i64 er]) wz := by
  have c0 := blk_cell ha 0 y0 rfl
  have c1 := blk_cell ha 1 y1 rfl
  have c2 := blk_cell ha 2 y2 rfl
  have c3 := blk_cell ha 3 y3 rfl
  have d0 := blk_cell hb 0 z0 rfl
  have d1 := blk_cell hb 1 z1 rfl
  have d2 := blk_cell hb 2 z2 rfl
  have d3 := blk_cell hb 3 z3 rfl
  rw [results_cells2_tmp (fn := Tryz.f33) rfl, h4, h5, h6]
  simp [go_sem, c0, c1, c2, c3, d0, d1, d2, d3]

set_option maxRecDepth 100000 in
set_option maxHeartbeats 32000000 in
theorem ask_any (x : Cs) (q : Q) (w : World) (hx : Ok33 w x q) (hxn : x.n ≤ 1000000) (hxs : x.sn ≤ 1000000) (hxr : ∀ s ∈ x.ss, s.n ≤ 1000000) :
    Calls Tryz.prog 33 #[.agg #[.int .i64 x.nd, .slice x.A x.n x.c, .slice x.SA x.sn x.sc, .slice x.B x.m x.d], .agg #[.int .i64 q.node, .int .i64 q.room, .int .i64 q.kilos, .int .i64 q.service, .int .i64 q.frm, .int .i64 q.by_, .slice q.A q.n q.c]] w fun e w' => RetAsk w w' x (K.ask33 x.nd x.l x.ss x.r q) e := by
  obtain ⟨w0, hw0⟩ : ∃ w0 : World, w0 = w.alloc (.cells #[.int .i64 x.nd, .slice x.A x.n x.c, .slice x.SA x.sn x.sc, .slice x.B x.m x.d] 44) := ⟨_, rfl⟩
  have z0 : w0.heap.size = w.heap.size + 1 := by rw [hw0]; exact World.size_alloc _ _
  have b0 : Below w.heap.size w w0 := by rw [hw0]; exact (Below.refl _ _).alloc (Nat.le_refl _) _
  have hN0 : BkBlk w0 w.heap.size x := by rw [hw0]; exact BkBlk.new _ _
  obtain ⟨w1, hw1⟩ : ∃ w1 : World, w1 = w0.alloc (.cells #[.int .i64 q.node, .int .i64 q.room, .int .i64 q.kilos, .int .i64 q.service, .int .i64 q.frm, .int .i64 q.by_, .slice q.A q.n q.c] 47) := ⟨_, rfl⟩
  have z1 : w1.heap.size = w.heap.size + 1 + 1 := by rw [hw1, World.size_alloc, z0]
  have b1 : Below w0.heap.size w0 w1 := by rw [hw1]; exact (Below.refl _ _).alloc (Nat.le_refl _) _
  have hB1 : QBlk w1 (w.heap.size + 1) q := by rw [hw1, ← z0]; exact QBlk.new _ _
  obtain ⟨w2, hw2⟩ : ∃ w2 : World, w2 = w1.alloc (.cells #[.int .i64 0, .slice none 0 0, .slice none 0 0, .slice none 0 0] 44) := ⟨_, rfl⟩
  have z2 : w2.heap.size = w.heap.size + 1 + 1 + 1 := by rw [hw2, World.size_alloc, z1]
  have b2 : Below w1.heap.size w1 w2 := by rw [hw2]; exact (Below.refl _ _).alloc (Nat.le_refl _) _
  have hA2 : w2.heap[w.heap.size + 1 + 1]? = some (.cells #[.int .i64 0, .slice none 0 0, .slice none 0 0, .slice none 0 0] 44 (0, 0)) := by rw [hw2, ← z1]; exact heap_alloc_new _ _
  obtain ⟨w3, hw3⟩ : ∃ w3 : World, w3 = w2.alloc (.cells #[.bool false, .slice none 0 0, .slice none 0 0, .slice none 0 0] 50) := ⟨_, rfl⟩
  have z3 : w3.heap.size = w.heap.size + 1 + 1 + 1 + 1 := by rw [hw3, World.size_alloc, z2]
  have b3 : Below w2.heap.size w2 w3 := by rw [hw3]; exact (Below.refl _ _).alloc (Nat.le_refl _) _
  have hA3 : w3.heap[w.heap.size + 1 + 1 + 1]? = some (.cells #[.bool false, .slice none 0 0, .slice none 0 0, .slice none 0 0] 50 (0, 0)) := by rw [hw3, ← z2]; exact heap_alloc_new _ _
  have b23 := bel b2 b3
  have b13 := bel b1 b23
  have hb3 := bel b0 b13
  have h03 := hb3.size
  have HMK := Lib.hid (show ∀ w', Below w3.heap.size w3 w' → (fun w' : World => w'.cell? ⟨w.heap.size, 0, none⟩ = some (.int .i64 x.nd) ∧ w'.cell? ⟨w.heap.size, 1, none⟩ = some (.slice x.A x.n x.c) ∧ w'.cell? ⟨w.heap.size, 2, none⟩ = some (.slice x.SA x.sn x.sc) ∧ w'.cell? ⟨w.heap.size, 3, none⟩ = some (.slice x.B x.m x.d) ∧ w'.cell? ⟨w.heap.size + 1, 0, none⟩ = some (.int .i64 q.node) ∧ w'.cell? ⟨w.heap.size + 1, 1, none⟩ = some (.int .i64 q.room) ∧ w'.cell? ⟨w.heap.size + 1, 2, none⟩ = some (.int .i64 q.kilos) ∧ w'.cell? ⟨w.heap.size + 1, 3, none⟩ = some (.int .i64 q.service) ∧ w'.cell? ⟨w.heap.size + 1, 4, none⟩ = some (.int .i64 q.frm) ∧ w'.cell? ⟨w.heap.size + 1, 5, none⟩ = some (.int .i64 q.by_) ∧ w'.cell? ⟨w.heap.size + 1, 6, none⟩ = some (.slice q.A q.n q.c)) w' from fun w' h => BQ.mk' ((hN0.below b13).below h) ((hB1.below b23).below h))
  have HZA := Lib.hid (show ∀ w', Below w3.heap.size w3 w' → w'.heap[w.heap.size + 1 + 1]? = some (.cells #[.int .i64 0, .slice none 0 0, .slice none 0 0, .slice none 0 0] 44 (0, 0)) ∧ w'.heap[w.heap.size + 1 + 1 + 1]? = some (.cells #[.bool false, .slice none 0 0, .slice none 0 0, .slice none 0 0] 50 (0, 0)) from fun w' h => ⟨blk_below h (blk_below b3 hA2), blk_below h hA3⟩)
  have hx3 := hx.below hb3
  have HRN := Lib.hid hx.cs.reqs.1
  have hm9 := hx.m
  have CP := plan32_any x w3 hx3.cs
  obtain ⟨R, hR⟩ : ∃ R, R = K.ask33 x.nd x.l x.ss x.r q := ⟨_, rfl⟩
  have HR := Lib.hid hR
  obtain ⟨e1, he1⟩ : ∃ e1, e1 = (K.plan x.nd x.l x.ss x.r).2 := ⟨_, rfl⟩
  have HE1 := Lib.hid he1
  obtain ⟨p0, p1, p2, p3, c0, c1, c2, c3, c4, c5, c6⟩ := HMK.out w3 (Below.refl _ _)
  rw [← hR]
  go_enter Tryz.func33, Tryz.ntmps33
  rw [hw3, hw2, hw1, hw0] at p0 p1 p2 p3
  go_wp2_with fail
  rw [← hw0, ← hw1, ← hw2, ← hw3]
  clear hw0 hw1 hw2 hw3 z0 z1 z2 b0 b1 b2 b3 b23 b13 hN0 hB1 hA2 hA3 p0 p1 p2 p3 c0 c1 c2 c3 c4 c5 c6 hR
  refine CP.mono ?_
  rintro e w4 ⟨⟨PA, pn, pc, pl, rfl, -, -, -⟩, b4⟩
  rw [← he1]
  clear CP he1
  have hb4 := bel hb3 b4
  by_cases h1 : e1 = 0
  rotate_left
  · have HX := Lib.hid (show R = (none, K.An.zero, 1) by rw [HR.out]; unfold K.ask33; rw [if_pos (.inl (by rw [← HE1.out]; exact h1))])
    have d1 : (e1 != 0) = true := by simp [bne, h1]
    obtain ⟨hz2, hz3⟩ := HZA.out w4 b4
    have f2 := blk_free hz2
    have f3 := blk_free hz3
    have y0 := blk_cell hz2 0 _ rfl
    have y1 := blk_cell hz2 1 _ rfl
    have y2 := blk_cell hz2 2 _ rfl
    have y3 := blk_cell hz2 3 _ rfl
    have v0 := blk_cell hz3 0 _ rfl
    have v1 := blk_cell hz3 1 _ rfl
    have v2 := blk_cell hz3 2 _ rfl
    have v3 := blk_cell hz3 3 _ rfl
    go_wp2_with fail
    obtain ⟨Ms, hMs⟩ : ∃ Ms : List (Addr × Value), Ms = [(⟨w.heap.size + 1 + 1, 0, none⟩, .int .i64 0), (⟨w.heap.size + 1 + 1, 1, none⟩, .slice none 0 0), (⟨w.heap.size + 1 + 1, 2, none⟩, .slice none 0 0), (⟨w.heap.size + 1 + 1, 3, none⟩, .slice none 0 0), (⟨w.heap.size + 1 + 1 + 1, 0, none⟩, .bool false), (⟨w.heap.size + 1 + 1 + 1, 1, none⟩, .slice none 0 0), (⟨w.heap.size + 1 + 1 + 1, 2, none⟩, .slice none 0 0), (⟨w.heap.size + 1 + 1 + 1, 3, none⟩, .slice none 0 0)] := ⟨_, rfl⟩
    have hMb : ∀ p ∈ Ms, p.1.block = w.heap.size + 1 + 1 ∨ p.1.block = w.heap.size + 1 + 1 + 1 := fun p hp => by rw [hMs] at hp; exact set8_in hp
    obtain ⟨wz, hwz⟩ : ∃ wz, wz = Sets w4 Ms := ⟨_, rfl⟩
    have hS8 := set8_blk hz2 hz3 (by omega) (.int .i64 0) (.slice none 0 0) (.slice none 0 0) (.slice none 0 0) (.bool false) (.slice none 0 0) (.slice none 0 0) (.slice none 0 0)
    rw [← hMs, ← hwz] at hS8
    have hbz : Below w.heap.size w wz := by rw [hwz]; exact hb4.trans (Sets.below Ms _ _ (Below.refl _ _) (fun p hp => by rcases hMb p hp with e | e <;> rw [e] <;> omega))
    have hwz2 := hwz
    simp only [hMs, Sets] at hwz2
    rw [← hwz2]
    refine bodyPost_ret_by (v := .tuple #[.agg #[.int .i64 0, .slice none 0 0, .slice none 0 0, .slice none 0 0], .agg #[.bool false, .slice none 0 0, .slice none 0 0, .slice none 0 0], .int .i64 1]) (ask_results _ wz (w.heap.size + 1 + 1) (w.heap.size + 1 + 1 + 1) (.int .i64 0) (.slice none 0 0) (.slice none 0 0) (.slice none 0 0) (.bool false) (.slice none 0 0) (.slice none 0 0) (.slice none 0 0) 1 rfl rfl rfl hS8.1 hS8.2) rfl ?_
    exact retAsk_zero HX.out hbz
  have d1 : (e1 != 0) = false := by simp [h1]
  have d0 : decide (e1 = 0) = true := by simp [h1]
  obtain ⟨p0, p1, p2, p3, c0, c1, c2, c3, c4, c5, c6⟩ := HMK.out _ b4

  have CF := fits94_any x.nd x.A x.n x.c q w4 (hx3.below b4).req (by have := hx.q; omega)
  obtain ⟨z, hz⟩ : ∃ z, z = K.fits33 x.nd q := ⟨_, rfl⟩
  rw [← hz] at CF
  have HZ := Lib.hid hz
  clear hz
  go_wp2_with fail
  refine CF.mono ?_
  rintro e w5 ⟨rfl, b5⟩
  clear CF d0 d1
  clear p0 p1 p2 p3 c0 c1 c2 c3 c4 c5 c6

  have b45 := bel b4 b5
  have hb5 := bel hb3 b45
  cases z
  · have HX := Lib.hid (show R = (none, K.An.zero, 1) by rw [HR.out]; unfold K.ask33; rw [if_pos (.inr HZ.out.symm)])
    obtain ⟨hz2, hz3⟩ := HZA.out _ b45
    have f2 := blk_free hz2
    have f3 := blk_free hz3
    have y0 := blk_cell hz2 0 _ rfl
    have y1 := blk_cell hz2 1 _ rfl
    have y2 := blk_cell hz2 2 _ rfl
    have y3 := blk_cell hz2 3 _ rfl
    have v0 := blk_cell hz3 0 _ rfl
    have v1 := blk_cell hz3 1 _ rfl
    have v2 := blk_cell hz3 2 _ rfl
    have v3 := blk_cell hz3 3 _ rfl

    go_wp2_with fail
    obtain ⟨Ms, hMs⟩ : ∃ Ms : List (Addr × Value), Ms = [(⟨w.heap.size + 1 + 1, 0, none⟩, .int .i64 0), (⟨w.heap.size + 1 + 1, 1, none⟩, .slice none 0 0), (⟨w.heap.size + 1 + 1, 2, none⟩, .slice none 0 0), (⟨w.heap.size + 1 + 1, 3, none⟩, .slice none 0 0), (⟨w.heap.size + 1 + 1 + 1, 0, none⟩, .bool false), (⟨w.heap.size + 1 + 1 + 1, 1, none⟩, .slice none 0 0), (⟨w.heap.size + 1 + 1 + 1, 2, none⟩, .slice none 0 0), (⟨w.heap.size + 1 + 1 + 1, 3, none⟩, .slice none 0 0)] := ⟨_, rfl⟩
    have hMb : ∀ p ∈ Ms, p.1.block = w.heap.size + 1 + 1 ∨ p.1.block = w.heap.size + 1 + 1 + 1 := fun p hp => by rw [hMs] at hp; exact set8_in hp
    obtain ⟨wz, hwz⟩ : ∃ wz, wz = Sets w5 Ms := ⟨_, rfl⟩
    have hS8 := set8_blk hz2 hz3 (by omega) (.int .i64 0) (.slice none 0 0) (.slice none 0 0) (.slice none 0 0) (.bool false) (.slice none 0 0) (.slice none 0 0) (.slice none 0 0)
    rw [← hMs, ← hwz] at hS8
    have hbz : Below w.heap.size w wz := by rw [hwz]; exact hb5.trans (Sets.below Ms _ _ (Below.refl _ _) (fun p hp => by rcases hMb p hp with e | e <;> rw [e] <;> omega))
    have hwz2 := hwz
    simp only [hMs, Sets] at hwz2
    rw [← hwz2]
    refine bodyPost_ret_by (v := .tuple #[.agg #[.int .i64 0, .slice none 0 0, .slice none 0 0, .slice none 0 0], .agg #[.bool false, .slice none 0 0, .slice none 0 0, .slice none 0 0], .int .i64 1]) (ask_results _ wz (w.heap.size + 1 + 1) (w.heap.size + 1 + 1 + 1) (.int .i64 0) (.slice none 0 0) (.slice none 0 0) (.slice none 0 0) (.bool false) (.slice none 0 0) (.slice none 0 0) (.slice none 0 0) 1 rfl rfl rfl hS8.1 hS8.2) rfl ?_
    exact retAsk_zero HX.out hbz

  have HP0 := Lib.hid (show (K.plan x.nd x.l x.ss x.r).2 = 0 by rw [← HE1.out]; exact h1)
  have HNE := Lib.hid (show ¬ ((K.plan x.nd x.l x.ss x.r).2 ≠ 0 ∨ K.fits33 x.nd q = false) from fun h => h.elim (fun h => h HP0.out) (fun h => by rw [← HZ.out] at h; cases h))
  by_cases h6 : 6 ≤ x.m
  · have HX := Lib.hid (show R = (none, K.An.zero, 6) by rw [HR.out]; unfold K.ask33; rw [if_neg HNE.out, if_pos (by rw [← HRN.out]; exact h6)])
    have d1 : decide ((6 : Int) ≤ (x.m : Int)) = true := by simp; omega
    have d2 : decide (6 ≤ x.m) = true := by simp; omega
    obtain ⟨p0, p1, p2, p3, c0, c1, c2, c3, c4, c5, c6⟩ := HMK.out _ b45
    obtain ⟨hz2, hz3⟩ := HZA.out _ b45
    have f2 := blk_free hz2
    have f3 := blk_free hz3
    have y0 := blk_cell hz2 0 _ rfl
    have y1 := blk_cell hz2 1 _ rfl
    have y2 := blk_cell hz2 2 _ rfl
    have y3 := blk_cell hz2 3 _ rfl
    have v0 := blk_cell hz3 0 _ rfl
    have v1 := blk_cell hz3 1 _ rfl
    have v2 := blk_cell hz3 2 _ rfl
    have v3 := blk_cell hz3 3 _ rfl

    go_wp2_with fail
    obtain ⟨Ms, hMs⟩ : ∃ Ms : List (Addr × Value), Ms = [(⟨w.heap.size + 1 + 1, 0, none⟩, .int .i64 0), (⟨w.heap.size + 1 + 1, 1, none⟩, .slice none 0 0), (⟨w.heap.size + 1 + 1, 2, none⟩, .slice none 0 0), (⟨w.heap.size + 1 + 1, 3, none⟩, .slice none 0 0), (⟨w.heap.size + 1 + 1 + 1, 0, none⟩, .bool false), (⟨w.heap.size + 1 + 1 + 1, 1, none⟩, .slice none 0 0), (⟨w.heap.size + 1 + 1 + 1, 2, none⟩, .slice none 0 0), (⟨w.heap.size + 1 + 1 + 1, 3, none⟩, .slice none 0 0)] := ⟨_, rfl⟩
    have hMb : ∀ p ∈ Ms, p.1.block = w.heap.size + 1 + 1 ∨ p.1.block = w.heap.size + 1 + 1 + 1 := fun p hp => by rw [hMs] at hp; exact set8_in hp
    obtain ⟨wz, hwz⟩ : ∃ wz, wz = Sets w5 Ms := ⟨_, rfl⟩
    have hS8 := set8_blk hz2 hz3 (by omega) (.int .i64 0) (.slice none 0 0) (.slice none 0 0) (.slice none 0 0) (.bool false) (.slice none 0 0) (.slice none 0 0) (.slice none 0 0)
    rw [← hMs, ← hwz] at hS8
    have hbz : Below w.heap.size w wz := by rw [hwz]; exact hb5.trans (Sets.below Ms _ _ (Below.refl _ _) (fun p hp => by rcases hMb p hp with e | e <;> rw [e] <;> omega))
    have hwz2 := hwz
    simp only [hMs, Sets] at hwz2
    rw [← hwz2]
    refine bodyPost_ret_by (v := .tuple #[.agg #[.int .i64 0, .slice none 0 0, .slice none 0 0, .slice none 0 0], .agg #[.bool false, .slice none 0 0, .slice none 0 0, .slice none 0 0], .int .i64 6]) (ask_results _ wz (w.heap.size + 1 + 1) (w.heap.size + 1 + 1 + 1) (.int .i64 0) (.slice none 0 0) (.slice none 0 0) (.slice none 0 0) (.bool false) (.slice none 0 0) (.slice none 0 0) (.slice none 0 0) 6 rfl rfl rfl hS8.1 hS8.2) rfl ?_
    exact retAsk_zero HX.out hbz

  have d1 : decide ((6 : Int) ≤ (x.m : Int)) = false := by simp; omega
  have d2 : decide (6 ≤ x.m) = false := by simp; omega
  obtain ⟨p0, p1, p2, p3, c0, c1, c2, c3, c4, c5, c6⟩ := HMK.out _ b45

  have hbd : Below w5.heap.size w5 w5.drew := (Below.refl _ _).drew
  have b5d := bel b45 hbd
  have S0 := HMK.out _ b45
  have S0d := HMK.out _ b5d
  have hx5 := hx3.below b5d
  have HIO := Lib.hid (show ∀ i ∈ K.iota x.m, 0 ≤ i ∧ i < (x.r.length : Int) from fun i hi => by have := K.mem_iota.1 hi; have := HRN.out; omega)
  go_upto_region 6 with fail
  clear d1 d2
  clear p0 p1 p2 p3 c0 c1 c2 c3 c4 c5 c6

  go_region_held3 (fun w' : World => w'.cell? ⟨w.heap.size, 0, none⟩ = some (.int .i64 x.nd) ∧ w'.cell? ⟨w.heap.size, 1, none⟩ = some (.slice x.A x.n x.c) ∧ w'.cell? ⟨w.heap.size, 2, none⟩ = some (.slice x.SA x.sn x.sc) ∧ w'.cell? ⟨w.heap.size, 3, none⟩ = some (.slice x.B x.m x.d) ∧ w'.cell? ⟨w.heap.size + 1, 0, none⟩ = some (.int .i64 q.node) ∧ w'.cell? ⟨w.heap.size + 1, 1, none⟩ = some (.int .i64 q.room) ∧ w'.cell? ⟨w.heap.size + 1, 2, none⟩ = some (.int .i64 q.kilos) ∧ w'.cell? ⟨w.heap.size + 1, 3, none⟩ = some (.int .i64 q.service) ∧ w'.cell? ⟨w.heap.size + 1, 4, none⟩ = some (.int .i64 q.frm) ∧ w'.cell? ⟨w.heap.size + 1, 5, none⟩ = some (.int .i64 q.by_) ∧ w'.cell? ⟨w.heap.size + 1, 6, none⟩ = some (.slice q.A q.n q.c))
    (first | with_reducible exact S2 | with_reducible exact S1 | with_reducible exact S0d | with_reducible exact S0 | fail)
    (first
      | (go_at_call 96; refine (numbers_any x.m _ (by omega)).mono ?_; rintro e w6 ⟨⟨V6, k6, rfl, hI6⟩, b6⟩; have b6r := bel b5d b6; have S1 := HMK.out _ b6r)
      | (go_at_call 95; refine (with_any x.B x.m x.d x.r V6 x.m k6 (K.iota x.m) q _ (hx5.below b6).cs.reqs hI6 HIO.out (hx5.below b6).req hx.qs hx.q (by omega)).mono ?_; rintro e w7 ⟨⟨A7, k7, L7, rfl, hL7, hLb, hk7, hA7, hN7⟩, b7⟩; have b7r := bel b6r b7; have S2 := HMK.out _ b7r)
      | fail)
  have hb7 := bel hb3 b7r
  have hx7 := hx3.below b7r
  have HLB := Lib.hid (show L7.map Q.bare = (x.r ++ [q]).map Q.bare by rw [hLb, HRN.out, K.pick_iota])
  have hcs7 : CsAt w7 (x.with_ A7 (x.m + 1) k7 L7) := hx5.case (bel b6 b7) hL7 hLb (by omega)
  have CP := plan32X (x.with_ A7 (x.m + 1) k7 L7) w7 hcs7
  obtain ⟨P, hP⟩ : ∃ P, P = K.plan x.nd x.l x.ss (x.r ++ [q]) := ⟨_, rfl⟩
  have HP := Lib.hid hP
  rw [show K.plan (x.with_ A7 (x.m + 1) k7 L7).nd (x.with_ A7 (x.m + 1) k7 L7).l (x.with_ A7 (x.m + 1) k7 L7).ss (x.with_ A7 (x.m + 1) k7 L7).r = P by rw [hP]; exact K.plan_same HLB.out rfl] at CP
  have h67 := b6r.size
  have hA7' : ∀ ad, A7 = some ad → w3.heap.size ≤ ad.block := fun ad e => Nat.le_trans h67 (hA7 ad e)
  have hN7' := hN7.mono h67
  obtain ⟨p0, p1, p2, p3, -⟩ := S2
  have HQN := Lib.hid (show ∀ p ∈ L7, p.n ≤ 1000000000 from hcs7.b5)
  clear hP S0 S0d S1 hbd b5d hI6 hLb hA7 hN7 h67 hcs7
  go_wp2_with fail
  refine CP.mono ?_
  rintro e w8 ⟨⟨PB, bn, bc, pb, rfl, hT8, hpc8, hpl8, hPA8, hNT8⟩, b8⟩
  clear CP p0 p1 p2 p3
  have b8r := bel b7r b8
  have hb8 := bel hb3 b8r
  have hL8 := hL7.below b8
  have hx8 := hx3.below b8r
  have h78 := b7r.size
  by_cases h2 : P.2 = 0
  · have d1 : (P.2 == 0) = true := by simp [h2]
    have d2 : decide (P.2 = 0) = true := by simp [h2]
    have HX := Lib.hid (show R = (some (x.r ++ [q]), ⟨true, P.1.map fun t => ((t.1 : Int), t.2), [], []⟩, 0) by rw [HR.out]; unfold K.ask33; rw [if_neg HNE.out, if_neg (by rw [← HRN.out]; exact h6), if_pos (by rw [← HP.out]; exact h2), HP.out])
    have HCH := Lib.hid (show K.checks x.nd x.l x.ss (x.r ++ [q]) (P.1.map fun t => ((t.1 : Int), t.2)) = 0 by rw [HP.out] at h2 ⊢; exact K.plan_checks h2)
    obtain ⟨p0, p1, p2, p3, c0, c1, c2, c3, c4, c5, c6⟩ := HMK.out _ b8r

    go_wp2_with fail
    refine (book_any x A7 (x.m + 1) k7 w8 hx8.cs.net hx8.cs.shifts hxn hxs hxr).mono ?_
    rintro e w9 ⟨⟨RA, rc, SA, sc, ss', rfl, hR9, hS9, hsb, hRn, hSn, hrn⟩, b9⟩
    have b9r := bel b8r b9
    have hb9 := bel hb3 b9r
    have h89 := b8r.size
    clear p0 p1 p2 p3 c0 c1 c2 c3 c4 c5 c6 d1 d2
    obtain ⟨hz2, hz3⟩ := HZA.out _ b9r
    have f2 := blk_free hz2
    have f3 := blk_free hz3
    have y0 := blk_cell hz2 0 _ rfl
    have y1 := blk_cell hz2 1 _ rfl
    have y2 := blk_cell hz2 2 _ rfl
    have y3 := blk_cell hz2 3 _ rfl
    have v0 := blk_cell hz3 0 _ rfl
    have v1 := blk_cell hz3 1 _ rfl
    have v2 := blk_cell hz3 2 _ rfl
    have v3 := blk_cell hz3 3 _ rfl

    go_wp2_with fail
    obtain ⟨Ms, hMs⟩ : ∃ Ms : List (Addr × Value), Ms = [(⟨w.heap.size + 1 + 1, 0, none⟩, .int .i64 x.nd), (⟨w.heap.size + 1 + 1, 1, none⟩, .slice RA x.n rc), (⟨w.heap.size + 1 + 1, 2, none⟩, .slice SA x.sn sc), (⟨w.heap.size + 1 + 1, 3, none⟩, .slice A7 (x.m + 1) k7), (⟨w.heap.size + 1 + 1 + 1, 0, none⟩, .bool true), (⟨w.heap.size + 1 + 1 + 1, 1, none⟩, .slice PB bn bc), (⟨w.heap.size + 1 + 1 + 1, 2, none⟩, .slice none 0 0), (⟨w.heap.size + 1 + 1 + 1, 3, none⟩, .slice none 0 0)] := ⟨_, rfl⟩
    have hMb : ∀ p ∈ Ms, p.1.block = w.heap.size + 1 + 1 ∨ p.1.block = w.heap.size + 1 + 1 + 1 := fun p hp => by rw [hMs] at hp; exact set8_in hp
    obtain ⟨wz, hwz⟩ : ∃ wz, wz = Sets w9 Ms := ⟨_, rfl⟩
    have hS8 := set8_blk hz2 hz3 (by omega) (.int .i64 x.nd) (.slice RA x.n rc) (.slice SA x.sn sc) (.slice A7 (x.m + 1) k7) (.bool true) (.slice PB bn bc) (.slice none 0 0) (.slice none 0 0)
    rw [← hMs, ← hwz] at hS8
    have hbz : Below w.heap.size w wz := by rw [hwz]; exact hb9.trans (Sets.below Ms _ _ (Below.refl _ _) (fun p hp => by rcases hMb p hp with e | e <;> rw [e] <;> omega))
    have hM3 : ∀ p ∈ Ms, p.1.block < w3.heap.size := fun p hp => by rcases hMb p hp with e | e <;> rw [e] <;> omega
    have hTz : Tours wz PB bn pb := by rw [hwz]; exact (hT8.below b9).sets Ms (B := w3.heap.size) (fun ad e => Nat.le_trans h78 (hPA8 ad e)) (fun y hy => ⟨fun h0 ad e => Nat.le_trans h78 ((hNT8 y hy).1 h0 ad e), fun h0 ad e => Nat.le_trans h78 ((hNT8 y hy).2 h0 ad e)⟩) hM3
    have hRz : Roads wz RA x.n x.l := by rw [hwz]; exact Lst.sets hR9 Ms (fun h0 ad e p hp => by have h1 := hRn h0 ad e; have h2 := hM3 p hp; omega)
    have hSz : Shifts wz SA x.sn ss' := by rw [hwz]; exact hS9.sets Ms (B := w3.heap.size) (fun ad e => Nat.le_trans h89 (hSn ad e)) (fun s hs h0 ad e => Nat.le_trans h89 (hrn s hs h0 ad e)) hM3
    have hQz : Reqs wz A7 (x.m + 1) L7 := by rw [hwz]; exact (hL8.below b9).sets Ms (B := w3.heap.size) hA7' hN7' hM3
    have hwz2 := hwz
    simp only [hMs, Sets] at hwz2
    rw [← hwz2]
    refine bodyPost_ret_by (v := .tuple #[.agg #[.int .i64 x.nd, .slice RA x.n rc, .slice SA x.sn sc, .slice A7 (x.m + 1) k7], .agg #[.bool true, .slice PB bn bc, .slice none 0 0, .slice none 0 0], .int .i64 0]) (ask_results _ wz (w.heap.size + 1 + 1) (w.heap.size + 1 + 1 + 1) (.int .i64 x.nd) (.slice RA x.n rc) (.slice SA x.sn sc) (.slice A7 (x.m + 1) k7) (.bool true) (.slice PB bn bc) (.slice none 0 0) (.slice none 0 0) 0 rfl rfl rfl hS8.1 hS8.2) rfl ?_
    have hpl9 : pb.map TV.pr = P.1.map (fun t => ((t.1 : Int), t.2)) := hpl8
    have hft : FewT bn pb := fewT_of hTz (by have h9 := K.checks_few HCH.out; rw [← hpl9] at h9; rw [List.length_map] at h9; exact h9)
    refine ⟨⟨⟨x.nd, RA, x.n, rc, x.l, SA, x.sn, sc, ss', A7, x.m + 1, k7, L7⟩, ⟨true, PB, bn, bc, pb, none, 0, 0, [], none, 0, 0, []⟩, by rw [HX.out], ⟨hTz, ints_nil _, (zero_at wz).b⟩, ⟨hft, Nat.zero_le _, zero_ok.fb⟩, ?_, ?_, ⟨fun ad e => Nat.le_trans h03 (Nat.le_trans h78 (hPA8 ad e)), fun y hy => ⟨fun h0 ad e => Nat.le_trans h03 (Nat.le_trans h78 ((hNT8 y hy).1 h0 ad e)), fun h0 ad e => Nat.le_trans h03 (Nat.le_trans h78 ((hNT8 y hy).2 h0 ad e))⟩, (zero_new _).v, (zero_new _).r, (zero_new _).b⟩, ⟨fun h0 ad e => Nat.le_trans h03 (Nat.le_trans h89 (hRn h0 ad e)), fun ad e => Nat.le_trans h03 (Nat.le_trans h89 (hSn ad e)), fun s hs h0 ad e => Nat.le_trans h03 (Nat.le_trans h89 (hrn s hs h0 ad e)), fun ad e => Nat.le_trans h03 (hA7' ad e), hN7'.mono h03⟩⟩, hbz⟩
    · rw [HX.out]
      unfold AV.an
      dsimp only
      rw [hpl9]
      rfl
    · rw [HX.out]
      exact ⟨rfl, rfl, rfl, rfl, ⟨hRz, hSz, hQz, (show x.n ≤ 1000000000 by omega), fun s hs => by have := same_sn hS9 hx8.cs.shifts hsb hxr s hs; omega, (show x.sn ≤ 1000000000 by omega), (show x.m + 1 ≤ 1000000000 by omega), HQN.out⟩, hsb, HLB.out⟩

  obtain ⟨h4, v0, hsm0, hask⟩ := K.ask_refused HNE.out (by rw [← HRN.out]; exact h6) (by rw [← HP.out]; exact h2)
  have HX := Lib.hid (show R = (some x.r, ⟨false, [], v0, (K.refute x.nd x.l x.ss (K.pick33 x.r v0 q)).1.map fun b => ((b.1 : Int), b.2)⟩, 0) by rw [HR.out]; exact hask)
  have d1 : (P.2 == 0) = false := by simp [h2]
  have d2 : decide (P.2 = 0) = false := by simp [h2]
  have HS0 := Lib.hid hsm0
  clear hsm0 hask h4
  go_wp2_with fail
  clear d1 d2
  go_loopw [12] (fun v12 wr => ∃ k : Nat, v12 = .int .i64 k ∧ k ≤ x.m + 1 ∧ Hid (K.small33 x.nd x.l x.ss x.r q (x.m + 1 - k) k = some v0) ∧ Below w8.heap.size w8 wr) (fun v12 _ => x.m + 1 - (intOf v12).toNat)
  case atStart => exact ⟨0, rfl, Nat.zero_le _, by show _ = _; rw [Nat.sub_zero, HRN.out]; exact HS0.out, Below.refl _ _⟩
  case round =>
    obtain ⟨k, rfl, hk, hsm, hbr⟩ := hrel
    by_cases hlt : k ≤ x.m
    rotate_left
    · exfalso
      have h9 := hsm.out
      rw [show x.m + 1 - k = 0 by omega] at h9
      cases h9
    have d1 : decide ((k : Int) ≤ (x.m : Int)) = true := by simp; omega
    have d2 : decide (k ≤ x.m) = true := by simp; omega
    have b8w := bel b8r hbr
    obtain ⟨p0, p1, p2, p3, c0, c1, c2, c3, c4, c5, c6⟩ := HMK.out _ b8w

    have CFd := find_any x q w3.heap.size k 0 none 0 0 [] wr (hx3.below b8w) (ints_nil _) (fun i hi => (by cases hi)) (by omega) (Nat.zero_le _) b8w.size (fun ad e => (by cases e))
    rw [show ((0 : Nat) : Int) = 0 from rfl] at CFd
    obtain ⟨o1, ho1⟩ : ∃ o1, o1 = K.find33 x.nd x.l x.ss x.r q [] k 0 := ⟨_, rfl⟩
    rw [← ho1] at CFd
    have HST := Lib.hid (show o1.or (K.small33 x.nd x.l x.ss x.r q (x.m + 1 - (k + 1)) (k + 1)) = some v0 by
      rw [ho1, ← K.small33_step, show x.m + 1 - (k + 1) + 1 = x.m + 1 - k by omega]
      exact hsm.out)
    have HO1 := Lib.hid ho1
    clear ho1 hsm
    go_wp2_with fail
    refine CFd.mono ?_
    rintro e w9 ⟨⟨A9, n9, k9, z9, rfl, hz9, hI9, hF9⟩, b9⟩
    have HZ9 := Lib.hid hz9
    have HI9 := Lib.hid hI9
    have b9r := bel b8w b9
    have hbr9 := bel hbr b9
    clear CFd hz9 hI9 d1 d2
    clear p0 p1 p2 p3 c0 c1 c2 c3 c4 c5 c6

    cases z9
    · have HN := Lib.hid (show K.small33 x.nd x.l x.ss x.r q (x.m + 1 - (k + 1)) (k + 1) = some v0 by
        have h9 := HST.out
        have h8 := HZ9.out
        cases o1 with
        | none => exact h9
        | some v => cases h8)
      go_wp2_with fail
      go_roundw
      case rel => (go_light; exact ⟨k + 1, by go_num, by omega, HN.out, hbr9⟩)
      case measure => (go_light; simp [intOf]; omega)
    · obtain ⟨v, hv⟩ : ∃ v, o1 = some v := by
        have h8 := HZ9.out
        cases o1 with
        | none => cases h8
        | some v => exact ⟨v, rfl⟩
      have hvv : v = v0 := by
        have h9 := HST.out
        rw [hv] at h9
        injection h9
      subst hvv
      have hI := HI9.out v hv
      have hvc : v ∈ A.combos x.r.length k 0 := by
        rw [HO1.out] at hv
        unfold K.find33 at hv
        obtain ⟨u, hu, e⟩ := List.mem_map.1 (List.mem_of_find?_eq_some hv)
        rw [List.nil_append] at e
        rw [← e]
        exact hu
      have hvl := (A.mem_combos.1 hvc).1
      obtain ⟨hva, hvi⟩ := K.combo_in hvc
      have hn9 : n9 ≤ 100 := by have := hI.1; omega
      have HVA := Lib.hid hva
      have HVI := Lib.hid hvi
      clear hv hvc hva hvi HST HO1 HZ9 HI9 hvl
      have hbd : Below w9.heap.size w9 w9.drew := (Below.refl _ _).drew
      have b9d := bel b9r hbd
      have S0 := HMK.out _ b9r
      have S0d := HMK.out _ b9d
      have hx9 := hx3.below b9d
      go_upto_region 15 with fail
      go_region_held3 (fun w' : World => w'.cell? ⟨w.heap.size, 0, none⟩ = some (.int .i64 x.nd) ∧ w'.cell? ⟨w.heap.size, 1, none⟩ = some (.slice x.A x.n x.c) ∧ w'.cell? ⟨w.heap.size, 2, none⟩ = some (.slice x.SA x.sn x.sc) ∧ w'.cell? ⟨w.heap.size, 3, none⟩ = some (.slice x.B x.m x.d) ∧ w'.cell? ⟨w.heap.size + 1, 0, none⟩ = some (.int .i64 q.node) ∧ w'.cell? ⟨w.heap.size + 1, 1, none⟩ = some (.int .i64 q.room) ∧ w'.cell? ⟨w.heap.size + 1, 2, none⟩ = some (.int .i64 q.kilos) ∧ w'.cell? ⟨w.heap.size + 1, 3, none⟩ = some (.int .i64 q.service) ∧ w'.cell? ⟨w.heap.size + 1, 4, none⟩ = some (.int .i64 q.frm) ∧ w'.cell? ⟨w.heap.size + 1, 5, none⟩ = some (.int .i64 q.by_) ∧ w'.cell? ⟨w.heap.size + 1, 6, none⟩ = some (.slice q.A q.n q.c))
        (first | with_reducible exact S2 | with_reducible exact S1 | with_reducible exact S0d | with_reducible exact S0 | fail)
        (first
          | (go_at_call 95; refine (with_any x.B x.m x.d x.r A9 n9 k9 v q _ hx9.cs.reqs (hI.below hbd) HVI.out hx9.req hx.qs hx.q (by omega)).mono ?_; rintro e wa ⟨⟨Aa, ka, La, rfl, hLa, hLab, hka, hAa, hNa⟩, ba⟩; have bar := bel b9d ba; have S1 := HMK.out _ bar)
          | (go_at_call 22; refine (refute32X (x.with_ Aa (n9 + 1) ka La) _ (hx9.case ba hLa hLab (by omega))).mono ?_; rintro e wb ⟨⟨RB, rn, rc, bl, rfl, hBb, hrc, hFB, hbl, hRB, hNB⟩, bb⟩; have bbr := bel bar bb; have S2 := HMK.out _ bbr)
          | fail)
      have HBL := Lib.hid (show bl.map BV.pr = (K.refute x.nd x.l x.ss (K.pick33 x.r v q)).1.map fun b => ((b.1 : Int), b.2) by
        rw [hbl, ← K.refute_same hLab rfl]
        rfl)
      have habr := bar.size
      have hI2 := ((hI.below hbd).below ba).below bb
      have hL2 := (((hL8.below hbr9).below hbd).below ba).below bb
      clear S0 S0d S1 S2 hbd b9d hbl hLa hLab hAa hNa hI ba bb bar
      have hbd : Below wb.heap.size wb wb.drew := (Below.refl _ _).drew
      have bbd := bel bbr hbd
      have S0 := HMK.out _ bbr
      have S0d := HMK.out _ bbd
      have hxb := hx3.below bbd
      have hms : ∀ (W : World) (M : List (Addr × Value)), (∀ p ∈ M, p.1.block = w.heap.size + 1 + 1 ∨ p.1.block = w.heap.size + 1 + 1 + 1) → (fun w' : World => w'.cell? ⟨w.heap.size, 0, none⟩ = some (.int .i64 x.nd) ∧ w'.cell? ⟨w.heap.size, 1, none⟩ = some (.slice x.A x.n x.c) ∧ w'.cell? ⟨w.heap.size, 2, none⟩ = some (.slice x.SA x.sn x.sc) ∧ w'.cell? ⟨w.heap.size, 3, none⟩ = some (.slice x.B x.m x.d) ∧ w'.cell? ⟨w.heap.size + 1, 0, none⟩ = some (.int .i64 q.node) ∧ w'.cell? ⟨w.heap.size + 1, 1, none⟩ = some (.int .i64 q.room) ∧ w'.cell? ⟨w.heap.size + 1, 2, none⟩ = some (.int .i64 q.kilos) ∧ w'.cell? ⟨w.heap.size + 1, 3, none⟩ = some (.int .i64 q.service) ∧ w'.cell? ⟨w.heap.size + 1, 4, none⟩ = some (.int .i64 q.frm) ∧ w'.cell? ⟨w.heap.size + 1, 5, none⟩ = some (.int .i64 q.by_) ∧ w'.cell? ⟨w.heap.size + 1, 6, none⟩ = some (.slice q.A q.n q.c)) W → (fun w' : World => w'.cell? ⟨w.heap.size, 0, none⟩ = some (.int .i64 x.nd) ∧ w'.cell? ⟨w.heap.size, 1, none⟩ = some (.slice x.A x.n x.c) ∧ w'.cell? ⟨w.heap.size, 2, none⟩ = some (.slice x.SA x.sn x.sc) ∧ w'.cell? ⟨w.heap.size, 3, none⟩ = some (.slice x.B x.m x.d) ∧ w'.cell? ⟨w.heap.size + 1, 0, none⟩ = some (.int .i64 q.node) ∧ w'.cell? ⟨w.heap.size + 1, 1, none⟩ = some (.int .i64 q.room) ∧ w'.cell? ⟨w.heap.size + 1, 2, none⟩ = some (.int .i64 q.kilos) ∧ w'.cell? ⟨w.heap.size + 1, 3, none⟩ = some (.int .i64 q.service) ∧ w'.cell? ⟨w.heap.size + 1, 4, none⟩ = some (.int .i64 q.frm) ∧ w'.cell? ⟨w.heap.size + 1, 5, none⟩ = some (.int .i64 q.by_) ∧ w'.cell? ⟨w.heap.size + 1, 6, none⟩ = some (.slice q.A q.n q.c)) (Sets W M) := fun W M hM h => by
        have mv : ∀ (b o : Nat) (u : Value), b < w.heap.size + 1 + 1 → W.cell? ⟨b, o, none⟩ = some u → (Sets W M).cell? ⟨b, o, none⟩ = some u := fun b o u hb hc => (World.cell?_of_block (Sets.other M W _ (fun p hp => by rcases hM p hp with e | e <;> rw [e] <;> (dsimp only; omega)))).trans hc
        obtain ⟨a0, a1, a2, a3, a4, a5, a6, a7, a8, a9, a10⟩ := h
        exact ⟨mv _ _ _ (by omega) a0, mv _ _ _ (by omega) a1, mv _ _ _ (by omega) a2, mv _ _ _ (by omega) a3, mv _ _ _ (by omega) a4, mv _ _ _ (by omega) a5, mv _ _ _ (by omega) a6, mv _ _ _ (by omega) a7, mv _ _ _ (by omega) a8, mv _ _ _ (by omega) a9, mv _ _ _ (by omega) a10⟩
      have HMS := Lib.hid hms
      have i0 : (0 : Int) ≤ (x.m : Int) := by omega
      have hk7' : x.m ≤ k7 := by omega
      have i1 : (x.m : Int) ≤ (k7 : Int) := by omega
      clear hms
      go_upto_region 16 with fail
      go_region_held3 (fun w' : World => w'.cell? ⟨w.heap.size, 0, none⟩ = some (.int .i64 x.nd) ∧ w'.cell? ⟨w.heap.size, 1, none⟩ = some (.slice x.A x.n x.c) ∧ w'.cell? ⟨w.heap.size, 2, none⟩ = some (.slice x.SA x.sn x.sc) ∧ w'.cell? ⟨w.heap.size, 3, none⟩ = some (.slice x.B x.m x.d) ∧ w'.cell? ⟨w.heap.size + 1, 0, none⟩ = some (.int .i64 q.node) ∧ w'.cell? ⟨w.heap.size + 1, 1, none⟩ = some (.int .i64 q.room) ∧ w'.cell? ⟨w.heap.size + 1, 2, none⟩ = some (.int .i64 q.kilos) ∧ w'.cell? ⟨w.heap.size + 1, 3, none⟩ = some (.int .i64 q.service) ∧ w'.cell? ⟨w.heap.size + 1, 4, none⟩ = some (.int .i64 q.frm) ∧ w'.cell? ⟨w.heap.size + 1, 5, none⟩ = some (.int .i64 q.by_) ∧ w'.cell? ⟨w.heap.size + 1, 6, none⟩ = some (.slice q.A q.n q.c))
        (first | with_reducible exact S3 | with_reducible exact S2 | with_reducible exact S1 | with_reducible exact S0d | with_reducible exact S0 | fail)
        (first
          | (go_at_call 97; refine (book_any x A7 x.m k7 _ hxb.cs.net hxb.cs.shifts hxn hxs hxr).mono ?_; rintro e wc ⟨⟨RA, rc', SA, sc, ss', rfl, hRc, hSc, hsb, hRn, hSn, hrn⟩, bc⟩; have bcr := bel bbd bc; have S1 := HMK.out _ bcr; obtain ⟨hz2, hz3⟩ := HZA.out _ bcr; have f2 := blk_free hz2; have f3 := blk_free hz3; have y0 := blk_cell hz2 0 _ rfl; have y1 := blk_cell hz2 1 _ rfl; have y2 := blk_cell hz2 2 _ rfl; have y3 := blk_cell hz2 3 _ rfl; have v0 := blk_cell hz3 0 _ rfl; have v1 := blk_cell hz3 1 _ rfl; have v2 := blk_cell hz3 2 _ rfl; have v3 := blk_cell hz3 3 _ rfl; have S2 := HMS.out wc [((⟨w.heap.size + 1 + 1, 0, none⟩ : Addr), .int .i64 x.nd), ((⟨w.heap.size + 1 + 1, 1, none⟩ : Addr), .slice RA x.n rc'), ((⟨w.heap.size + 1 + 1, 2, none⟩ : Addr), .slice SA x.sn sc), ((⟨w.heap.size + 1 + 1, 3, none⟩ : Addr), .slice A7 x.m k7)] (fun p hp => .inl (set4_in hp)) S1; have S3 := HMS.out wc [(⟨w.heap.size + 1 + 1, 0, none⟩, .int .i64 x.nd), (⟨w.heap.size + 1 + 1, 1, none⟩, .slice RA x.n rc'), (⟨w.heap.size + 1 + 1, 2, none⟩, .slice SA x.sn sc), (⟨w.heap.size + 1 + 1, 3, none⟩, .slice A7 x.m k7), (⟨w.heap.size + 1 + 1 + 1, 0, none⟩, .bool false), (⟨w.heap.size + 1 + 1 + 1, 1, none⟩, .slice none 0 0), (⟨w.heap.size + 1 + 1 + 1, 2, none⟩, .slice A9 n9 k9), (⟨w.heap.size + 1 + 1 + 1, 3, none⟩, .slice RB rn rc)] (fun p hp => set8_in hp) S1; simp only [Sets] at S2 S3)
          | fail)
      have hIc := (hI2.below hbd).below bc
      have hLc := (hL2.below hbd).below bc
      have hBc := (hBb.below hbd).below bc
      have hbc := bel hb3 bcr
      have hbbs := bbd.size
      clear S0 S0d S1 S2 S3 f2 f3 y0 y1 y2 y3 v0 v1 v2 v3 hI2 hL2 hBb bc
      go_wp2_with fail
      obtain ⟨Ms, hMs⟩ : ∃ Ms : List (Addr × Value), Ms = [(⟨w.heap.size + 1 + 1, 0, none⟩, .int .i64 x.nd), (⟨w.heap.size + 1 + 1, 1, none⟩, .slice RA x.n rc'), (⟨w.heap.size + 1 + 1, 2, none⟩, .slice SA x.sn sc), (⟨w.heap.size + 1 + 1, 3, none⟩, .slice A7 x.m k7), (⟨w.heap.size + 1 + 1 + 1, 0, none⟩, .bool false), (⟨w.heap.size + 1 + 1 + 1, 1, none⟩, .slice none 0 0), (⟨w.heap.size + 1 + 1 + 1, 2, none⟩, .slice A9 n9 k9), (⟨w.heap.size + 1 + 1 + 1, 3, none⟩, .slice RB rn rc)] := ⟨_, rfl⟩
      have hMb : ∀ p ∈ Ms, p.1.block = w.heap.size + 1 + 1 ∨ p.1.block = w.heap.size + 1 + 1 + 1 := fun p hp => by rw [hMs] at hp; exact set8_in hp
      obtain ⟨wz, hwz⟩ : ∃ wz, wz = Sets wc Ms := ⟨_, rfl⟩
      have hS8 := set8_blk hz2 hz3 (by omega) (.int .i64 x.nd) (.slice RA x.n rc') (.slice SA x.sn sc) (.slice A7 x.m k7) (.bool false) (.slice none 0 0) (.slice A9 n9 k9) (.slice RB rn rc)
      rw [← hMs, ← hwz] at hS8
      have hbz : Below w.heap.size w wz := by rw [hwz]; exact hbc.trans (Sets.below Ms _ _ (Below.refl _ _) (fun p hp => by rcases hMb p hp with e | e <;> rw [e] <;> omega))
      have hM3 : ∀ p ∈ Ms, p.1.block < w3.heap.size := fun p hp => by rcases hMb p hp with e | e <;> rw [e] <;> omega
      have hIz : Ints wz A9 n9 v := by rw [hwz]; exact hIc.sets Ms (fun h0 ad e p hp => by have h1 := hF9 ad e; have h2 := hM3 p hp; omega)
      have hBz : Blks wz RB rn bl := by rw [hwz]; exact hBc.sets Ms (B := w3.heap.size) (fun ad e => Nat.le_trans habr (hRB ad e)) (fun y hy => ⟨fun h0 ad e => Nat.le_trans habr ((hNB y hy).1 h0 ad e), fun h0 ad e => Nat.le_trans habr ((hNB y hy).2 h0 ad e)⟩) hM3
      have hRz : Roads wz RA x.n x.l := by rw [hwz]; exact Lst.sets hRc Ms (fun h0 ad e p hp => by have h1 := hRn h0 ad e; have h2 := hM3 p hp; omega)
      have hSz : Shifts wz SA x.sn ss' := by rw [hwz]; exact hSc.sets Ms (B := w3.heap.size) (fun ad e => Nat.le_trans hbbs (hSn ad e)) (fun s hs h0 ad e => Nat.le_trans hbbs (hrn s hs h0 ad e)) hM3
      have hQz : Reqs wz A7 x.m (L7.take x.m) := by rw [hwz]; exact (hLc.take (Nat.le_succ _)).sets Ms (B := w3.heap.size) hA7' (hN7'.take _) hM3
      have hwz2 := hwz
      simp only [hMs, Sets] at hwz2
      rw [← hwz2]
      refine bodyPost_ret_by (v := .tuple #[.agg #[.int .i64 x.nd, .slice RA x.n rc', .slice SA x.sn sc, .slice A7 x.m k7], .agg #[.bool false, .slice none 0 0, .slice A9 n9 k9, .slice RB rn rc], .int .i64 0]) (ask_results _ wz (w.heap.size + 1 + 1) (w.heap.size + 1 + 1 + 1) (.int .i64 x.nd) (.slice RA x.n rc') (.slice SA x.sn sc) (.slice A7 x.m k7) (.bool false) (.slice none 0 0) (.slice A9 n9 k9) (.slice RB rn rc) 0 rfl rfl rfl hS8.1 hS8.2) rfl ?_
      refine ⟨⟨⟨x.nd, RA, x.n, rc', x.l, SA, x.sn, sc, ss', A7, x.m, k7, L7.take x.m⟩, ⟨false, none, 0, 0, [], A9, n9, k9, v, RB, rn, rc, bl⟩, by rw [HX.out], ⟨(zero_at wz).t, hIz, hBz⟩, ⟨zero_ok.ft, (show n9 ≤ 1000 by omega), hFB⟩, ?_, ?_, ⟨(zero_new _).p, (zero_new _).t, fun ad e => Nat.le_trans h03 (hF9 ad e), fun ad e => Nat.le_trans h03 (Nat.le_trans habr (hRB ad e)), fun y hy => ⟨fun h0 ad e => Nat.le_trans h03 (Nat.le_trans habr ((hNB y hy).1 h0 ad e)), fun h0 ad e => Nat.le_trans h03 (Nat.le_trans habr ((hNB y hy).2 h0 ad e))⟩⟩, ⟨fun h0 ad e => Nat.le_trans h03 (Nat.le_trans hbbs (hRn h0 ad e)), fun ad e => Nat.le_trans h03 (Nat.le_trans hbbs (hSn ad e)), fun s hs h0 ad e => Nat.le_trans h03 (Nat.le_trans hbbs (hrn s hs h0 ad e)), fun ad e => Nat.le_trans h03 (hA7' ad e), (hN7'.take _).mono h03⟩⟩, hbz⟩
      · rw [HX.out]
        unfold AV.an
        dsimp only
        rw [HBL.out]
        rfl
      · rw [HX.out]
        refine ⟨rfl, rfl, rfl, rfl, ⟨hRz, hSz, hQz, (show x.n ≤ 1000000000 by omega), fun s hs => by have := same_sn hSc hxb.cs.shifts hsb hxr s hs; omega, (show x.sn ≤ 1000000000 by omega), (show x.m ≤ 1000000000 by omega), fun p hp => HQN.out p (List.mem_of_mem_take hp)⟩, hsb, ?_⟩
        show (L7.take x.m).map Q.bare = x.r.map Q.bare
        rw [List.map_take, HLB.out, List.map_append, List.take_left' (by rw [List.length_map, HRN.out])]
end Go.Proofs.YtippdjmpkafifaaGreat
