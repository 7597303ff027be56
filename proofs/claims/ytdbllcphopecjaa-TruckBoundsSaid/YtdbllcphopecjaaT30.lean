/-
The walk of the law TruckBounds.
-/
import Derived.Test.YtdbllcphopecjaaT24
import Derived.Test.YtdbllcphopecjaaT29
import Derived.Deep.AppendLies
import Derived.Deep.RegionLaw
namespace Go.Proofs.Ytdbllcphopecjaa
open Go.RowKit Go.Maps

/-- The block b holds the shift s, with v for its rooms. -/
def ShfV (w : World) (b : Nat) (s : S) (v : Value) : Prop := w.heap[b]? = some (.cells #[.int .i64 s.day, .int .i64 s.depot, .int .i64 s.start, .int .i64 s.end_, .int .i64 s.tare, v] 24 (0, 0))
theorem ShfV.c5 {w : World} {b : Nat} {s : S} {v : Value} (h : ShfV w b s v) : w.cell? ⟨b, 5, none⟩ = some v := blk_cell h 5 _ rfl
theorem ShfV.free {w : World} {b : Nat} {s : S} {v : Value} (h : ShfV w b s v) (i : Nat) : w.frozen? ⟨b, i, none⟩ = false := by
  unfold ShfV at h
  simp [World.frozen?, h]
theorem ShfV.set5 {w : World} {b : Nat} {s : S} {v : Value} (h : ShfV w b s v) (u : Value) : ShfV (w.setCell ⟨b, 5, none⟩ u) b s u := by
  have hlt := lt_of_block h
  have h' : w.heap[b] = .cells #[.int .i64 s.day, .int .i64 s.depot, .int .i64 s.start, .int .i64 s.end_, .int .i64 s.tare, v] 24 (0, 0) := by simpa [ShfV, Array.getElem?_eq_getElem hlt] using h
  show (w.heap.modify b _)[b]? = _
  rw [Array.getElem?_eq_getElem (by simpa using hlt), Array.getElem_modify_self, h']
  rfl

set_option maxRecDepth 100000 in
set_option maxHeartbeats 8000000 in
theorem bounds_any (s : S) (B : Option Addr) (m d : Nat) (r : List Q) (A : Option Addr) (n c : Nat) (l : List Int) (w : World) (hs : Ints w s.A s.n s.l) (hq : Reqs w B m r) (hl : Ints w A n l) :
    Calls Try.prog 6 #[.agg #[.int .i64 s.day, .int .i64 s.depot, .int .i64 s.start, .int .i64 s.end_, .int .i64 s.tare, .slice s.A s.n s.c], .slice B m d, .slice A n c] w fun e w' => e = .returned (.bool true) ∧ Below w.heap.size w w' := by
  have b0 := (Below.refl w.heap.size w).alloc (Nat.le_refl _) (.cells #[.int .i64 s.day, .int .i64 s.depot, .int .i64 s.start, .int .i64 s.end_, .int .i64 s.tare, .slice s.A s.n s.c] 24)
  have hP0 := Shf.new w s
  go_enter Try.func6, Try.ntmps6
  go_wp2_with fail
  refine (tsmall_any _).mono ?_; rintro e w1 ⟨rfl, b1⟩
  have hP := hP0.below b1
  have hb := bel b0 b1
  clear hP0 b0 b1
  obtain ⟨p0, p1, p2, p3, p4, p5⟩ := hP.cells
  cases hf : T.few s r 12
  · have HF := Lib.hid hf
    clear hf
    go_wp2_with fail
    refine (few_any s B m d r 12 _ (hq.below hb) (by omega)).mono ?_; rw [HF.out]; rintro e w2 ⟨rfl, b2⟩
    go_wp2_with fail
    go_ret
    exact ⟨rfl, bel hb b2⟩
  · obtain ⟨f1, f2, f3⟩ := T.few_parts hf
    have HF := Lib.hid hf
    have hm12 : m ≤ 12 := by rw [hq.1]; omega
    have hsn : s.n ≤ 1000000000 := by omega
    have hrn : ∀ q ∈ r, q.n ≤ 1000000000 := fun q h => by have := f3 q h; omega
    clear hf
    go_wp2_with fail
    refine (few_any s B m d r 12 _ (hq.below hb) (by omega)).mono ?_; rw [HF.out]; rintro e w2 ⟨rfl, b2⟩
    have hP := hP.below b2
    have hb := bel hb b2
    clear b2 p0 p1 p2 p3 p4 p5
    obtain ⟨p0, p1, p2, p3, p4, p5⟩ := hP.cells
    by_cases h12 : 12 < n
    · go_wp2_with fail
      go_ret
      exact ⟨rfl, hb⟩
    · have hq12 : decide ((12 : Int) < n) = false := by simp; omega
      go_wp2_with fail
      refine (loads_any s B m d r A n c l _ (hs.below hb) hsn (hq.below hb) (by omega) hrn (hl.below hb) (by omega)).mono ?_
      rintro e w3 ⟨b3, hok⟩
      have hP := hP.below b3
      have hb := bel hb b3
      clear b3 p0 p1 p2 p3 p4 p5
      obtain ⟨p0, p1, p2, p3, p4, p5⟩ := hP.cells
      rcases hok with ⟨hld, g, rfl, hg, hT⟩ | ⟨hno, rfl⟩
      rotate_left
      · go_wp2_with fail
        go_ret
        exact ⟨rfl, hb⟩
      · clear hT hg
        obtain ⟨hch, _, hri⟩ := T.load_parts hld
        obtain ⟨hl3, ht, hro⟩ := T.check_rooms hch
        have HCH := Lib.hid hch
        have HSL := Lib.hid hs.1
        have HRO := Lib.hid hro
        clear hch hro
        go_wp2_with fail
        refine (check_any s _ (hs.below hb) hsn).mono ?_
        rw [HCH.out]; rintro e w4 ⟨rfl, b4⟩
        have hP := hP.below b4
        have hb := bel hb b4
        clear b4 p0 p1 p2 p3 p4 p5
        obtain ⟨p0, p1, p2, p3, p4, p5⟩ := hP.cells
        go_wp2_with fail
        refine (fits_any s B m d r A n c l _ (hs.below hb) hsn (hq.below hb) (by omega) hrn (hl.below hb) (by omega)).mono ?_
        rintro e w5 ⟨rfl, b5⟩
        have hP := hP.below b5
        have hb := bel hb b5
        clear b5 p0 p1 p2 p3 p4 p5
        obtain ⟨p0, p1, p2, p3, p4, p5⟩ := hP.cells
        go_wp2_with fail
        go_loopw [9, 11] (fun vm vi wr => ∃ (k : Nat) (v : Value), vi = .int .i64 k ∧ k ≤ s.n ∧ vm = .int .i64 (s.tare + T.sum (s.l.take k)) ∧ ShfV wr w5.heap.size s v ∧ wr.ownsRow (w5.heap.size + 1) 3 1 v k (intCells ((s.l.take k).map T.more)) ∧ Below w5.heap.size w5 wr) (fun _ vi _ => s.n - (intOf vi).toNat)
        case atStart => exact ⟨0, .slice none 0 0, rfl, by omega, by simp [T.sum], (MapKept.heap_alloc w5 _).1, World.ownsRow_nil _ _ _ _, (Below.refl _ _).alloc (Nat.le_refl _) _⟩
        case round =>
          obtain ⟨k, v, rfl, hk, rfl, hV, hown, hbr⟩ := hrel
          have hbw := bel hb hbr
          have q5 := (hP.below hbr).c5
          have v5 := hV.c5
          have vf := hV.free
          by_cases hlt : k < s.n
          · obtain ⟨ad, x, he, hx, c0⟩ := (hs.below hbw).at_ hlt
            have hxb := HRO.out x (List.mem_of_getElem? hx)
            have HN := Lib.hid (T.sum_next hx)
            obtain ⟨tk, htk⟩ : ∃ tk, tk = T.sum (s.l.take k) := ⟨_, rfl⟩
            have hkb : 0 ≤ tk ∧ tk ≤ 3000000 := by
              have h9 := T.sum_bound (l := s.l.take k) (b := 1000000) fun y hy => HRO.out y (List.mem_of_mem_take hy)
              have h8 : (s.l.take k).length ≤ 3 := by rw [List.length_take]; omega
              omega
            have HM := Lib.hid (show (s.l.take (k + 1)).map T.more = (s.l.take k).map T.more ++ [T.more x] by
              obtain ⟨hk', e⟩ := List.getElem?_eq_some_iff.1 hx
              rw [List.take_succ_eq_append_getElem hk', e, List.map_append]; rfl)
            rw [← htk] at HN ⊢
            have hk0 : (0 : Int) ≤ (k : Int) := by omega
            have hk1 : (k : Int) < (s.n : Int) := by omega
            clear hx htk
            have own1 : ∀ y : Int, (wr.alloc (.cells #[.int .i64 y] 3)).drew.ownsRow (w5.heap.size + 1) 3 1 v k (intCells ((s.l.take k).map T.more)) := fun y => hown.alloc _
            have new1 : ∀ y : Int, ∀ (j : Nat) (u : Value), ([Value.int .i64 y])[j]? = some u → (wr.alloc (.cells #[.int .i64 y] 3)).drew.cell? ((⟨wr.heap.size, 0, none⟩ : Addr).add j) = some u := fun y j u hu => by
              rw [add_zero_block]
              exact blk_cell (w := wr.alloc _) (MapKept.heap_alloc wr _).1 j u (by simpa using hu)
            have one1 : ∀ y : Int, ∀ u ∈ [Value.int .i64 y], u.oneCell' = true := fun y u hu => by simp at hu; subst hu; rfl
            have alc1 : ∀ y : Int, (wr.alloc (.cells #[.int .i64 y] 3)).drew.heap[w5.heap.size]? = some (.cells #[.int .i64 s.day, .int .i64 s.depot, .int .i64 s.start, .int .i64 s.end_, .int .i64 s.tare, v] 24 (0, 0)) := fun y => blk_alloc hV _
            have ne1 : some w5.heap.size ≠ v.ownBlock := fun e => by have := (hown.lt _ e.symm).1; omega
            have le1 : k + 1 ≤ maxLen := by simp only [maxLen]; omega
            have le2 : (k + 1) * 8 ≤ 140737488355328 := by omega
            have le3 : ∀ y : Int, w5.heap.size + 1 ≤ (wr.alloc (.cells #[.int .i64 y] 3)).drew.heap.size := fun y => by
              have := hbr.size
              show _ ≤ (wr.alloc _).heap.size
              rw [World.size_alloc]; omega
            have v5a : ∀ y : Int, (wr.alloc (.cells #[.int .i64 y] 3)).cell? ⟨w5.heap.size, 5, none⟩ = some v := fun y => blk_cell (blk_alloc hV _) 5 _ rfl
            obtain ⟨i0, hi, hz0, hz1, hz2⟩ := info_parts Try.info3
            have HX := Lib.hid (show T.more x = if x + 1 < 1000000 then x + 1 else 1000000 by unfold T.more; split <;> omega)
            have hwr : IntKind.i64.wrap (x + 1) = x + 1 := IntWalk.i64_in _ (by omega)
            go_wp2_with fail
            go_region_law (refine step_append_lies _ rfl (.tmp 61) (.tmp 69) 22 rfl (w5.heap.size + 1) 3 i0 (.int .i64 0) 1 8 Try.underlying22 hi hz0 hz1 hz2 rfl Nat.one_pos v k (intCells ((s.l.take k).map T.more)) rfl (own1 _) ⟨wr.heap.size, 0, none⟩ 1 1 [.int .i64 (if x + 1 < 1000000 then x + 1 else 1000000)] rfl rfl (new1 _) (one1 _) Nat.one_pos le1 le2 (le3 _) _ rfl ?_; intro g4 cap4 w4 hown4 hgrow4 hlies hlt4; have hV4 : ShfV w4 w5.heap.size s v := grow_blk hgrow4 (alc1 _) ne1; have v54 := hV4.c5; have vf4 := hV4.free)
            all_goals go_wp2_with fail
            all_goals
              have hnb : w5.heap.size ≠ g4 := fun e => by have := (hown4.lt g4 rfl).1; omega
              have hb4 : Below w5.heap.size w5 w4 := ((hbr.alloc hbr.size _).drew).grown hgrow4 (Nat.le_trans (Nat.le_succ _) (le3 _)) (fun g h => by have := (hown.lt g h).1; omega)
              have hR := ownsRow_setCell_other hown4 (a := ⟨w5.heap.size, 5, none⟩) (show (some g4 : Option Nat) ≠ some w5.heap.size from fun e => hnb (Option.some.inj e).symm) (Value.slice (some ⟨g4, 0, none⟩) (k + 1) cap4)
              have hV5 := hV4.set5 (Value.slice (some ⟨g4, 0, none⟩) (k + 1) cap4)
              have hb5 : Below w5.heap.size w5 (w4.setCell ⟨w5.heap.size, 5, none⟩ (Value.slice (some ⟨g4, 0, none⟩) (k + 1) cap4)) := hb4.setCell (Nat.le_refl _) _
              refine ⟨⟨k + 1, by push_cast; rfl, by omega, by rw [HN.out]; omega, _, hV5, ?_, hb5⟩, by simp [intOf]; omega⟩
              rw [← List.map_take, HM.out, HX.out, intCells_app]
              exact hR
          · have hkn : k = s.n := by omega
            subst hkn
            have etk : s.l.take s.n = s.l := List.take_of_length_le (by rw [← hs.1]; omega)
            rw [etk] at hown ⊢
            obtain ⟨Aw, cw, rfl, hIw⟩ := own_ints hown (by rw [List.length_map]; exact hs.1)
            have hW : Shf wr w5.heap.size (T.wide s Aw s.n cw) := hV
            have hP9 := hP.below hbr
            obtain ⟨ms, hms⟩ : ∃ ms, ms = s.tare + T.sum s.l := ⟨_, rfl⟩
            rw [← hms]
            have HMS := Lib.hid hms
            obtain ⟨w6, rfl⟩ : ∃ w6 : World, w6 = wr := ⟨_, rfl⟩
            clear hms hown hV v5 vf etk p0 p1 p2 p3 p4 p5
            obtain ⟨p0, p1, p2, p3, p4, p5⟩ := hP9.cells
            have sw := World.size_alloc w6
            cases hft : T.fits s r l
            · go_wp2_with fail
              go_loopw [12] (fun vi wj => ∃ j : Nat, vi = .int .i64 j ∧ j ≤ n ∧ Below w6.heap.size w6 wj) (fun vi _ => n - (intOf vi).toNat)
              case atStart => exact ⟨0, rfl, by omega, Below.refl _ _⟩
              case round =>
                obtain ⟨j, rfl, hj, hbj⟩ := hrel
                have hbw2 := bel hbw hbj
                by_cases hjn : j < n
                · obtain ⟨adl, x, rfl, hx, c0⟩ := (hl.below hbw2).at_ hjn
                  have hxm := List.mem_of_getElem? hx
                  obtain ⟨hx0, hx1⟩ := T.load_index hld hxm
                  obtain ⟨i, rfl⟩ : ∃ i : Nat, x = i := ⟨x.toNat, by omega⟩
                  have him : i < m := by rw [hq.1]; omega
                  obtain ⟨ad, q, rfl, hgq, hwq, e0, e1, e2, e3, e4, e5, e6⟩ := (hq.below hbw2).at_ him
                  have z5 := (hP9.below hbj).c5
                  clear hx hxm hgq
                  go_wp2_with fail
                  go_quiet (fail)
                  go_wp2_with fail
                  go_roundw
                  case rel => exact ⟨j + 1, by go_num, by omega, below_drewN hbj _⟩
                  case measure => simp [intOf]; omega
                · have hP := hP9.below hbj
                  have hW := hW.below hbj
                  have hIw := hIw.below hbj
                  obtain ⟨w7, rfl⟩ : ∃ w7 : World, w7 = wr := ⟨_, rfl⟩
                  clear p0 p1 p2 p3 p4 p5
                  obtain ⟨p0, p1, p2, p3, p4, p5⟩ := hP.cells
                  go_wp2_with fail
                  obtain ⟨w8, hw8⟩ : ∃ w8, w8 = (w7.alloc (.cells #[.int .i64 s.day, .int .i64 s.depot, .int .i64 s.start, .int .i64 s.end_, .int .i64 s.tare, .slice (some ⟨w7.heap.size + 1, 0, none⟩) 3 3] 24)).alloc (.cells #[.int .i64 1000000, .int .i64 1000000, .int .i64 1000000] 3) := ⟨_, rfl⟩
                  have hG : Shf w8 w7.heap.size (T.great s (some ⟨w7.heap.size + 1, 0, none⟩) 3 3) := by rw [hw8]; exact blk_alloc (MapKept.heap_alloc w7 _).1 _
                  have hIg : Ints w8 (some ⟨w7.heap.size + 1, 0, none⟩) 3 [1000000, 1000000, 1000000] := by
                    have h9 := ints_lit (w7.alloc (.cells #[.int .i64 s.day, .int .i64 s.depot, .int .i64 s.start, .int .i64 s.end_, .int .i64 s.tare, .slice (some ⟨w7.heap.size + 1, 0, none⟩) 3 3] 24)) [1000000, 1000000, 1000000]
                    rw [World.size_alloc] at h9
                    rw [hw8]; exact h9
                  have b8 : Below w7.heap.size w7 w8 := by rw [hw8]; exact ((Below.refl _ _).alloc (Nat.le_refl _) _).alloc (by rw [World.size_alloc]; omega) _
                  rw [← hw8]
                  clear hw8 p0 p1 p2 p3 p4 p5
                  have hW := hW.below b8
                  have hIw := hIw.below b8
                  have hbF := bel hbw2 b8
                  obtain ⟨p0, p1, p2, p3, p4, p5⟩ := (hP.below b8).cells
                  obtain ⟨u0, u1, u2, u3, u4, u5⟩ := hW.cells
                  obtain ⟨t0, t1, t2, t3, t4, t5⟩ := hG.cells
                  simp only [T.wide] at u0 u1 u2 u3 u4 u5
                  simp only [T.great] at t0 t1 t2 t3 t4 t5
                  have d0 := Beh.cell p0
                  have d1 := Beh.cell p1
                  have d2 := Beh.cell p2
                  have d3 := Beh.cell p3
                  have d4 := Beh.cell p4
                  have d5 := Beh.cell p5
                  have du0 := Beh.cell u0
                  have du1 := Beh.cell u1
                  have du2 := Beh.cell u2
                  have du3 := Beh.cell u3
                  have du4 := Beh.cell u4
                  have du5 := Beh.cell u5
                  have dt0 := Beh.cell t0
                  have dt1 := Beh.cell t1
                  have dt2 := Beh.cell t2
                  have dt3 := Beh.cell t3
                  have dt4 := Beh.cell t4
                  have dt5 := Beh.cell t5
                  clear p0 p1 p2 p3 p4 p5 u0 u1 u2 u3 u4 u5 t0 t1 t2 t3 t4 t5 sw
                  have hwn : (T.wide s Aw s.n cw).n ≤ 1000000000 := hsn
                  have hgn : (T.great s (some ⟨w7.heap.size + 1, 0, none⟩) 3 3).n ≤ 1000000000 := by simp [T.great]
                  have CS := fun i : Beh w8 => weight_any s B m d r A n c l i.val ((hs.below hbF).below i.property) hsn ((hq.below hbF).below i.property) (by omega) hrn ((hl.below hbF).below i.property) (by omega)
                  have CV := fun i : Beh w8 => weight_any (T.wide s Aw s.n cw) B m d r A n c l i.val (hIw.below i.property) hwn ((hq.below hbF).below i.property) (by omega) hrn ((hl.below hbF).below i.property) (by omega)
                  have CF := fun i : Beh w8 => fits_any (T.wide s Aw s.n cw) B m d r A n c l i.val (hIw.below i.property) hwn ((hq.below hbF).below i.property) (by omega) hrn ((hl.below hbF).below i.property) (by omega)
                  have CG := fun i : Beh w8 => fits_any (T.great s (some ⟨w7.heap.size + 1, 0, none⟩) 3 3) B m d r A n c l i.val (hIg.below i.property) hgn ((hq.below hbF).below i.property) (by omega) hrn ((hl.below hbF).below i.property) (by omega)
                  rw [T.weight_wide hld] at CV
                  simp only [T.wide, T.great] at CV CF CG
                  refine reg_beh (by kernel_rfl) (by kernel_rfl) ?_
                  repeat (go_big_quiet_step ((first | (go_at_call_of 23 Aw; exact Beh.calls (CV _)) | (go_at_call_of 21 Aw; exact Beh.calls (CF _)) | (go_at_call_of 21 w7; exact Beh.calls (CG _)) | (go_at_call_of 23 s.A; exact Beh.calls (CS _)))))
                  refine wpQuiet_nil ?_
                  rintro w9 ⟨⟨_, b9⟩, rfl⟩
                  go_wp2_with fail
                  go_ret
                  exact ⟨rfl, bel hbF b9⟩
            · go_wp2_with fail
              go_loopw [12] (fun vi wj => ∃ j : Nat, vi = .int .i64 j ∧ j ≤ n ∧ Below w6.heap.size w6 wj) (fun vi _ => n - (intOf vi).toNat)
              case atStart => exact ⟨0, rfl, by omega, Below.refl _ _⟩
              case round =>
                obtain ⟨j, rfl, hj, hbj⟩ := hrel
                have hbw2 := bel hbw hbj
                by_cases hjn : j < n
                · obtain ⟨adl, x, rfl, hx, c0⟩ := (hl.below hbw2).at_ hjn
                  have hxm := List.mem_of_getElem? hx
                  obtain ⟨hx0, hx1⟩ := T.load_index hld hxm
                  obtain ⟨i, rfl⟩ : ∃ i : Nat, x = i := ⟨x.toNat, by omega⟩
                  have him : i < m := by rw [hq.1]; omega
                  obtain ⟨ad, q, rfl, hgq, hwq, e0, e1, e2, e3, e4, e5, e6⟩ := (hq.below hbw2).at_ him
                  have z5 := (hP9.below hbj).c5
                  have hroom := T.fits_room hft hxm (q := q) (by simpa using hgq)
                  have hge : decide ((s.n : Int) ≤ q.room) = false := by rw [hs.1]; simp; omega
                  clear hx hxm hgq
                  go_wp2_with fail
                  go_quiet (fail)
                  go_wp2_with fail
                  go_roundw
                  case rel => exact ⟨j + 1, by go_num, by omega, below_drewN hbj _⟩
                  case measure => simp [intOf]; omega
                · have hP := hP9.below hbj
                  have hW := hW.below hbj
                  have hIw := hIw.below hbj
                  obtain ⟨w7, rfl⟩ : ∃ w7 : World, w7 = wr := ⟨_, rfl⟩
                  clear p0 p1 p2 p3 p4 p5
                  obtain ⟨p0, p1, p2, p3, p4, p5⟩ := hP.cells
                  go_wp2_with fail
                  obtain ⟨w8, hw8⟩ : ∃ w8, w8 = (w7.alloc (.cells #[.int .i64 s.day, .int .i64 s.depot, .int .i64 s.start, .int .i64 s.end_, .int .i64 s.tare, .slice (some ⟨w7.heap.size + 1, 0, none⟩) 3 3] 24)).alloc (.cells #[.int .i64 1000000, .int .i64 1000000, .int .i64 1000000] 3) := ⟨_, rfl⟩
                  have hG : Shf w8 w7.heap.size (T.great s (some ⟨w7.heap.size + 1, 0, none⟩) 3 3) := by rw [hw8]; exact blk_alloc (MapKept.heap_alloc w7 _).1 _
                  have hIg : Ints w8 (some ⟨w7.heap.size + 1, 0, none⟩) 3 [1000000, 1000000, 1000000] := by
                    have h9 := ints_lit (w7.alloc (.cells #[.int .i64 s.day, .int .i64 s.depot, .int .i64 s.start, .int .i64 s.end_, .int .i64 s.tare, .slice (some ⟨w7.heap.size + 1, 0, none⟩) 3 3] 24)) [1000000, 1000000, 1000000]
                    rw [World.size_alloc] at h9
                    rw [hw8]; exact h9
                  have b8 : Below w7.heap.size w7 w8 := by rw [hw8]; exact ((Below.refl _ _).alloc (Nat.le_refl _) _).alloc (by rw [World.size_alloc]; omega) _
                  rw [← hw8]
                  clear hw8 p0 p1 p2 p3 p4 p5
                  have hW := hW.below b8
                  have hIw := hIw.below b8
                  have hbF := bel hbw2 b8
                  obtain ⟨p0, p1, p2, p3, p4, p5⟩ := (hP.below b8).cells
                  obtain ⟨u0, u1, u2, u3, u4, u5⟩ := hW.cells
                  obtain ⟨t0, t1, t2, t3, t4, t5⟩ := hG.cells
                  simp only [T.wide] at u0 u1 u2 u3 u4 u5
                  simp only [T.great] at t0 t1 t2 t3 t4 t5
                  have d0 := Beh.cell p0
                  have d1 := Beh.cell p1
                  have d2 := Beh.cell p2
                  have d3 := Beh.cell p3
                  have d4 := Beh.cell p4
                  have d5 := Beh.cell p5
                  have du0 := Beh.cell u0
                  have du1 := Beh.cell u1
                  have du2 := Beh.cell u2
                  have du3 := Beh.cell u3
                  have du4 := Beh.cell u4
                  have du5 := Beh.cell u5
                  have dt0 := Beh.cell t0
                  have dt1 := Beh.cell t1
                  have dt2 := Beh.cell t2
                  have dt3 := Beh.cell t3
                  have dt4 := Beh.cell t4
                  have dt5 := Beh.cell t5
                  clear p0 p1 p2 p3 p4 p5 u0 u1 u2 u3 u4 u5 t0 t1 t2 t3 t4 t5 sw
                  have hwn : (T.wide s Aw s.n cw).n ≤ 1000000000 := hsn
                  have hgn : (T.great s (some ⟨w7.heap.size + 1, 0, none⟩) 3 3).n ≤ 1000000000 := by simp [T.great]
                  have CS := fun i : Beh w8 => weight_any s B m d r A n c l i.val ((hs.below hbF).below i.property) hsn ((hq.below hbF).below i.property) (by omega) hrn ((hl.below hbF).below i.property) (by omega)
                  have CV := fun i : Beh w8 => weight_any (T.wide s Aw s.n cw) B m d r A n c l i.val (hIw.below i.property) hwn ((hq.below hbF).below i.property) (by omega) hrn ((hl.below hbF).below i.property) (by omega)
                  have CF := fun i : Beh w8 => fits_any (T.wide s Aw s.n cw) B m d r A n c l i.val (hIw.below i.property) hwn ((hq.below hbF).below i.property) (by omega) hrn ((hl.below hbF).below i.property) (by omega)
                  have CG := fun i : Beh w8 => fits_any (T.great s (some ⟨w7.heap.size + 1, 0, none⟩) 3 3) B m d r A n c l i.val (hIg.below i.property) hgn ((hq.below hbF).below i.property) (by omega) hrn ((hl.below hbF).below i.property) (by omega)
                  rw [T.weight_wide hld] at CV
                  rw [T.fits_wide hft] at CF
                  rw [T.fits_great hft] at CG
                  have hmo : decide (T.weight s r l ≤ ms) = true := by have := T.weight_most hft; rw [HMS.out]; simpa using this
                  simp only [T.wide, T.great] at CV CF CG
                  refine reg_beh (by kernel_rfl) (by kernel_rfl) ?_
                  repeat (go_big_quiet_step ((first | (go_at_call_of 23 Aw; exact Beh.calls (CV _)) | (go_at_call_of 21 Aw; exact Beh.calls (CF _)) | (go_at_call_of 21 w7; exact Beh.calls (CG _)) | (go_at_call_of 23 s.A; exact Beh.calls (CS _)))))
                  refine wpQuiet_nil ?_
                  rintro w9 ⟨⟨_, b9⟩, rfl⟩
                  go_wp2_with fail
                  go_ret
                  exact ⟨rfl, bel hbF b9⟩
end Go.Proofs.Ytdbllcphopecjaa
