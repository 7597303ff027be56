/-
The walk of the law TruckAdds.
-/
import Derived.Test.YtdbllcphopecjaaT24
import Derived.Test.YtdbllcphopecjaaT27
namespace Go.Proofs.Ytdbllcphopecjaa
open Go.RowKit Go.Maps

/-- .. and one more cell. -/
def SAx (wr : World) (b : Nat) (s : S) (p : Addr) (x : Value) (w' : World) : Prop := w'.cell? p = some x ∧ SAt wr b s w'
theorem SAx.next {wr : World} {b : Nat} {s : S} {p : Addr} {x : Value} {w' w'' : World} (hb : Below w'.heap.size w' w'') (h : SAx wr b s p x w') : SAx wr b s p x w'' := ⟨(hb.cell (cell_lt h.1)).trans h.1, SAt.next hb h.2⟩
theorem SAx.drew {wr : World} {b : Nat} {s : S} {p : Addr} {x : Value} {w' : World} (h : SAx wr b s p x w') : SAx wr b s p x w'.drew := ⟨h.1, h.2.drew⟩
theorem SAx.alloc {wr : World} {b : Nat} {s : S} {p : Addr} {x : Value} {w' : World} {o : Obj} (h : SAx wr b s p x w') : SAx wr b s p x (w'.alloc o) := h.next ((Below.refl _ _).alloc (Nat.le_refl _) _)

set_option maxRecDepth 100000 in
set_option maxHeartbeats 8000000 in
theorem adds_any (s : S) (B : Option Addr) (m d : Nat) (r : List Q) (A : Option Addr) (n c : Nat) (l : List Int) (bits : Int) (w : World) (hs : Ints w s.A s.n s.l) (hq : Reqs w B m r) (hl : Ints w A n l) (hbits : (Lit.int .u16 bits).wf = true) :
    Calls Try.prog 5 #[.agg #[.int .i64 s.day, .int .i64 s.depot, .int .i64 s.start, .int .i64 s.end_, .int .i64 s.tare, .slice s.A s.n s.c], .slice B m d, .slice A n c, .int .u16 bits] w fun e w' => e = .returned (.bool true) ∧ Below w.heap.size w w' := by
  have b0 := (Below.refl w.heap.size w).alloc (Nat.le_refl _) (.cells #[.int .i64 s.day, .int .i64 s.depot, .int .i64 s.start, .int .i64 s.end_, .int .i64 s.tare, .slice s.A s.n s.c] 24)
  have hP0 := Shf.new w s
  have hbi : 0 ≤ bits ∧ bits ≤ 65535 := by
    simp [Lit.wf] at hbits
    exact hbits
  go_enter Try.func5, Try.ntmps5
  go_wp2_with fail
  refine (tsmall_any _).mono ?_; rintro e w1 ⟨rfl, b1⟩
  have hP := hP0.below b1
  have hb := bel b0 b1
  clear hP0 b0 b1
  obtain ⟨p0, p1, p2, p3, p4, p5⟩ := hP.cells
  cases hf : T.few s r 12
  · have HF := Lib.hid hf
    clear hf
    go_wp2_with fail
    refine (few_any s B m d r 12 _ (hq.below hb) (by omega)).mono ?_; rw [HF.out]; rintro e w2 ⟨rfl, b2⟩
    go_wp2_with fail
    go_ret
    exact ⟨rfl, bel hb b2⟩
  · obtain ⟨f1, f2, f3⟩ := T.few_parts hf
    have HF := Lib.hid hf
    have hm12 : m ≤ 12 := by rw [hq.1]; omega
    have hsn : s.n ≤ 1000000000 := by omega
    have hrn : ∀ q ∈ r, q.n ≤ 1000000000 := fun q h => by have := f3 q h; omega
    clear hf
    go_wp2_with fail
    refine (few_any s B m d r 12 _ (hq.below hb) (by omega)).mono ?_; rw [HF.out]; rintro e w2 ⟨rfl, b2⟩
    have hP := hP.below b2
    have hb := bel hb b2
    clear b2 p0 p1 p2 p3 p4 p5
    obtain ⟨p0, p1, p2, p3, p4, p5⟩ := hP.cells
    by_cases h12 : 12 < n
    · go_wp2_with fail
      go_ret
      exact ⟨rfl, hb⟩
    · have hq12 : decide ((12 : Int) < n) = false := by simp; omega
      go_wp2_with fail
      refine (loads_any s B m d r A n c l _ (hs.below hb) hsn (hq.below hb) (by omega) hrn (hl.below hb) (by omega)).mono ?_
      rintro e w3 ⟨b3, hok⟩
      have hP := hP.below b3
      have hb := bel hb b3
      clear b3 p0 p1 p2 p3 p4 p5
      obtain ⟨p0, p1, p2, p3, p4, p5⟩ := hP.cells
      rcases hok with ⟨hld, g, rfl, hg, hT⟩ | ⟨hno, rfl⟩
      rotate_left
      · have HW := Lib.hid (show T.weight s r l = -1 by simp [T.weight, hno])
        have HF2 := Lib.hid (show T.fits s r l = false by simp [T.fits, hno])
        clear hno
        go_wp2_with fail
        refine (weight_any s B m d r A n c l _ (hs.below hb) hsn (hq.below hb) (by omega) hrn (hl.below hb) (by omega)).mono ?_
        rw [HW.out]; rintro e w4 ⟨rfl, b4⟩
        have hP := hP.below b4
        have hb := bel hb b4
        clear b4 p0 p1 p2 p3 p4 p5
        obtain ⟨p0, p1, p2, p3, p4, p5⟩ := hP.cells
        go_wp2_with fail
        refine (fits_any s B m d r A n c l _ (hs.below hb) hsn (hq.below hb) (by omega) hrn (hl.below hb) (by omega)).mono ?_
        rw [HF2.out]; rintro e w5 ⟨rfl, b5⟩
        go_wp2_with fail
        go_ret
        exact ⟨rfl, bel hb b5⟩
      · obtain ⟨_, _, hri⟩ := T.load_parts hld
        have la := T.load_sub hld (T.part_sub bits true l 0)
        have lb := T.load_sub hld (T.part_sub bits false l 0)
        have nl12 : l.length ≤ 12 := by rw [← hl.1]; omega
        go_wp2_with fail
        refine (part_any A n c l bits true _ (hl.below hb) (by omega) hbi.1 hbi.2).mono ?_
        rintro e w4 ⟨⟨A4, n4, c4, rfl, hL4⟩, b4⟩
        have hT := hT.below b4
        have hP := hP.below b4
        have hb := bel hb b4
        clear b4 p0 p1 p2 p3 p4 p5
        obtain ⟨p0, p1, p2, p3, p4, p5⟩ := hP.cells
        have n4le : n4 ≤ 12 := by have := T.part_len bits true l 0; rw [hL4.1]; omega
        go_wp2_with fail
        refine (part_any A n c l bits false _ (hl.below hb) (by omega) hbi.1 hbi.2).mono ?_
        rintro e w5 ⟨⟨A5, n5, c5, rfl, hL5⟩, b5⟩
        have hL4 := hL4.below b5
        have hT := hT.below b5
        have hP := hP.below b5
        have hb := bel hb b5
        clear b5 p0 p1 p2 p3 p4 p5
        obtain ⟨p0, p1, p2, p3, p4, p5⟩ := hP.cells
        have n5le : n5 ≤ 12 := by have := T.part_len bits false l 0; rw [hL5.1]; omega
        go_wp2_with fail
        refine (loads_any s B m d r A4 n4 c4 (T.partFrom bits true 0 l) _ (hs.below hb) hsn (hq.below hb) (by omega) hrn hL4 (by omega)).mono ?_
        rintro e w6 ⟨b6, hok⟩
        rw [la] at hok
        simp only [true_and, false_and, or_false, Bool.true_eq_false] at hok
        obtain ⟨g6, rfl, _, hT6⟩ := hok
        have hL4 := hL4.below b6
        have hL5 := hL5.below b6
        have hT := hT.below b6
        have hP := hP.below b6
        have hb := bel hb b6
        clear b6 p0 p1 p2 p3 p4 p5
        obtain ⟨p0, p1, p2, p3, p4, p5⟩ := hP.cells
        go_wp2_with fail
        refine (loads_any s B m d r A5 n5 c5 (T.partFrom bits false 0 l) _ (hs.below hb) hsn (hq.below hb) (by omega) hrn hL5 (by omega)).mono ?_
        rintro e w7 ⟨b7, hok⟩
        rw [lb] at hok
        simp only [true_and, false_and, or_false, Bool.true_eq_false] at hok
        obtain ⟨g7, rfl, _, hT7⟩ := hok
        have hL4 := hL4.below b7
        have hL5 := hL5.below b7
        have hT := hT.below b7
        have hT6 := hT6.below b7
        have hP := hP.below b7
        have hb := bel hb b7
        clear b7 p0 p1 p2 p3 p4 p5
        obtain ⟨p0, p1, p2, p3, p4, p5⟩ := hP.cells
        have d0 := Beh.cell p0
        have d1 := Beh.cell p1
        have d2 := Beh.cell p2
        have d3 := Beh.cell p3
        have d4 := Beh.cell p4
        have d5 := Beh.cell p5
        have CW := fun i : Beh w7 => weight_any s B m d r A n c l i.val ((hs.below hb).below i.property) hsn ((hq.below hb).below i.property) (by omega) hrn ((hl.below hb).below i.property) (by omega)
        have CA := fun i : Beh w7 => weight_any s B m d r A4 n4 c4 (T.partFrom bits true 0 l) i.val ((hs.below hb).below i.property) hsn ((hq.below hb).below i.property) (by omega) hrn (hL4.below i.property) (by omega)
        have CB := fun i : Beh w7 => weight_any s B m d r A5 n5 c5 (T.partFrom bits false 0 l) i.val ((hs.below hb).below i.property) hsn ((hq.below hb).below i.property) (by omega) hrn (hL5.below i.property) (by omega)
        obtain ⟨w0, w00⟩ := T.weight_bound hld (by omega)
        obtain ⟨wa0, wa00⟩ := T.weight_bound la (by have := T.part_len bits true l 0; omega)
        obtain ⟨wb0, wb00⟩ := T.weight_bound lb (by have := T.part_len bits false l 0; omega)
        obtain ⟨ht0, ht1⟩ := (T.check_rooms (T.load_parts hld).1).2.1
        have hsum := T.weight_part hld bits
        have hE : (T.weight s r (T.partFrom bits true 0 l) + T.weight s r (T.partFrom bits false 0 l) != T.weight s r l + s.tare) = false := by simp [hsum]
        go_wp2_with fail
        refine reg_beh (by kernel_rfl) (by kernel_rfl) ?_
        repeat (go_big_quiet_step ((first | (go_at_call_of 23 A; exact Beh.calls (CW _)) | (go_at_call_of 23 A4; exact Beh.calls (CA _)) | (go_at_call_of 23 A5; exact Beh.calls (CB _)))))
        refine wpQuiet_nil ?_
        rintro w8 ⟨⟨_, b8⟩, rfl⟩
        have hT := hT.below b8
        have hT6 := hT6.below b8
        have hT7 := hT7.below b8
        have hP := hP.below b8
        have hb := bel hb b8
        clear b8 p0 p1 p2 p3 p4 p5 d0 d1 d2 d3 d4 d5 CW CA CB hE hsum w0 w00 wa0 wa00 wb0 wb00 hL4 hL5
        go_wp2_with fail
        go_loopw [15] (fun vi wr => ∃ k : Nat, vi = .int .i64 k ∧ k ≤ 3 ∧ Below w8.heap.size w8 wr) (fun vi _ => 3 - (intOf vi).toNat)
        case atStart => exact ⟨0, rfl, by omega, Below.refl _ _⟩
        case round =>
          obtain ⟨k, rfl, hk, hbr⟩ := hrel
          by_cases hlt : k < 3
          · have hI : Ints wr (some ⟨g, 0, none⟩) 3 (T.loads r l) := (hT.below hbr).ints
            have hI6 : Ints wr (some ⟨g6, 0, none⟩) 3 (T.loads r (T.partFrom bits true 0 l)) := (hT6.below hbr).ints
            have hI7 : Ints wr (some ⟨g7, 0, none⟩) 3 (T.loads r (T.partFrom bits false 0 l)) := (hT7.below hbr).ints
            obtain ⟨ad, z, he, hz, c0⟩ := hI.at_ hlt
            injection he with he; subst he
            obtain ⟨ad, x, he, hx, c1⟩ := hI6.at_ hlt
            injection he with he; subst he
            obtain ⟨ad, y, he, hy, c2⟩ := hI7.at_ hlt
            injection he with he; subst he
            rw [add_zero_block] at c0 c1 c2
            obtain ⟨bx0, bx1⟩ := T.loads_bound hri hx
            obtain ⟨by0, by1⟩ := T.loads_bound hri hy
            have hxyz : x + y = z := by
              rw [T.loads_get hx, T.loads_get hy, T.loads_get hz]
              exact T.room_part r k bits l 0
            have e1 := T.part_len bits true l 0
            have e2 := T.part_len bits false l 0
            have bx2 : x ≤ 1000000000 := by omega
            have by2 : y ≤ 1000000000 := by omega
            have hE : (x + y != z) = false := by simp [hxyz]
            clear hxyz hx hy hz bx1 by1 e1 e2 hI hI6 hI7
            go_wp2_with fail
            go_quiet (fail)
            go_wp2_with fail
            go_roundw
            case rel => exact ⟨k + 1, by go_num, by omega, below_drewN hbr _⟩
            case measure => simp [intOf]; omega
          · have hP9 := hP.below hbr
            have hb9 := bel hb hbr
            obtain ⟨w9, rfl⟩ : ∃ w9 : World, w9 = wr := ⟨_, rfl⟩
            clear hT hT6 hT7 hP hb la lb hbr
            go_wp2_with fail
            go_loopw [16] (fun vi wj => ∃ j : Nat, vi = .int .i64 j ∧ j ≤ n ∧ Below w9.heap.size w9 wj) (fun vi _ => n - (intOf vi).toNat)
            case atStart => exact ⟨0, rfl, by omega, Below.refl _ _⟩
            case round =>
              obtain ⟨j, rfl, hj, hbj⟩ := hrel
              have hP := hP9.below hbj
              have hb := bel hb9 hbj
              by_cases hjn : j < n
              · obtain ⟨adl, x, rfl, hx, c0⟩ := (hl.below hb).at_ hjn
                have hxm := List.mem_of_getElem? hx
                obtain ⟨hx0, hx1⟩ := T.load_index hld hxm
                have ho := T.load_one hld hxm
                obtain ⟨i, rfl⟩ : ∃ i : Nat, x = i := ⟨x.toNat, by omega⟩
                have him : i < m := by rw [hq.1]; omega
                obtain ⟨p0, p1, p2, p3, p4, p5⟩ := hP.cells
                clear hx hxm
                have S0 : SAx wr w.heap.size s (adl.add j) (.int .i64 i) wr := ⟨c0, Below.refl _ _, p0, p1, p2, p3, p4, p5⟩
                have hS : ∀ w', SAx wr w.heap.size s (adl.add j) (.int .i64 i) w' → Ints w' s.A s.n s.l := fun w' h => (hs.below hb).below h.2.1
                have hQ : ∀ w', SAx wr w.heap.size s (adl.add j) (.int .i64 i) w' → Reqs w' B m r := fun w' h => (hq.below hb).below h.2.1
                have L0 : Ints (wr.alloc (.cells #[.int .i64 i] 3)).drew (some ⟨wr.heap.size, 0, none⟩) 1 [(i : Int)] := ints_lit wr [(i : Int)]
                have hj0 : (0 : Int) ≤ (j : Int) := by omega
                have hj1 : (j : Int) < (n : Int) := by omega
                go_wp2_with fail
                clear p0 p1 p2 p3 p4 p5 c0
                go_region_held3 (fun w' => w'.cell? (adl.add j) = some (.int .i64 i) ∧ Below wr.heap.size wr w' ∧ w'.cell? ⟨w.heap.size, 0, none⟩ = some (.int .i64 s.day) ∧ w'.cell? ⟨w.heap.size, 1, none⟩ = some (.int .i64 s.depot) ∧ w'.cell? ⟨w.heap.size, 2, none⟩ = some (.int .i64 s.start) ∧
                    w'.cell? ⟨w.heap.size, 3, none⟩ = some (.int .i64 s.end_) ∧ w'.cell? ⟨w.heap.size, 4, none⟩ = some (.int .i64 s.tare) ∧ w'.cell? ⟨w.heap.size, 5, none⟩ = some (.slice s.A s.n s.c))
                  (first | assumption | exact S0 | exact SAx.drew (by assumption) | exact SAx.alloc (by assumption) | exact SAx.next (by assumption) (by assumption))
                  (first
                    | (go_at_call 19; refine (loads_any s B m d r _ 1 1 [(i : Int)] _ (hS _ ?_) hsn (hQ _ ?_) ?_ hrn L0 ?_).mono ?_; assumption; assumption; omega; simp; rw [ho]; simp only [true_and, false_and, or_false, Bool.true_eq_false]; rintro e w' ⟨hbn, gx, rfl, _, hTx⟩))
                have hH : SAx wr w.heap.size s (adl.add j) (.int .i64 i) w' := by assumption
                have c0 := hH.1
                have bz := hH.2.1
                have hbF := bel hb bz
                obtain ⟨ad, q, rfl, hgq, hwq, e0, e1, e2, e3, e4, e5, e6⟩ := (hq.below hbF).at_ him
                have KV : ∀ k : Nat, ∀ v : Int, (T.loads r [(i : Int)])[k]? = some v → v = if q.room = (k : Int) then q.kilos else 0 := fun k v hv => by
                  rw [T.loads_get hv, T.room_one, T.kilo_self (q := q) (by simpa using hgq)]
                have HKV := Lib.hid KV
                obtain ⟨_, hk1, hk2⟩ := T.right_room (hri q (List.mem_of_getElem? hgq))
                have hIx : Ints w' (some ⟨gx, 0, none⟩) 3 (T.loads r [(i : Int)]) := hTx.ints
                clear KV hgq hTx hH hbn L0
                go_wp2_with fail
                have hB := (MapKept.heap_alloc w' (.cells #[.int .i64 q.node, .int .i64 q.room, .int .i64 q.kilos, .int .i64 q.service, .int .i64 q.frm, .int .i64 q.by_, .slice q.A q.n q.c] 31)).1
                have ba := (Below.refl w'.heap.size w').alloc (Nat.le_refl _) (.cells #[.int .i64 q.node, .int .i64 q.room, .int .i64 q.kilos, .int .i64 q.service, .int .i64 q.frm, .int .i64 q.by_, .slice q.A q.n q.c] 31)
                have hIx := hIx.below ba
                obtain ⟨wq, hwqe⟩ : ∃ wq, wq = w'.alloc (.cells #[.int .i64 q.node, .int .i64 q.room, .int .i64 q.kilos, .int .i64 q.service, .int .i64 q.frm, .int .i64 q.by_, .slice q.A q.n q.c] 31) := ⟨_, rfl⟩
                rw [← hwqe] at hB ba hIx ⊢
                clear hwqe
                go_loopw [19] (fun vi wk => ∃ k : Nat, vi = .int .i64 k ∧ k ≤ 3 ∧ Below wq.heap.size wq wk) (fun vi _ => 3 - (intOf vi).toNat)
                case atStart => exact ⟨0, rfl, by omega, Below.refl _ _⟩
                case round =>
                  obtain ⟨k2, rfl, hk2', hbk⟩ := hrel
                  have hBk := blk_below hbk hB
                  have z1 := blk_cell hBk 1 _ rfl
                  have z2 := blk_cell hBk 2 _ rfl
                  by_cases hk3 : k2 < 3
                  · obtain ⟨ad, v, he, hv, cv⟩ := (hIx.below hbk).at_ hk3
                    injection he with he; subst he
                    rw [add_zero_block] at cv
                    have hvv := HKV.out k2 v hv
                    clear hv
                    by_cases hkr : q.room = (k2 : Int)
                    · rw [if_pos hkr] at hvv
                      subst hvv
                      have t1 : ((k2 : Int) == q.room) = true := by simp [hkr]
                      have t2 : ((k2 : Int) != q.room) = false := by simp [hkr]
                      have t3 : (q.kilos != q.kilos) = false := by simp
                      clear hkr
                      go_wp2_with fail
                      go_quiet (fail)
                      go_wp2_with fail
                      go_roundw
                      case rel => exact ⟨k2 + 1, by go_num, by omega, below_drewN hbk _⟩
                      case measure => simp [intOf]; omega
                    · rw [if_neg hkr] at hvv
                      subst hvv
                      have t1 : ((k2 : Int) == q.room) = false := by simp; omega
                      have t2 : ((k2 : Int) != q.room) = true := by simp; omega
                      clear hkr
                      go_wp2_with fail
                      go_quiet (fail)
                      go_wp2_with fail
                      go_roundw
                      case rel => exact ⟨k2 + 1, by go_num, by omega, below_drewN hbk _⟩
                      case measure => simp [intOf]; omega
                  · go_wp2_with fail
                    go_roundw
                    case rel => exact ⟨j + 1, by go_num, by omega, bel (bel hbj (bel bz ba)) hbk⟩
                    case measure => simp [intOf]; omega
              · go_wp2_with fail
                go_ret
                exact ⟨rfl, hb⟩
end Go.Proofs.Ytdbllcphopecjaa
