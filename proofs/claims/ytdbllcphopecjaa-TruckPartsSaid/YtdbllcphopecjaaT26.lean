/-
The walk of the law TruckParts.
-/
import Derived.Test.YtdbllcphopecjaaT24
import Derived.Test.YtdbllcphopecjaaT25
namespace Go.Proofs.Ytdbllcphopecjaa
open Go.RowKit Go.Maps

set_option maxHeartbeats 8000000 in
theorem parts_any (s : S) (B : Option Addr) (m d : Nat) (r : List Q) (A : Option Addr) (n c : Nat) (l : List Int) (bits : Int) (w : World) (hs : Ints w s.A s.n s.l) (hq : Reqs w B m r) (hl : Ints w A n l) (hbits : (Lit.int .u16 bits).wf = true) :
    Calls Try.prog 4 #[.agg #[.int .i64 s.day, .int .i64 s.depot, .int .i64 s.start, .int .i64 s.end_, .int .i64 s.tare, .slice s.A s.n s.c], .slice B m d, .slice A n c, .int .u16 bits] w fun e w' => e = .returned (.bool true) ∧ Below w.heap.size w w' := by
  have b0 := (Below.refl w.heap.size w).alloc (Nat.le_refl _) (.cells #[.int .i64 s.day, .int .i64 s.depot, .int .i64 s.start, .int .i64 s.end_, .int .i64 s.tare, .slice s.A s.n s.c] 24)
  have hP0 := Shf.new w s
  have hbi : 0 ≤ bits ∧ bits ≤ 65535 := by
    simp [Lit.wf] at hbits
    exact hbits
  go_enter Try.func4, Try.ntmps4
  go_wp2_with fail
  refine (tsmall_any _).mono ?_; rintro e w1 ⟨rfl, b1⟩
  have hP := hP0.below b1
  have hb := bel b0 b1
  clear hP0 b0 b1
  obtain ⟨p0, p1, p2, p3, p4, p5⟩ := hP.cells
  cases hf : T.few s r 12
  · have HF := Lib.hid hf
    clear hf
    go_wp2_with fail
    refine (few_any s B m d r 12 _ (hq.below hb) (by omega)).mono ?_; rw [HF.out]; rintro e w2 ⟨rfl, b2⟩
    go_wp2_with fail
    go_ret
    exact ⟨rfl, bel hb b2⟩
  · obtain ⟨f1, f2, f3⟩ := T.few_parts hf
    have HF := Lib.hid hf
    have hm12 : m ≤ 12 := by rw [hq.1]; omega
    have hsn : s.n ≤ 1000000000 := by omega
    have hrn : ∀ q ∈ r, q.n ≤ 1000000000 := fun q h => by have := f3 q h; omega
    clear hf
    go_wp2_with fail
    refine (few_any s B m d r 12 _ (hq.below hb) (by omega)).mono ?_; rw [HF.out]; rintro e w2 ⟨rfl, b2⟩
    have hP := hP.below b2
    have hb := bel hb b2
    clear b2 p0 p1 p2 p3 p4 p5
    obtain ⟨p0, p1, p2, p3, p4, p5⟩ := hP.cells
    by_cases h12 : 12 < n
    · go_wp2_with fail
      go_ret
      exact ⟨rfl, hb⟩
    · have hq12 : decide ((12 : Int) < n) = false := by simp; omega
      go_wp2_with fail
      refine (loads_any s B m d r A n c l _ (hs.below hb) hsn (hq.below hb) (by omega) hrn (hl.below hb) (by omega)).mono ?_
      rintro e w3 ⟨b3, hok⟩
      have hP := hP.below b3
      have hb := bel hb b3
      clear b3 p0 p1 p2 p3 p4 p5
      obtain ⟨p0, p1, p2, p3, p4, p5⟩ := hP.cells
      rcases hok with ⟨hld, g, rfl, hg, hT⟩ | ⟨hno, rfl⟩
      · clear hT hg
        go_wp2_with fail
        refine (part_any A n c l bits true _ (hl.below hb) (by omega) hbi.1 hbi.2).mono ?_
        rintro e w4 ⟨⟨A4, n4, c4, rfl, hL4⟩, b4⟩
        have hP := hP.below b4
        have hb := bel hb b4
        clear b4 p0 p1 p2 p3 p4 p5
        obtain ⟨p0, p1, p2, p3, p4, p5⟩ := hP.cells
        have n4le : n4 ≤ 12 := by have := T.part_len bits true l 0; rw [hL4.1]; have := hl.1; omega
        have S0 : SAt w4 w.heap.size s w4 := ⟨Below.refl _ _, p0, p1, p2, p3, p4, p5⟩
        have hS : ∀ w', SAt w4 w.heap.size s w' → Ints w' s.A s.n s.l := fun w' h => (hs.below hb).below h.1
        have hQ : ∀ w', SAt w4 w.heap.size s w' → Reqs w' B m r := fun w' h => (hq.below hb).below h.1
        have hL : ∀ w', SAt w4 w.heap.size s w' → Ints w' A n l := fun w' h => (hl.below hb).below h.1
        have HN := Lib.hid (T.fits_nil hld)
        have HR1 := Lib.hid (T.fits_rev s r l)
        have HR2 := Lib.hid (T.weight_rev s r l)
        go_wp2_with fail
        clear p0 p1 p2 p3 p4 p5
        go_region_held3 (fun w' => Below w4.heap.size w4 w' ∧ w'.cell? ⟨w.heap.size, 0, none⟩ = some (.int .i64 s.day) ∧ w'.cell? ⟨w.heap.size, 1, none⟩ = some (.int .i64 s.depot) ∧ w'.cell? ⟨w.heap.size, 2, none⟩ = some (.int .i64 s.start) ∧
            w'.cell? ⟨w.heap.size, 3, none⟩ = some (.int .i64 s.end_) ∧ w'.cell? ⟨w.heap.size, 4, none⟩ = some (.int .i64 s.tare) ∧ w'.cell? ⟨w.heap.size, 5, none⟩ = some (.slice s.A s.n s.c))
          (first | assumption | exact S0 | exact SAt.drew (by assumption) | exact SAt.next (by assumption) (by assumption))
          (first
            | (go_at_call 26; refine (turned_any A n c l _ (hL _ ?_) ?_).mono ?_; assumption; omega; rintro e w' ⟨⟨A5, c5, rfl, hL5⟩, hbn⟩)
            | (go_at_call_of 21 A; refine (fits_any s B m d r A n c l _ (hS _ ?_) hsn (hQ _ ?_) ?_ hrn (hL _ ?_) ?_).mono ?_; assumption; assumption; omega; assumption; omega; rintro e w' ⟨rfl, hbn⟩)
            | (go_at_call_of 21 A5; refine (fits_any s B m d r A5 n c5 l.reverse _ (hS _ ?_) hsn (hQ _ ?_) ?_ hrn hL5 ?_).mono ?_; assumption; assumption; omega; omega; rw [HR1.out]; rintro e w' ⟨rfl, hbn⟩)
            | (go_at_call_of 23 A; refine (weight_any s B m d r A n c l _ (hS _ ?_) hsn (hQ _ ?_) ?_ hrn (hL _ ?_) ?_).mono ?_; assumption; assumption; omega; assumption; omega; rintro e w' ⟨rfl, hbn⟩)
            | (go_at_call_of 23 A5; refine (weight_any s B m d r A5 n c5 l.reverse _ (hS _ ?_) hsn (hQ _ ?_) ?_ hrn hL5 ?_).mono ?_; assumption; assumption; omega; omega; rw [HR2.out]; rintro e w' ⟨rfl, hbn⟩)
            | (go_at_call 21; refine (fits_any s B m d r none 0 0 [] _ (hS _ ?_) hsn (hQ _ ?_) ?_ hrn (ints_nil _) ?_).mono ?_; assumption; assumption; omega; omega; rw [HN.out]; rintro e w' ⟨rfl, hbn⟩))
        have hH : SAt w4 w.heap.size s w' := by assumption
        obtain ⟨hbz, p0, p1, p2, p3, p4, p5⟩ := hH
        have hbF := hb.trans (hbz.mono hb.size)
        have d0 := Beh.cell p0
        have d1 := Beh.cell p1
        have d2 := Beh.cell p2
        have d3 := Beh.cell p3
        have d4 := Beh.cell p4
        have d5 := Beh.cell p5
        have CF := fun i : Beh w' => fits_any s B m d r A n c l i.val ((hs.below hbF).below i.property) hsn ((hq.below hbF).below i.property) (by omega) hrn ((hl.below hbF).below i.property) (by omega)
        have CP := fun i : Beh w' => fits_any s B m d r A4 n4 c4 (T.partFrom bits true 0 l) i.val ((hs.below hbF).below i.property) hsn ((hq.below hbF).below i.property) (by omega) hrn ((hL4.below hbz).below i.property) (by omega)
        have CW := fun i : Beh w' => weight_any s B m d r A n c l i.val ((hs.below hbF).below i.property) hsn ((hq.below hbF).below i.property) (by omega) hrn ((hl.below hbF).below i.property) (by omega)
        have CV := fun i : Beh w' => weight_any s B m d r A4 n4 c4 (T.partFrom bits true 0 l) i.val ((hs.below hbF).below i.property) hsn ((hq.below hbF).below i.property) (by omega) hrn ((hL4.below hbz).below i.property) (by omega)
        have HW := T.weight_sub hld (T.part_sub bits true l 0)
        cases hft : T.fits s r l
        · rw [hft] at CF
          go_wp2_with fail
          refine reg_beh (by kernel_rfl) (by kernel_rfl) ?_
          repeat (go_big_quiet_step ((first | (go_at_call_of 21 A; exact Beh.calls (CF _)) | (go_at_call_of 21 A4; exact Beh.calls (CP _)) | (go_at_call_of 23 A; exact Beh.calls (CW _)) | (go_at_call_of 23 A4; exact Beh.calls (CV _)))))
          refine wpQuiet_nil ?_
          rintro _ ⟨⟨w9, hb9⟩, rfl⟩
          go_wp2_with fail
          go_ret
          exact ⟨rfl, bel hbF hb9⟩
        · have hfp := T.fits_sub hft (T.part_sub bits true l 0)
          rw [hft] at CF
          rw [hfp] at CP
          go_wp2_with fail
          refine reg_beh (by kernel_rfl) (by kernel_rfl) ?_
          repeat (go_big_quiet_step ((first | (go_at_call_of 21 A; exact Beh.calls (CF _)) | (go_at_call_of 21 A4; exact Beh.calls (CP _)) | (go_at_call_of 23 A; exact Beh.calls (CW _)) | (go_at_call_of 23 A4; exact Beh.calls (CV _)))))
          refine wpQuiet_nil ?_
          rintro _ ⟨⟨w9, hb9⟩, rfl⟩
          go_wp2_with fail
          go_ret
          exact ⟨rfl, bel hbF hb9⟩
      · go_wp2_with fail
        go_ret
        exact ⟨rfl, hb⟩
end Go.Proofs.Ytdbllcphopecjaa
