/-
The walk of the law TruckTells: the loop over the requests.
-/
import Derived.Test.YtdbllcphopecjaaT10
import Derived.Test.YtdbllcphopecjaaT23
import Derived.Deep.RegionHeld3
import Derived.Test.YtdbllcphopecjaaReg
namespace Go.Proofs.Ytdbllcphopecjaa
open Go.RowKit Go.Maps

/-- A world behind wr in which the shift s lies in block b. -/
def SAt (wr : World) (b : Nat) (s : S) (w' : World) : Prop := Below wr.heap.size wr w' ∧ w'.cell? ⟨b, 0, none⟩ = some (.int .i64 s.day) ∧ w'.cell? ⟨b, 1, none⟩ = some (.int .i64 s.depot) ∧ w'.cell? ⟨b, 2, none⟩ = some (.int .i64 s.start) ∧
  w'.cell? ⟨b, 3, none⟩ = some (.int .i64 s.end_) ∧ w'.cell? ⟨b, 4, none⟩ = some (.int .i64 s.tare) ∧ w'.cell? ⟨b, 5, none⟩ = some (.slice s.A s.n s.c)
theorem SAt.next {wr : World} {b : Nat} {s : S} {w' w'' : World} (hb : Below w'.heap.size w' w'') (h : SAt wr b s w') : SAt wr b s w'' := by
  obtain ⟨b, c0, c1, c2, c3, c4, c5⟩ := h
  exact ⟨bel b hb, (hb.cell (cell_lt c0)).trans c0, (hb.cell (cell_lt c1)).trans c1, (hb.cell (cell_lt c2)).trans c2, (hb.cell (cell_lt c3)).trans c3, (hb.cell (cell_lt c4)).trans c4, (hb.cell (cell_lt c5)).trans c5⟩
theorem SAt.drew {wr : World} {b : Nat} {s : S} {w' : World} (h : SAt wr b s w') : SAt wr b s w'.drew := ⟨h.1.drew, h.2⟩

theorem T.few_parts {s : S} {r : List Q} (h : T.few s r 12 = true) : s.n ≤ 6 ∧ r.length ≤ 12 ∧ ∀ q ∈ r, q.n ≤ 10 := by
  simp only [T.few, Bool.and_eq_true, Bool.not_eq_true', decide_eq_true_eq] at h
  obtain ⟨h1, h2, h3⟩ := h
  refine ⟨h2, h3, fun q hq => ?_⟩
  rw [List.take_of_length_le (by omega)] at h1
  have := List.any_eq_false.1 h1 q hq
  simpa using this

set_option maxHeartbeats 8000000 in
theorem tells_any (s : S) (B : Option Addr) (m d : Nat) (r : List Q) (A : Option Addr) (n c : Nat) (l : List Int) (w : World) (hs : Ints w s.A s.n s.l) (hq : Reqs w B m r) (hl : Ints w A n l) :
    Calls Try.prog 3 #[.agg #[.int .i64 s.day, .int .i64 s.depot, .int .i64 s.start, .int .i64 s.end_, .int .i64 s.tare, .slice s.A s.n s.c], .slice B m d, .slice A n c] w fun e w' => e = .returned (.bool true) ∧ Below w.heap.size w w' := by
  have b0 := (Below.refl w.heap.size w).alloc (Nat.le_refl _) (.cells #[.int .i64 s.day, .int .i64 s.depot, .int .i64 s.start, .int .i64 s.end_, .int .i64 s.tare, .slice s.A s.n s.c] 24)
  have hP0 := Shf.new w s
  cases hf : T.few s r 12
  · have HF := Lib.hid hf
    clear hf
    go_enter Try.func3, Try.ntmps3
    go_wp2_with fail
    refine (tsmall_any _).mono ?_; rintro e w1 ⟨rfl, b1⟩
    have hP := hP0.below b1
    have hb := bel b0 b1
    clear hP0 b0 b1
    obtain ⟨p0, p1, p2, p3, p4, p5⟩ := hP.cells
    go_wp2_with fail
    refine (few_any s B m d r 12 _ (hq.below hb) (by omega)).mono ?_; rw [HF.out]; rintro e w2 ⟨rfl, b2⟩
    go_wp2_with fail
    go_ret
    exact ⟨rfl, bel hb b2⟩
  · by_cases h20 : 20 < n
    · have HF := Lib.hid hf
      clear hf
      go_enter Try.func3, Try.ntmps3
      go_wp2_with fail
      refine (tsmall_any _).mono ?_; rintro e w1 ⟨rfl, b1⟩
      have hP := hP0.below b1
      have hb := bel b0 b1
      clear hP0 b0 b1
      obtain ⟨p0, p1, p2, p3, p4, p5⟩ := hP.cells
      go_wp2_with fail
      refine (few_any s B m d r 12 _ (hq.below hb) (by omega)).mono ?_; rw [HF.out]; rintro e w2 ⟨rfl, b2⟩
      go_wp2_with fail
      go_ret
      exact ⟨rfl, bel hb b2⟩
    · obtain ⟨f1, f2, f3⟩ := T.few_parts hf
      have HF := Lib.hid hf
      clear hf
      have hm12 : m ≤ 12 := by rw [hq.1]; omega
      go_enter Try.func3, Try.ntmps3
      go_wp2_with fail
      refine (tsmall_any _).mono ?_; rintro e w1 ⟨rfl, b1⟩
      have hP := hP0.below b1
      have hb := bel b0 b1
      clear hP0 b0 b1
      obtain ⟨p0, p1, p2, p3, p4, p5⟩ := hP.cells
      go_wp2_with fail
      refine (few_any s B m d r 12 _ (hq.below hb) (by omega)).mono ?_; rw [HF.out]; rintro e w2 ⟨rfl, b2⟩
      have hP := hP.below b2
      have hb := bel hb b2
      clear p0 p1 p2 p3 p4 p5 b2
      go_wp2_with fail
      go_loopw [8] (fun vi wr => ∃ k : Nat, vi = .int .i64 k ∧ k ≤ m ∧ Below w2.heap.size w2 wr) (fun vi _ => m - (intOf vi).toNat)
      case atStart => exact ⟨0, rfl, by omega, Below.refl _ _⟩
      case round =>
        obtain ⟨k, rfl, hk, hbr⟩ := hrel
        have hbw := hb.trans (hbr.mono hb.size)
        by_cases hlt : k < m
        · obtain ⟨ad, q, rfl, hg, hwq, c0, c1, c2, c3, c4, c5, c6⟩ := (hq.below hbw).at_ hlt
          have hq10 := f3 q (List.mem_of_getElem? hg)
          clear hg
          have hk0 : (0 : Int) ≤ (k : Int) := by omega
          have hk1 : (k : Int) < (m : Int) := by omega
          have HW : ∀ i : Beh wr, Wins i.val q.A q.n q.l := fun i => hwq.below i.property
          have d0 := Beh.cell c0
          have d1 := Beh.cell c1
          have d2 := Beh.cell c2
          have d3 := Beh.cell c3
          have d4 := Beh.cell c4
          have d5 := Beh.cell c5
          have d6 := Beh.cell c6
          have C13 := fun i : Beh wr => tright_any q i.val (HW i) (by omega)
          have C14 := fun i : Beh wr => rright29_any q i.val (HW i) (by omega)
          have C15 := fun i : Beh wr => hright_any q.A q.n q.c q.l i.val (HW i) (by omega)
          cases hr : T.right q
          · rw [hr] at C13 C14
            go_wp2_with fail
            refine reg_beh (by kernel_rfl) (by kernel_rfl) ?_
            repeat (go_big_quiet_step ((first | exact Beh.calls (C13 _) | exact Beh.calls (C14 _))))
            refine wpQuiet_nil ?_
            rintro _ ⟨⟨w5, hb5⟩, rfl⟩
            go_wp2_with fail
            go_roundw
            case rel => exact ⟨k + 1, by go_num, by omega, bel hbr hb5⟩
            case measure => simp [intOf]; omega
          · have hh : H.right q.l = true := by simp [T.right] at hr; simp [hr]
            rw [hr] at C13 C14
            rw [hh] at C15
            go_wp2_with fail
            refine reg_beh (by kernel_rfl) (by kernel_rfl) ?_
            repeat (go_big_quiet_step ((first | exact Beh.calls (C13 _) | exact Beh.calls (C14 _) | exact Beh.calls (C15 _))))
            refine wpQuiet_nil ?_
            rintro _ ⟨⟨w5, hb5⟩, rfl⟩
            go_wp2_with fail
            go_roundw
            case rel => exact ⟨k + 1, by go_num, by omega, bel hbr hb5⟩
            case measure => simp [intOf]; omega
        · have hbr' := hbr
          obtain ⟨p0, p1, p2, p3, p4, p5⟩ := (hP.below hbr).cells
          have S0 : SAt wr w.heap.size s wr := ⟨Below.refl _ _, p0, p1, p2, p3, p4, p5⟩
          have hsn : s.n ≤ 1000000000 := by omega
          have hrn : ∀ q ∈ r, q.n ≤ 1000000000 := fun q h => by have := f3 q h; omega
          have hS : ∀ w', SAt wr w.heap.size s w' → Ints w' s.A s.n s.l := fun w' h => (hs.below hbw).below h.1
          have hQ : ∀ w', SAt wr w.heap.size s w' → Reqs w' B m r := fun w' h => (hq.below hbw).below h.1
          have hL : ∀ w', SAt wr w.heap.size s w' → Ints w' A n l := fun w' h => (hl.below hbw).below h.1
          cases hld : T.load s r l
          · go_wp2_with fail
            clear p0 p1 p2 p3 p4 p5 hP hlt hk
            go_region_held3 (fun w' => Below wr.heap.size wr w' ∧ w'.cell? ⟨w.heap.size, 0, none⟩ = some (.int .i64 s.day) ∧ w'.cell? ⟨w.heap.size, 1, none⟩ = some (.int .i64 s.depot) ∧ w'.cell? ⟨w.heap.size, 2, none⟩ = some (.int .i64 s.start) ∧
                w'.cell? ⟨w.heap.size, 3, none⟩ = some (.int .i64 s.end_) ∧ w'.cell? ⟨w.heap.size, 4, none⟩ = some (.int .i64 s.tare) ∧ w'.cell? ⟨w.heap.size, 5, none⟩ = some (.slice s.A s.n s.c))
              (first | assumption | exact S0 | exact SAt.drew (by assumption) | exact SAt.next (by assumption) (by assumption))
              (first
                | (go_at_call 16; refine (check_any s _ (hS _ ?_) hsn).mono ?_; assumption; rintro e w' ⟨rfl, hbn⟩)
                | (go_at_call 17; refine (rcheck_any s _ (hS _ ?_) hsn).mono ?_; assumption; rintro e w' ⟨rfl, hbn⟩)
                | (go_at_call 19; refine (loads_any s B m d r A n c l _ (hS _ ?_) hsn (hQ _ ?_) ?_ hrn (hL _ ?_) ?_).mono ?_; assumption; assumption; omega; assumption; omega; rw [hld]; simp only [true_and, false_and, false_or, Bool.false_eq_true]; rintro e w' ⟨hbn, rfl⟩)
                | (go_at_call 20; refine (rloads_any s B m d r A n c l _ (hS _ ?_) hsn (hQ _ ?_) ?_ hrn (hL _ ?_) ?_).mono ?_; assumption; assumption; omega; assumption; omega; rw [hld]; simp only [true_and, false_and, false_or, Bool.false_eq_true]; rintro e w' ⟨hbn, rfl⟩)
                | (go_at_call 18; refine (sameInts_any _ _ 0 0 0 0 _ _ _ (ints_nil _) (ints_nil _) ?_ ?_).mono ?_; omega; omega; simp only [decide_true]; rintro e w' ⟨rfl, hbn⟩))
            have hH : SAt wr w.heap.size s w' := by assumption
            obtain ⟨hbz, p0, p1, p2, p3, p4, p5⟩ := hH
            have hbF := hbw.trans (hbz.mono hbw.size)
            have HS : ∀ i : Beh w', Ints i.val s.A s.n s.l := fun i => (hs.below hbF).below i.property
            have HQ : ∀ i : Beh w', Reqs i.val B m r := fun i => (hq.below hbF).below i.property
            have HL : ∀ i : Beh w', Ints i.val A n l := fun i => (hl.below hbF).below i.property
            have d0 := Beh.cell p0
            have d1 := Beh.cell p1
            have d2 := Beh.cell p2
            have d3 := Beh.cell p3
            have d4 := Beh.cell p4
            have d5 := Beh.cell p5
            have C21 := fun i : Beh w' => fits_any s B m d r A n c l i.val (HS i) hsn (HQ i) (by omega) hrn (HL i) (by omega)
            have C22 := fun i : Beh w' => rfits29_any s B m d r A n c l i.val (HS i) hsn (HQ i) (by omega) hrn (HL i) (by omega)
            have C23 := fun i : Beh w' => weight_any s B m d r A n c l i.val (HS i) hsn (HQ i) (by omega) hrn (HL i) (by omega)
            have C24 := fun i : Beh w' => rweight_any s B m d r A n c l i.val (HS i) hsn (HQ i) (by omega) hrn (HL i) (by omega)
            go_wp2_with fail
            refine reg_beh (by kernel_rfl) (by kernel_rfl) ?_
            repeat (go_big_quiet_step ((first | exact Beh.calls (C21 _) | exact Beh.calls (C22 _) | exact Beh.calls (C23 _) | exact Beh.calls (C24 _))))
            refine wpQuiet_nil ?_
            rintro _ ⟨⟨w9, hb9⟩, rfl⟩
            go_wp2_with fail
            go_ret
            exact ⟨rfl, bel hbF hb9⟩
          · go_wp2_with fail
            clear p0 p1 p2 p3 p4 p5 hP hlt hk
            go_region_held3 (fun w' => Below wr.heap.size wr w' ∧ w'.cell? ⟨w.heap.size, 0, none⟩ = some (.int .i64 s.day) ∧ w'.cell? ⟨w.heap.size, 1, none⟩ = some (.int .i64 s.depot) ∧ w'.cell? ⟨w.heap.size, 2, none⟩ = some (.int .i64 s.start) ∧
                w'.cell? ⟨w.heap.size, 3, none⟩ = some (.int .i64 s.end_) ∧ w'.cell? ⟨w.heap.size, 4, none⟩ = some (.int .i64 s.tare) ∧ w'.cell? ⟨w.heap.size, 5, none⟩ = some (.slice s.A s.n s.c))
              (first | assumption | exact S0 | exact SAt.drew (by assumption) | exact SAt.next (by assumption) (by assumption))
              (first
                | (go_at_call 16; refine (check_any s _ (hS _ ?_) hsn).mono ?_; assumption; rintro e w' ⟨rfl, hbn⟩)
                | (go_at_call 17; refine (rcheck_any s _ (hS _ ?_) hsn).mono ?_; assumption; rintro e w' ⟨rfl, hbn⟩)
                | (go_at_call 19; refine (loads_any s B m d r A n c l _ (hS _ ?_) hsn (hQ _ ?_) ?_ hrn (hL _ ?_) ?_).mono ?_; assumption; assumption; omega; assumption; omega; rw [hld]; simp only [true_and, false_and, or_false, reduceCtorEq]; rintro e w' ⟨hbn, g, rfl, _, hT⟩)
                | (go_at_call 20; refine (rloads_any s B m d r A n c l _ (hS _ ?_) hsn (hQ _ ?_) ?_ hrn (hL _ ?_) ?_).mono ?_; assumption; assumption; omega; assumption; omega; rw [hld]; simp only [true_and, false_and, or_false, reduceCtorEq]; rintro e w' ⟨hbn, g2, rfl, _, hT2⟩)
                | (go_at_call 18; refine (sameInts_any _ _ 3 3 3 3 _ _ _ ((hT.below hbn).ints) hT2.ints ?_ ?_).mono ?_; omega; omega; simp only [decide_true]; rintro e w' ⟨rfl, hbn⟩))
            have hH : SAt wr w.heap.size s w' := by assumption
            obtain ⟨hbz, p0, p1, p2, p3, p4, p5⟩ := hH
            have hbF := hbw.trans (hbz.mono hbw.size)
            have HS : ∀ i : Beh w', Ints i.val s.A s.n s.l := fun i => (hs.below hbF).below i.property
            have HQ : ∀ i : Beh w', Reqs i.val B m r := fun i => (hq.below hbF).below i.property
            have HL : ∀ i : Beh w', Ints i.val A n l := fun i => (hl.below hbF).below i.property
            have d0 := Beh.cell p0
            have d1 := Beh.cell p1
            have d2 := Beh.cell p2
            have d3 := Beh.cell p3
            have d4 := Beh.cell p4
            have d5 := Beh.cell p5
            have C21 := fun i : Beh w' => fits_any s B m d r A n c l i.val (HS i) hsn (HQ i) (by omega) hrn (HL i) (by omega)
            have C22 := fun i : Beh w' => rfits29_any s B m d r A n c l i.val (HS i) hsn (HQ i) (by omega) hrn (HL i) (by omega)
            have C23 := fun i : Beh w' => weight_any s B m d r A n c l i.val (HS i) hsn (HQ i) (by omega) hrn (HL i) (by omega)
            have C24 := fun i : Beh w' => rweight_any s B m d r A n c l i.val (HS i) hsn (HQ i) (by omega) hrn (HL i) (by omega)
            go_wp2_with fail
            refine reg_beh (by kernel_rfl) (by kernel_rfl) ?_
            repeat (go_big_quiet_step ((first | exact Beh.calls (C21 _) | exact Beh.calls (C22 _) | exact Beh.calls (C23 _) | exact Beh.calls (C24 _))))
            refine wpQuiet_nil ?_
            rintro _ ⟨⟨w9, hb9⟩, rfl⟩
            go_wp2_with fail
            go_ret
            exact ⟨rfl, bel hbF hb9⟩
end Go.Proofs.Ytdbllcphopecjaa
