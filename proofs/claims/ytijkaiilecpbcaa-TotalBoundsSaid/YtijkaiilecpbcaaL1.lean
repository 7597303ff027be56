/-
The walk of TotalBounds.
-/
import Derived.Test.YtijkaiilecpbcaaW18
import Derived.Test.YtijkaiilecpbcaaP3
import Derived.Test.YtijkaiilecpbcaaW5
namespace Go.Proofs.Ytijkaiilecpbcaa
open Go.RowKit

set_option maxRecDepth 100000 in
set_option maxHeartbeats 8000000 in
theorem bounds_walk (A : Option Addr) (n c : Nat) (l : List It) (B : Option Addr) (m d : Nat) (p : List Int) (C : Option Addr) (o f : Nat) (q : List Int) (t b : Int) (x y : Ln) (w : World) (hl : Items w A n l) (hp : Ints w B m p) (hq : Ints w C o q) :
    Calls Try.prog 4 #[.agg #[.slice A n c], .slice B m d, .slice C o f, .int .i64 t, .int .i64 b, .agg #[.int .i64 x.hh, .int .i64 x.cents, .int .i64 x.bl], .agg #[.int .i64 y.hh, .int .i64 y.cents, .int .i64 y.bl]] w fun e w' => e = .returned (.bool true) ∧ Below w.heap.size w w' := by
  have b0 := (((Below.refl w.heap.size w).alloc (Nat.le_refl _) (.cells #[.slice A n c] 24)).alloc (by simp) (.cells #[.int .i64 x.hh, .int .i64 x.cents, .int .i64 x.bl] 33)).alloc (by simp; omega) (.cells #[.int .i64 y.hh, .int .i64 y.cents, .int .i64 y.bl] 33)
  have hP0 := blk_alloc (blk_alloc (vbox w A n c) (.cells #[.int .i64 x.hh, .int .i64 x.cents, .int .i64 x.bl] 33)) (.cells #[.int .i64 y.hh, .int .i64 y.cents, .int .i64 y.bl] 33)
  have sz := World.size_alloc w (.cells #[.slice A n c] 24)
  have sz2 := World.size_alloc (w.alloc (.cells #[.slice A n c] 24)) (.cells #[.int .i64 x.hh, .int .i64 x.cents, .int .i64 x.bl] 33)
  have hX0 : (((w.alloc (.cells #[.slice A n c] 24)).alloc (.cells #[.int .i64 x.hh, .int .i64 x.cents, .int .i64 x.bl] 33)).alloc (.cells #[.int .i64 y.hh, .int .i64 y.cents, .int .i64 y.bl] 33)).heap[w.heap.size + 1]? = some (.cells #[.int .i64 x.hh, .int .i64 x.cents, .int .i64 x.bl] 33 (0, 0)) := blk_alloc (heap_alloc_at _ _ _ sz.symm) _
  have hY0 : (((w.alloc (.cells #[.slice A n c] 24)).alloc (.cells #[.int .i64 x.hh, .int .i64 x.cents, .int .i64 x.bl] 33)).alloc (.cells #[.int .i64 y.hh, .int .i64 y.cents, .int .i64 y.bl] 33)).heap[w.heap.size + 1 + 1]? = some (.cells #[.int .i64 y.hh, .int .i64 y.cents, .int .i64 y.bl] 33 (0, 0)) := heap_alloc_at _ _ _ (by rw [sz2, sz])
  go_enter Try.func4, Try.ntmps4
  go_wp2_with fail
  refine (sane_any _).mono ?_
  rintro e w1 ⟨rfl, b1⟩
  have hb := bel b0 b1
  have hP := blk_below b1 hP0
  have hX := blk_below b1 hX0
  have hY := blk_below b1 hY0
  have p0 := blk_cell hP 0 _ rfl
  clear b0 b1 hP0 hX0 hY0 sz sz2
  cases hf : (decide (n ≤ 60) && decide (m ≤ 10))
  · have HF := Lib.hid hf
    clear hf
    go_wp2_with fail
    refine (few_any A n c B m d 60 _).mono ?_; rw [HF.out]; rintro e w2 ⟨rfl, b2⟩
    go_wp2_with fail
    go_ret
    exact ⟨rfl, bel hb b2⟩
  have HF := Lib.hid hf
  simp only [Bool.and_eq_true, decide_eq_true_eq] at hf
  obtain ⟨hn, hm⟩ := hf
  by_cases ho : o ≤ 10
  rotate_left
  · have g1 : decide ((10 : Int) < (o : Int)) = true := by simp; omega
    go_wp2_with fail
    refine (few_any A n c B m d 60 _).mono ?_; rw [HF.out]; rintro e w2 ⟨rfl, b2⟩
    go_wp2_with fail
    go_ret
    exact ⟨rfl, bel hb b2⟩
  have g1 : decide ((10 : Int) < (o : Int)) = false := by simp; omega
  go_wp2_with fail
  refine (few_any A n c B m d 60 _).mono ?_; rw [HF.out]; rintro e w2 ⟨rfl, b2⟩
  have hb := bel hb b2
  have hP := blk_below b2 hP
  have hX := blk_below b2 hX
  have hY := blk_below b2 hY
  clear b2 p0
  have p0 := blk_cell hP 0 _ rfl
  have x0 := blk_cell hX 0 _ rfl
  have x1 := blk_cell hX 1 _ rfl
  have x2 := blk_cell hX 2 _ rfl
  go_wp2_with fail
  refine (check_any A n c l B m d p t b x _ (hl.below hb) (by omega) (hp.below hb) (by omega)).mono ?_; rintro e w3 ⟨rfl, b3⟩
  have hb := bel hb b3
  have hP := blk_below b3 hP
  have hX := blk_below b3 hX
  have hY := blk_below b3 hY
  clear b3 p0 x0 x1 x2
  have p0 := blk_cell hP 0 _ rfl
  have y0 := blk_cell hY 0 _ rfl
  have y1 := blk_cell hY 1 _ rfl
  have y2 := blk_cell hY 2 _ rfl
  go_wp2_with fail
  refine (check_any A n c l C o f q t b y _ (hl.below hb) (by omega) (hq.below hb) (by omega)).mono ?_; rintro e w4 ⟨rfl, b4⟩
  have hb := bel hb b4
  have hP := blk_below b4 hP
  have hX := blk_below b4 hX
  have hY := blk_below b4 hY
  clear b4 p0 y0 y1 y2
  have p0 := blk_cell hP 0 _ rfl
  have x1 := blk_cell hX 1 _ rfl
  have y1 := blk_cell hY 1 _ rfl
  cases h1 : K.check l p t b x
  · cases h2 : K.check l q t b y
    · clear h1 h2
      go_wp2_with fail
      go_quiet (fail)
      go_wp2_with fail
      go_ret
      exact ⟨rfl, below_drewN hb _⟩
    · have hq0 := (K.check_parts h2).2.1
      have e2 : ((o : Int) == 0) = false := by
        have := List.length_pos_iff.2 hq0
        rw [beq_eq_false_iff_ne, hq.1]; omega
      clear h1 h2 hq0
      go_wp2_with fail
      go_quiet (fail)
      go_wp2_with fail
      go_ret
      exact ⟨rfl, below_drewN hb _⟩
  · have hle := K.check_le h1
    obtain ⟨hso, hp0, _, _, hrx, _⟩ := K.check_parts h1
    have e0 : decide (t < x.cents) = false := by simp; omega
    have hm0 : 0 < m := by rw [hp.1]; exact List.length_pos_iff.2 hp0
    have e1 : ((m : Int) == 0) = false := by rw [beq_eq_false_iff_ne]; omega
    have HSO := Lib.hid hso
    have H1 := Lib.hid h1
    clear h1 hso hle
    cases h2 : K.check l q t b y
    · go_wp2_with fail
      refine (sound_any A n c l _ (hl.below hb) (by omega)).mono ?_; rw [HSO.out]; rintro e w5 ⟨rfl, b5⟩
      clear h2
      go_wp2_with fail
      go_quiet (fail)
      go_wp2_with fail
      go_ret
      exact ⟨rfl, below_drewN (bel hb b5) _⟩
    · obtain ⟨_, hq0, _, _, hry, _⟩ := K.check_parts h2
      have ho0 : 0 < o := by rw [hq.1]; exact List.length_pos_iff.2 hq0
      have e2 : ((o : Int) == 0) = false := by rw [beq_eq_false_iff_ne]; omega
      have H2 := Lib.hid h2
      clear h2
      go_wp2_with fail
      refine (sound_any A n c l _ (hl.below hb) (by omega)).mono ?_; rw [HSO.out]; rintro e w5 ⟨rfl, b5⟩
      have hb := bel hb b5
      have hX := blk_below b5 hX
      have hY := blk_below b5 hY
      clear b5 x1 y1 p0
      have x1 := blk_cell hX 1 _ rfl
      have y1 := blk_cell hY 1 _ rfl
      obtain ⟨m', rfl⟩ : ∃ k, m = k + 1 := ⟨m - 1, by omega⟩
      obtain ⟨o', rfl⟩ : ∃ k, o = k + 1 := ⟨o - 1, by omega⟩
      obtain ⟨adp, i, rfl, hi, ci⟩ := (hp.below hb).at_ (show 0 < m' + 1 by omega)
      obtain ⟨adp', j, e9, hj, cj⟩ := (hp.below hb).at_ (show m' < m' + 1 by omega)
      injection e9 with e9; subst e9
      obtain ⟨adq, i', rfl, hi', ci'⟩ := (hq.below hb).at_ (show 0 < o' + 1 by omega)
      obtain ⟨adq', j', e9, hj', cj'⟩ := (hq.below hb).at_ (show o' < o' + 1 by omega)
      injection e9 with e9; subst e9
      have HH := Lib.hid (show i = p.headD 0 by have := K.head_at hp0; rw [hi] at this; injection this)
      have HH' := Lib.hid (show i' = q.headD 0 by have := K.head_at hq0; rw [hi'] at this; injection this)
      have HJ := Lib.hid (show j = p.getLastD 0 by have := K.last_at hp0; rw [← hp.1, show m' + 1 - 1 = m' by omega, hj] at this; injection this)
      have HJ' := Lib.hid (show j' = q.getLastD 0 by have := K.last_at hq0; rw [← hq.1, show o' + 1 - 1 = o' by omega, hj'] at this; injection this)
      have da : w5.cell? adp = some (.int .i64 i) := ci
      have da' : w5.cell? adq = some (.int .i64 i') := ci'
      have u0 : (0 : Int) ≤ (m' : Int) := by omega
      have u1 : (m' : Int) < ((m' + 1 : Nat) : Int) := by omega
      have u1' : (m' : Int) < (m' : Int) + 1 := by omega
      have u2 : m' < m' + 1 := by omega
      have v0 : (0 : Int) ≤ (o' : Int) := by omega
      have v1 : (o' : Int) < ((o' + 1 : Nat) : Int) := by omega
      have v1' : (o' : Int) < (o' : Int) + 1 := by omega
      have v2 : o' < o' + 1 := by omega
      have k1 : IntKind.i64.wrap ((m' : Int) + 1 - 1) = m' := by rw [IntWalk.i64_in _ (by omega)]; omega
      have k2 : IntKind.i64.wrap (((m' + 1 : Nat) : Int) - 1) = m' := by rw [IntWalk.i64_in _ (by omega)]; omega
      have k3 : IntKind.i64.wrap (m' : Int) = m' := IntWalk.i64_in _ (by omega)
      have k4 : IntKind.i64.wrap ((o' : Int) + 1 - 1) = o' := by rw [IntWalk.i64_in _ (by omega)]; omega
      have k5 : IntKind.i64.wrap (((o' + 1 : Nat) : Int) - 1) = o' := by rw [IntWalk.i64_in _ (by omega)]; omega
      have k6 : IntKind.i64.wrap (o' : Int) = o' := IntWalk.i64_in _ (by omega)
      have rx := K.right_cents hrx
      have ry := K.right_cents hry
      clear hi hj hi' hj' hp0 hq0 hrx hry ci ci'
      cases t1 : (i == i')
      · have t2 : (i != i') = true := by simp [bne, t1]
        clear t1
        go_wp2_with fail
        go_quiet (fail)
        go_wp2_with fail
        go_ret
        exact ⟨rfl, below_drewN hb _⟩
      · have t2 : (i != i') = false := by simp [bne, t1]
        cases t3 : (j == j')
        · have hsum : x.cents + y.cents ≤ t := K.check_two H1.out H2.out (by rw [← HH.out, ← HH'.out]; simpa using t1) (by rw [← HJ.out, ← HJ'.out]; simpa using t3)
          have t4 : decide (x.cents + y.cents ≤ t) = true := by simpa using hsum
          clear t1
          go_wp2_with fail
          go_quiet (fail)
          go_wp2_with fail
          go_ret
          exact ⟨rfl, below_drewN hb _⟩
        · clear t1
          go_wp2_with fail
          go_quiet (fail)
          go_wp2_with fail
          go_ret
          exact ⟨rfl, below_drewN hb _⟩
end Go.Proofs.Ytijkaiilecpbcaa
