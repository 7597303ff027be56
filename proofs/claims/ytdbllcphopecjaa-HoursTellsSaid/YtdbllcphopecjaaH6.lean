/-
hours.Both in every case; the examples.
-/
import Derived.Test.YtdbllcphopecjaaH5
import Derived.Test.YtdbllcphopecjaaLast2
import Derived.Test.YtdbllcphopecjaaHR4
namespace Go.Proofs.Ytdbllcphopecjaa
open Go.RowKit

set_option maxHeartbeats 2000000 in
theorem both_no (A B : Option Addr) (n m c d : Nat) (la lb : List (Int × Int)) (w : World) (hla : Wins w A n la) (hlb : Wins w B m lb) (hn : n ≤ 1000000000) (hm : m ≤ 1000000000) (h : ¬ (H.right la = true ∧ H.right lb = true) ∨ (n = 0 ∧ m = 0)) :
    Calls Try.prog 33 #[.slice A n c, .slice B m d] w fun e w' => (∃ A' n' c', e = .returned (.tuple #[.slice A' n' c', .bool (H.both la lb).2]) ∧ Wins w' A' n' (H.both la lb).1) ∧ Below w.heap.size w w' := by
  cases ha : H.right la
  · have HF := Lib.hid (show H.both la lb = ([], false) by simp [H.both, ha])
    go_enter Try.func33, Try.ntmps33
    go_wp2_with fail
    refine (hright_any A n c la _ hla hn).mono ?_; rintro e w1 ⟨rfl, hb1⟩
    go_wp2_with fail
    go_ret2
    exact ⟨⟨none, 0, 0, by rw [HF.out]; rfl, by rw [HF.out]; exact wins_nil _⟩, hb1⟩
  · cases hb : H.right lb
    · have HF := Lib.hid (show H.both la lb = ([], false) by simp [H.both, hb])
      go_enter Try.func33, Try.ntmps33
      go_wp2_with fail
      refine (hright_any A n c la _ hla hn).mono ?_; rw [ha]; rintro e w1 ⟨rfl, hb1⟩
      go_wp2_with fail
      refine (hright_any B m d lb _ (hlb.below hb1) hm).mono ?_; rw [hb]; rintro e w2 ⟨rfl, hb2⟩
      go_wp2_with fail
      go_ret2
      exact ⟨⟨none, 0, 0, by rw [HF.out]; rfl, by rw [HF.out]; exact wins_nil _⟩, bel hb1 hb2⟩
    · rcases h with h | ⟨rfl, rfl⟩
      · exact absurd ⟨ha, hb⟩ h
      · have HF := Lib.hid (show H.both la lb = ([], true) by
          have e1 := List.length_eq_zero_iff.1 hla.1.symm
          have e2 := List.length_eq_zero_iff.1 hlb.1.symm
          subst e1 e2; simp [H.both, ha])
        go_enter Try.func33, Try.ntmps33
        go_wp2_with fail
        refine (hright_any A 0 c la _ hla (by omega)).mono ?_; rw [ha]; rintro e w1 ⟨rfl, hb1⟩
        go_wp2_with fail
        refine (hright_any B 0 d lb _ (hlb.below hb1) (by omega)).mono ?_; rw [hb]; rintro e w2 ⟨rfl, hb2⟩
        go_wp2_with fail
        go_ret2
        exact ⟨⟨none, 0, 0, by rw [HF.out]; rfl, by rw [HF.out]; exact wins_nil _⟩, bel hb1 hb2⟩

theorem both_any (A B : Option Addr) (n m c d : Nat) (la lb : List (Int × Int)) (w : World) (hla : Wins w A n la) (hlb : Wins w B m lb) (hn : n ≤ 1000000000) (hm : m ≤ 1000000000) :
    Calls Try.prog 33 #[.slice A n c, .slice B m d] w fun e w' => (∃ A' n' c', e = .returned (.tuple #[.slice A' n' c', .bool (H.both la lb).2]) ∧ Wins w' A' n' (H.both la lb).1) ∧ Below w.heap.size w w' := by
  by_cases h : (H.right la = true ∧ H.right lb = true) ∧ ¬ (n = 0 ∧ m = 0)
  · exact both_loops A B n m c d la lb w hla hlb h.1.1 h.1.2 h.2
  · exact both_no A B n m c d la lb w hla hlb hn hm (by
      by_cases h1 : H.right la = true ∧ H.right lb = true
      · right; exact Classical.byContradiction fun h2 => h ⟨h1, h2⟩
      · exact .inl h1)

set_option maxHeartbeats 400000 in
theorem hexample_any (w : World) : Calls Try.prog 45 #[] w fun e w' => (∃ A c, e = .returned (.slice A 2 c) ∧ Wins w' A 2 [(480, 720), (780, 1020)]) ∧ Below w.heap.size w w' := by
  go_enter Try.func45, Try.ntmps45
  go_wp2
  go_ret
  exact ⟨⟨_, _, rfl, rfl, Rd.new w _ 56 2 2 rfl⟩, (Below.refl _ _).alloc (Nat.le_refl _) _⟩

set_option maxHeartbeats 400000 in
theorem hfew_any (A : Option Addr) (n c : Nat) (w : World) : Calls Try.prog 28 #[.slice A n c] w fun e w' => e = .returned (.bool (decide (n ≤ 10))) ∧ w = w' := by
  by_cases h : n ≤ 10
  · go_enter Try.func28, Try.ntmps28
    go_wp2
    go_ret
    exact ⟨ret_b (by rw [Bool.eq_iff_iff]; simp; omega), rfl⟩
  · go_enter Try.func28, Try.ntmps28
    go_wp2
    go_ret
    exact ⟨ret_b (by rw [Bool.eq_iff_iff]; simp; omega), rfl⟩

set_option maxRecDepth 100000 in
set_option maxHeartbeats 4000000 in
theorem hsane_any (w : World) : Calls Try.prog 27 #[] w fun e w' => e = .returned (.bool true) ∧ Below w.heap.size w w' := by
  have d1 := Lib.hid (show H.fit [(480, 720), (780, 1020)] 700 20 = (700, true) by decide)
  have d2 := Lib.hid (show H.fit [(480, 720), (780, 1020)] 700 21 = (780, true) by decide)
  have d3 := Lib.hid (show H.fit [(480, 720), (780, 1020)] 1000 30 = (0, false) by decide)
  have d4 := Lib.hid (show H.last [(480, 720), (780, 1020)] 800 30 = (690, true) by decide)
  have d5 := Lib.hid (show H.both [(480, 720), (780, 1020)] [(700, 800)] = ([(700, 720), (780, 800)], true) by decide)
  have d6 := Lib.hid (show H.isOpen [(480, 720), (780, 1020)] 720 = true by decide)
  have d7 := Lib.hid (show H.isOpen [(480, 720), (780, 1020)] 721 = false by decide)
  go_enter Try.func27, Try.ntmps27
  go_wp2_with fail
  refine (hexample_any _).mono ?_; rintro e w1 ⟨⟨A, c, rfl, hl⟩, b1⟩
  go_wp2_with fail
  refine (fit_any A 2 c _ _ _ _ hl (by omega)).mono ?_; rw [d1.out]; rintro e w2 ⟨rfl, b2⟩
  go_wp2_with fail
  have hl2 := hl.below b2
  refine (fit_any A 2 c _ _ _ _ hl2 (by omega)).mono ?_; rw [d2.out]; rintro e w3 ⟨rfl, b3⟩
  go_wp2_with fail
  have hl3 := hl2.below b3
  refine (fit_any A 2 c _ _ _ _ hl3 (by omega)).mono ?_; rw [d3.out]; rintro e w4 ⟨rfl, b4⟩
  go_wp2_with fail
  have hl4 := hl3.below b4
  refine (last_any A 2 c _ _ _ _ hl4 (by omega)).mono ?_; rw [d4.out]; rintro e w5 ⟨rfl, b5⟩
  go_wp2_with fail
  have hl5 := (hl4.below b5).below ((Below.refl _ _).alloc (Nat.le_refl _) (.cells #[.int .i64 700, .int .i64 800] 56))
  refine (both_any A _ 2 1 c 1 _ [(700, 800)] _ hl5 ⟨rfl, Rd.new w5 _ 56 2 1 rfl⟩ (by omega) (by omega)).mono ?_; rw [d5.out]; rintro e w6 ⟨⟨A6, n6, c6, rfl, h6⟩, b6⟩
  have hn6 : n6 ≤ 2 := by rw [h6.1]; exact Nat.le_refl _
  go_wp2_with fail
  have hl6 := hl5.below b6
  refine (open_any A 2 c _ _ _ hl6 (by omega)).mono ?_; rw [d6.out]; rintro e w7 ⟨rfl, b7⟩
  go_wp2_with fail
  have hl7 := hl6.below b7
  refine (open_any A 2 c _ _ _ hl7 (by omega)).mono ?_; rw [d7.out]; rintro e w8 ⟨rfl, b8⟩
  go_wp2_with fail
  have h8 := ((h6.below b7).below b8).below ((Below.refl _ _).alloc (Nat.le_refl _) (.cells #[.int .i64 700, .int .i64 720, .int .i64 780, .int .i64 800] 56))
  refine (rsame_any A6 _ n6 2 c6 2 _ [(700, 720), (780, 800)] _ h8 ⟨rfl, Rd.new w8 _ 56 2 2 rfl⟩ (by omega) (by omega)).mono ?_; rintro e w9 ⟨rfl, b9⟩
  go_wp2_with fail
  go_ret
  exact ⟨rfl, bel (bel (bel (bel (bel (bel (bel (bel (bel (bel b1 b2) b3) b4) b5) ((Below.refl _ _).alloc (Nat.le_refl _) _)) b6) b7) b8) ((Below.refl _ _).alloc (Nat.le_refl _) _)) b9⟩
end Go.Proofs.Ytdbllcphopecjaa
