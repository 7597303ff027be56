/-
The walk of the law HoursTells.
-/
import Derived.Test.YtdbllcphopecjaaH6
import Derived.Test.YtdbllcphopecjaaHR3
import Derived.Test.YtdbllcphopecjaaHR6
namespace Go.Proofs.Ytdbllcphopecjaa
open Go.RowKit

theorem both_len (la lb : List (Int × Int)) : (H.both la lb).1.length ≤ 6 := by
  unfold H.both
  split
  · split
    · simp
    · split
      · simp
      · simp; omega
  · simp

theorem few_yes3 (n : Nat) (h : n ≤ 10) : decide (n ≤ 10) = true := by simpa using h
theorem few_no3 (n : Nat) (h : ¬ n ≤ 10) : decide (n ≤ 10) = false := by simpa using h

set_option maxRecDepth 100000 in
set_option maxHeartbeats 8000000 in
theorem law_htells (A : Option Addr) (n c : Nat) (la : List (Int × Int)) (B : Option Addr) (m d : Nat) (lb : List (Int × Int)) (t s : Int) (w : World) (hla : Wins w A n la) (hlb : Wins w B m lb) :
    Calls Try.prog 7 #[.slice A n c, .slice B m d, .int .i64 t, .int .i64 s] w fun e w' => e = .returned (.bool true) ∧ Below w.heap.size w w' := by
  by_cases hn : n ≤ 10
  · have HF := Lib.hid (few_yes3 n hn)
    by_cases hm : m ≤ 10
    · have HF2 := Lib.hid (few_yes3 m hm)
      go_enter Try.func7, Try.ntmps7
      go_wp2_with fail
      refine (hsane_any _).mono ?_; rintro e w1 ⟨rfl, b1⟩
      go_wp2_with fail
      refine (hfew_any A n c _).mono ?_; rw [HF.out]; rintro e w2 ⟨rfl, rfl⟩
      go_wp2_with fail
      refine (hfew_any B m d _).mono ?_; rw [HF2.out]; rintro e w2 ⟨rfl, rfl⟩
      go_wp2_with fail
      have ha := hla.below b1
      have hb := hlb.below b1
      refine (fit_any A n c la _ _ _ ha (by omega)).mono ?_; rintro e w2 ⟨rfl, b2⟩
      obtain ⟨ha2, hb2, b2⟩ : Wins w2 A n la ∧ Wins w2 B m lb ∧ Below w.heap.size w w2 := ⟨ha.below b2, hb.below b2, bel b1 b2⟩
      clear ha hb b1
      go_wp2_with fail
      refine (rfit_any A n c la _ _ _ ha2 (by omega)).mono ?_; rintro e w3 ⟨rfl, b3⟩
      obtain ⟨ha3, hb3, b3⟩ : Wins w3 A n la ∧ Wins w3 B m lb ∧ Below w.heap.size w w3 := ⟨ha2.below b3, hb2.below b3, bel b2 b3⟩
      clear ha2 hb2 b2
      go_wp2_with fail
      refine (last_any A n c la _ _ _ ha3 (by omega)).mono ?_; rintro e w4 ⟨rfl, b4⟩
      obtain ⟨ha4, hb4, b4⟩ : Wins w4 A n la ∧ Wins w4 B m lb ∧ Below w.heap.size w w4 := ⟨ha3.below b4, hb3.below b4, bel b3 b4⟩
      clear ha3 hb3 b3
      go_wp2_with fail
      refine (rlast_any A n c la _ _ _ ha4 (by omega)).mono ?_; rintro e w5 ⟨rfl, b5⟩
      obtain ⟨ha5, hb5, b5⟩ : Wins w5 A n la ∧ Wins w5 B m lb ∧ Below w.heap.size w w5 := ⟨ha4.below b5, hb4.below b5, bel b4 b5⟩
      clear ha4 hb4 b4
      go_wp2_with fail
      refine (both_any A B n m c d la lb _ ha5 hb5 (by omega) (by omega)).mono ?_; rintro e w6 ⟨⟨L, nl, cl, rfl, hL⟩, b6⟩
      obtain ⟨ha6, hb6, b6⟩ : Wins w6 A n la ∧ Wins w6 B m lb ∧ Below w.heap.size w w6 := ⟨ha5.below b6, hb5.below b6, bel b5 b6⟩
      clear ha5 hb5 b5
      go_wp2_with fail
      refine (rboth_any A B n m c d la lb _ ha6 hb6 (by omega) (by omega)).mono ?_; rintro e w7 ⟨⟨M, nm, cm, rfl, hM⟩, b7⟩
      have hL7 := hL.below b7
      obtain ⟨ha7, b7⟩ : Wins w7 A n la ∧ Below w.heap.size w w7 := ⟨ha6.below b7, bel b6 b7⟩
      clear ha6 hb6 b6 hL
      have hnl : nl ≤ 6 := by rw [hL7.1]; exact both_len la lb
      have hnm : nm ≤ 6 := by rw [hM.1]; exact both_len la lb
      go_wp2_with fail
      refine (rsame_any L M nl nm cl cm _ _ _ hL7 hM (by omega) (by omega)).mono ?_; rintro e w8 ⟨rfl, b8⟩
      obtain ⟨ha8, b8⟩ : Wins w8 A n la ∧ Below w.heap.size w w8 := ⟨ha7.below b8, bel b7 b8⟩
      clear ha7 b7 hL7 hM
      go_wp2_with fail
      refine (hright_any A n c la _ ha8 (by omega)).mono ?_; rintro e w9 ⟨rfl, b9⟩
      obtain ⟨ha9, b9⟩ : Wins w9 A n la ∧ Below w.heap.size w w9 := ⟨ha8.below b9, bel b8 b9⟩
      clear ha8 b8
      go_wp2_with fail
      refine (rright_any A n c la _ ha9 (by omega)).mono ?_; rintro e w10 ⟨rfl, b10⟩
      obtain ⟨ha10, b10⟩ : Wins w10 A n la ∧ Below w.heap.size w w10 := ⟨ha9.below b10, bel b9 b10⟩
      clear ha9 b9
      go_wp2_with fail
      refine (open_any A n c la _ _ ha10 (by omega)).mono ?_; rintro e w11 ⟨rfl, b11⟩
      obtain ⟨ha11, b11⟩ : Wins w11 A n la ∧ Below w.heap.size w w11 := ⟨ha10.below b11, bel b10 b11⟩
      clear ha10 b10
      go_wp2_with fail
      refine (ropen_any A n c la _ _ ha11 (by omega)).mono ?_; rintro e w12 ⟨rfl, b12⟩
      go_wp2_with fail
      go_ret
      exact ⟨rfl, bel b11 b12⟩
    · have HF2 := Lib.hid (few_no3 m hm)
      go_enter Try.func7, Try.ntmps7
      go_wp2_with fail
      refine (hsane_any _).mono ?_; rintro e w1 ⟨rfl, b1⟩
      go_wp2_with fail
      refine (hfew_any A n c _).mono ?_; rw [HF.out]; rintro e w2 ⟨rfl, rfl⟩
      go_wp2_with fail
      refine (hfew_any B m d _).mono ?_; rw [HF2.out]; rintro e w2 ⟨rfl, rfl⟩
      go_wp2_with fail
      go_ret
      exact ⟨rfl, b1⟩
  · have HF := Lib.hid (few_no3 n hn)
    go_enter Try.func7, Try.ntmps7
    go_wp2_with fail
    refine (hsane_any _).mono ?_; rintro e w1 ⟨rfl, b1⟩
    go_wp2_with fail
    refine (hfew_any A n c _).mono ?_; rw [HF.out]; rintro e w2 ⟨rfl, rfl⟩
    go_wp2_with fail
    go_ret
    exact ⟨rfl, b1⟩
end Go.Proofs.Ytdbllcphopecjaa
