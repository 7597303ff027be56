/-
The walk of the law HoursBoth.
-/
import Derived.Test.YtdbllcphopecjaaH6
import Derived.Test.YtdbllcphopecjaaHPlain4
namespace Go.Proofs.Ytdbllcphopecjaa
open Go.RowKit

theorem few_yes2 (n : Nat) (h : n ≤ 10) : decide (n ≤ 10) = true := by simpa using h
theorem few_no2 (n : Nat) (h : ¬ n ≤ 10) : decide (n ≤ 10) = false := by simpa using h

theorem both_cases {z1 x1 y1 : Bool} {z x y t : Int} (h : (z1 = true ∧ z = t) ↔ (x1 = true ∧ y1 = true ∧ x = t ∧ y = t)) :
    (z1 = true ∧ (z == t) = true ∧ x1 = true ∧ y1 = true ∧ (x == t) = true ∧ (y == t) = true) ∨
    ((z1 = false ∨ (z1 = true ∧ (z == t) = false)) ∧ (x1 = false ∨ (x1 = true ∧ y1 = false) ∨ (x1 = true ∧ y1 = true ∧ (x == t) = false) ∨ (x1 = true ∧ y1 = true ∧ (x == t) = true ∧ (y == t) = false))) := by
  by_cases hz : z = t <;> by_cases hx : x = t <;> by_cases hy : y = t <;> cases z1 <;> cases x1 <;> cases y1 <;> simp_all

set_option maxRecDepth 100000 in
set_option maxHeartbeats 8000000 in
theorem law_both_in (A B : Option Addr) (n m c d : Nat) (la lb : List (Int × Int)) (t s : Int) (w : World) (hla : Wins w A n la) (hlb : Wins w B m lb) (hn : n ≤ 10) (hm : m ≤ 10) (hra : H.right la = true) (hrb : H.right lb = true) :
    Calls Try.prog 10 #[.slice A n c, .slice B m d, .int .i64 t, .int .i64 s] w fun e w' => e = .returned (.bool true) ∧ Below w.heap.size w w' := by
  have HF := Lib.hid (few_yes2 n hn)
  have HF2 := Lib.hid (few_yes2 m hm)
  have HL := Lib.hid (H.both_law hra hrb t s)
  have HC := Lib.hid (H.both_comm hra hrb)
  have hb1 : (H.both la lb).1.length ≤ 6 := by
    by_cases h : (H.both la lb).2 = true
    · exact (H.right_bd (HL.out.2 h).1).1
    · rw [(HL.out.1 (by simpa using h)).1]; simp
  go_enter Try.func10, Try.ntmps10
  go_wp2_with fail
  refine (hsane_any _).mono ?_; rintro e w1 ⟨rfl, b1⟩
  have ha1 := hla.below b1
  have hb1' := hlb.below b1
  go_wp2_with fail
  refine (hfew_any A n c _).mono ?_; rw [HF.out]; rintro e w2 ⟨rfl, rfl⟩
  go_wp2_with fail
  refine (hfew_any B m d _).mono ?_; rw [HF2.out]; rintro e w2 ⟨rfl, rfl⟩
  go_wp2_with fail
  refine (hright_any A n c la _ ha1 (by omega)).mono ?_; rw [hra]; rintro e w2 ⟨rfl, b2⟩
  have ha2 := ha1.below b2
  have hb2 := hb1'.below b2
  go_wp2_with fail
  refine (hright_any B m d lb _ hb2 (by omega)).mono ?_; rw [hrb]; rintro e w3 ⟨rfl, b3⟩
  have ha3 := ha2.below b3
  have hb3 := hb2.below b3
  clear hra hrb ha1 ha2 hb1' hb2
  go_wp2_with fail
  refine (both_any A B n m c d la lb _ ha3 hb3 (by omega) (by omega)).mono ?_; rintro e w4 ⟨⟨L, nl, cl, rfl, hL⟩, b4⟩
  have ha4 := ha3.below b4
  have hb4 := hb3.below b4
  go_wp2_with fail
  refine (both_any B A m n d c lb la _ hb4 ha4 (by omega) (by omega)).mono ?_; rw [← HC.out]; rintro e w5 ⟨⟨M, nm, cm, rfl, hM⟩, b5⟩
  have ha5 := ha4.below b5
  have hb5 := hb4.below b5
  have hL5 := hL.below b5
  have hnl : nl ≤ 6 := by rw [hL.1]; exact hb1
  have hnm : nm ≤ 6 := by rw [hM.1]; exact hb1
  have bb := bel (bel (bel (bel b1 b2) b3) b4) b5
  clear ha3 hb3 ha4 hb4 hL b1 b2 b3 b4 b5 hb1
  go_wp2_with fail
  refine (rsame_any L M nl nm cl cm _ _ _ hL5 hM (by omega) (by omega)).mono ?_; rintro e w6 ⟨rfl, b6⟩
  have ha6 := ha5.below b6
  have hb6 := hb5.below b6
  have hL6 := hL5.below b6
  have hM6 := hM.below b6
  have bb6 := bel bb b6
  clear ha5 hb5 hL5 hM bb b6
  go_wp2_with fail
  cases ho1 : H.isOpen la t
  all_goals (refine (open_any A n c la _ _ ha6 (by omega)).mono ?_; rw [ho1]; rintro e w7 ⟨rfl, b7⟩)
  · have ha7 := ha6.below b7
    have hb7 := hb6.below b7
    have hL7 := hL6.below b7
    have bb7 := bel bb6 b7
    have hboth : (H.isOpen la t && H.isOpen lb t) = false := by rw [ho1]; rfl
    have HB := Lib.hid hboth
    clear ha6 hb6 hL6 hM6 bb6 b7 hboth
    cases hi : (H.both la lb).2
    · obtain ⟨hl0, hcase⟩ := HL.out.1 hi
      have e0 : nl = 0 := by rw [hL7.1, hl0]; rfl
      subst e0
      have HC2 := Lib.hid hcase
      clear hl0 hcase
      go_wp2_with fail
      go_ret
      exact ⟨rfl, bb7⟩
    · obtain ⟨hrl, hol, hiff⟩ := HL.out.2 hi
      rw [HB.out] at hol
      have HOL := Lib.hid hol; have HRL := Lib.hid hrl; have HIFF := Lib.hid hiff
      clear hol hrl hiff
      go_wp2_with fail
      refine (fit_any A n c la _ _ _ ha7 (by omega)).mono ?_; rintro e w8 ⟨rfl, b8⟩
      go_wp2_with fail
      refine (fit_any B m d lb _ _ _ (hb7.below b8) (by omega)).mono ?_; rintro e w9 ⟨rfl, b9⟩
      go_wp2_with fail
      refine (fit_any L nl cl _ _ _ _ ((hL7.below b8).below b9) (by omega)).mono ?_; rintro e w10 ⟨rfl, b10⟩
      go_wp2_with fail
      refine (hright_any L nl cl _ _ (((hL7.below b8).below b9).below b10) (by omega)).mono ?_; rw [HRL.out]; rintro e w11 ⟨rfl, b11⟩
      go_wp2_with fail
      refine (open_any L nl cl _ _ _ ((((hL7.below b8).below b9).below b10).below b11) (by omega)).mono ?_; rw [HOL.out]; rintro e w12 ⟨rfl, b12⟩
      have bbf := bel (bel (bel (bel (bel bb7 b8) b9) b10) b11) b12
      clear b8 b9 b10 b11 b12 bb7
      rcases both_cases HIFF.out with ⟨q1, q2, q3, q4, q5, q6⟩ | ⟨p, q⟩
      · go_wp2_with fail
        go_ret
        exact ⟨rfl, bbf⟩
      · rcases p with p | ⟨p1, p2⟩ <;> rcases q with q | ⟨q1, q⟩ | ⟨q1, q2, q⟩ | ⟨q1, q2, q3, q⟩
        all_goals
          go_wp2_with fail
          go_ret
          exact ⟨rfl, bbf⟩
  · have ha7' := ha6.below b7
    have hb7' := hb6.below b7
    have hL7' := hL6.below b7
    have bb7' := bel bb6 b7
    clear ha6 hb6 hL6 hM6 bb6 b7
    go_wp2_with fail
    cases ho2 : H.isOpen lb t
    all_goals (refine (open_any B m d lb _ _ hb7' (by omega)).mono ?_; rw [ho2]; rintro e w8 ⟨rfl, b8'⟩)
    all_goals
      have ha7 := ha7'.below b8'
      have hb7 := hb7'.below b8'
      have hL7 := hL7'.below b8'
      have bb7 := bel bb7' b8'
      clear ha7' hb7' hL7' bb7' b8'
    · have hboth : (H.isOpen la t && H.isOpen lb t) = false := by rw [ho1, ho2]; rfl
      have HB := Lib.hid hboth
      clear hboth
      cases hi : (H.both la lb).2
      · obtain ⟨hl0, hcase⟩ := HL.out.1 hi
        have e0 : nl = 0 := by rw [hL7.1, hl0]; rfl
        subst e0
        have HC2 := Lib.hid hcase
        clear hl0 hcase
        go_wp2_with fail
        go_ret
        exact ⟨rfl, bb7⟩
      · obtain ⟨hrl, hol, hiff⟩ := HL.out.2 hi
        rw [HB.out] at hol
        have HOL := Lib.hid hol; have HRL := Lib.hid hrl; have HIFF := Lib.hid hiff
        clear hol hrl hiff
        go_wp2_with fail
        refine (fit_any A n c la _ _ _ ha7 (by omega)).mono ?_; rintro e w8' ⟨rfl, b8⟩
        go_wp2_with fail
        refine (fit_any B m d lb _ _ _ (hb7.below b8) (by omega)).mono ?_; rintro e w9 ⟨rfl, b9⟩
        go_wp2_with fail
        refine (fit_any L nl cl _ _ _ _ ((hL7.below b8).below b9) (by omega)).mono ?_; rintro e w10 ⟨rfl, b10⟩
        go_wp2_with fail
        refine (hright_any L nl cl _ _ (((hL7.below b8).below b9).below b10) (by omega)).mono ?_; rw [HRL.out]; rintro e w11 ⟨rfl, b11⟩
        go_wp2_with fail
        refine (open_any L nl cl _ _ _ ((((hL7.below b8).below b9).below b10).below b11) (by omega)).mono ?_; rw [HOL.out]; rintro e w12 ⟨rfl, b12⟩
        have bbf := bel (bel (bel (bel (bel bb7 b8) b9) b10) b11) b12
        clear b8 b9 b10 b11 b12 bb7
        rcases both_cases HIFF.out with ⟨q1, q2, q3, q4, q5, q6⟩ | ⟨p, q⟩
        · go_wp2_with fail
          go_ret
          exact ⟨rfl, bbf⟩
        · rcases p with p | ⟨p1, p2⟩ <;> rcases q with q | ⟨q1, q⟩ | ⟨q1, q2, q⟩ | ⟨q1, q2, q3, q⟩
          all_goals
            go_wp2_with fail
            go_ret
            exact ⟨rfl, bbf⟩
    · have hboth : (H.isOpen la t && H.isOpen lb t) = true := by rw [ho1, ho2]; rfl
      have HB := Lib.hid hboth
      clear hboth
      cases hi : (H.both la lb).2
      · obtain ⟨hl0, hcase⟩ := HL.out.1 hi
        have e0 : nl = 0 := by rw [hL7.1, hl0]; rfl
        subst e0
        have hlt : 6 < n + m := by
          rcases hcase with h | h
          · rw [HB.out] at h; cases h
          · rw [← ha7.1, ← hb7.1] at h; exact h
        have hlt2 : decide ((6 : Int) < (n : Int) + (m : Int)) = true := by simp; omega
        have HLT := Lib.hid hlt2
        clear hl0 hcase hlt2
        go_wp2_with fail
        go_ret
        exact ⟨ret_b HLT.out, bb7⟩
      · obtain ⟨hrl, hol, hiff⟩ := HL.out.2 hi
        rw [HB.out] at hol
        have HOL := Lib.hid hol; have HRL := Lib.hid hrl; have HIFF := Lib.hid hiff
        clear hol hrl hiff
        go_wp2_with fail
        refine (fit_any A n c la _ _ _ ha7 (by omega)).mono ?_; rintro e w8' ⟨rfl, b8⟩
        go_wp2_with fail
        refine (fit_any B m d lb _ _ _ (hb7.below b8) (by omega)).mono ?_; rintro e w9 ⟨rfl, b9⟩
        go_wp2_with fail
        refine (fit_any L nl cl _ _ _ _ ((hL7.below b8).below b9) (by omega)).mono ?_; rintro e w10 ⟨rfl, b10⟩
        go_wp2_with fail
        refine (hright_any L nl cl _ _ (((hL7.below b8).below b9).below b10) (by omega)).mono ?_; rw [HRL.out]; rintro e w11 ⟨rfl, b11⟩
        go_wp2_with fail
        refine (open_any L nl cl _ _ _ ((((hL7.below b8).below b9).below b10).below b11) (by omega)).mono ?_; rw [HOL.out]; rintro e w12 ⟨rfl, b12⟩
        have bbf := bel (bel (bel (bel (bel bb7 b8) b9) b10) b11) b12
        clear b8 b9 b10 b11 b12 bb7
        rcases both_cases HIFF.out with ⟨q1, q2, q3, q4, q5, q6⟩ | ⟨p, q⟩
        · go_wp2_with fail
          go_ret
          exact ⟨rfl, bbf⟩
        · rcases p with p | ⟨p1, p2⟩ <;> rcases q with q | ⟨q1, q⟩ | ⟨q1, q2, q⟩ | ⟨q1, q2, q3, q⟩
          all_goals
            go_wp2_with fail
            go_ret
            exact ⟨rfl, bbf⟩

theorem law_both_out (A B : Option Addr) (n m c d : Nat) (la lb : List (Int × Int)) (t s : Int) (w : World) (hla : Wins w A n la) (hlb : Wins w B m lb) (h : ¬ (n ≤ 10 ∧ m ≤ 10 ∧ H.right la = true ∧ H.right lb = true)) :
    Calls Try.prog 10 #[.slice A n c, .slice B m d, .int .i64 t, .int .i64 s] w fun e w' => e = .returned (.bool true) ∧ Below w.heap.size w w' := by
  by_cases hn : n ≤ 10
  · have HF := Lib.hid (few_yes2 n hn)
    by_cases hm : m ≤ 10
    · have HF2 := Lib.hid (few_yes2 m hm)
      cases hra : H.right la
      · clear h
        go_enter Try.func10, Try.ntmps10
        go_wp2_with fail
        refine (hsane_any _).mono ?_; rintro e w1 ⟨rfl, b1⟩
        go_wp2_with fail
        refine (hfew_any A n c _).mono ?_; rw [HF.out]; rintro e w2 ⟨rfl, rfl⟩
        go_wp2_with fail
        refine (hfew_any B m d _).mono ?_; rw [HF2.out]; rintro e w2 ⟨rfl, rfl⟩
        go_wp2_with fail
        refine (hright_any A n c la _ (hla.below b1) (by omega)).mono ?_; rw [hra]; rintro e w2 ⟨rfl, b2⟩
        go_wp2_with fail
        go_ret
        exact ⟨rfl, bel b1 b2⟩
      · have hrb : H.right lb = false := by cases hrb : H.right lb; rfl; exact absurd ⟨hn, hm, hra, hrb⟩ h
        clear h
        go_enter Try.func10, Try.ntmps10
        go_wp2_with fail
        refine (hsane_any _).mono ?_; rintro e w1 ⟨rfl, b1⟩
        go_wp2_with fail
        refine (hfew_any A n c _).mono ?_; rw [HF.out]; rintro e w2 ⟨rfl, rfl⟩
        go_wp2_with fail
        refine (hfew_any B m d _).mono ?_; rw [HF2.out]; rintro e w2 ⟨rfl, rfl⟩
        go_wp2_with fail
        refine (hright_any A n c la _ (hla.below b1) (by omega)).mono ?_; rw [hra]; rintro e w2 ⟨rfl, b2⟩
        go_wp2_with fail
        refine (hright_any B m d lb _ ((hlb.below b1).below b2) (by omega)).mono ?_; rw [hrb]; rintro e w3 ⟨rfl, b3⟩
        go_wp2_with fail
        go_ret
        exact ⟨rfl, bel (bel b1 b2) b3⟩
    · have HF2 := Lib.hid (few_no2 m hm)
      clear h
      go_enter Try.func10, Try.ntmps10
      go_wp2_with fail
      refine (hsane_any _).mono ?_; rintro e w1 ⟨rfl, b1⟩
      go_wp2_with fail
      refine (hfew_any A n c _).mono ?_; rw [HF.out]; rintro e w2 ⟨rfl, rfl⟩
      go_wp2_with fail
      refine (hfew_any B m d _).mono ?_; rw [HF2.out]; rintro e w2 ⟨rfl, rfl⟩
      go_wp2_with fail
      go_ret
      exact ⟨rfl, b1⟩
  · have HF := Lib.hid (few_no2 n hn)
    clear h
    go_enter Try.func10, Try.ntmps10
    go_wp2_with fail
    refine (hsane_any _).mono ?_; rintro e w1 ⟨rfl, b1⟩
    go_wp2_with fail
    refine (hfew_any A n c _).mono ?_; rw [HF.out]; rintro e w2 ⟨rfl, rfl⟩
    go_wp2_with fail
    go_ret
    exact ⟨rfl, b1⟩

theorem law_both (A : Option Addr) (n c : Nat) (la : List (Int × Int)) (B : Option Addr) (m d : Nat) (lb : List (Int × Int)) (t s : Int) (w : World) (hla : Wins w A n la) (hlb : Wins w B m lb) :
    Calls Try.prog 10 #[.slice A n c, .slice B m d, .int .i64 t, .int .i64 s] w fun e w' => e = .returned (.bool true) ∧ Below w.heap.size w w' := by
  by_cases h : n ≤ 10 ∧ m ≤ 10 ∧ H.right la = true ∧ H.right lb = true
  · exact law_both_in A B n m c d la lb t s w hla hlb h.1 h.2.1 h.2.2.1 h.2.2.2
  · exact law_both_out A B n m c d la lb t s w hla hlb h
end Go.Proofs.Ytdbllcphopecjaa
