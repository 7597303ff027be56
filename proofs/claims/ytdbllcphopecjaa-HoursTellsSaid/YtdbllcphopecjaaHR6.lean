/-
The reference's Both in every case.
-/
import Derived.Test.YtdbllcphopecjaaHR5
namespace Go.Proofs.Ytdbllcphopecjaa
open Go.RowKit

theorem own_wins {w : World} {base : Nat} {v : Value} {n : Nat} {l : List (Int × Int)} (h : w.ownsRow base 56 2 v n (winCells l)) (hn : n = l.length) : ∃ A c, v = .slice A n c ∧ Wins w A n l := by
  obtain ⟨A, c, e, hr, _⟩ := own_form h
  exact ⟨A, c, e, hn, hr⟩

theorem rboth_end {w w1 : World} {v : Value} {m : Nat} {l la lb : List (Int × Int)} (hf : H.both la lb = (l, true)) (h : w1.ownsRow w.heap.size 56 2 v (0 + m) ([] ++ winCells l)) (hm : m = l.length) :
    ∃ A' n' c', Ending.returned (.tuple #[v, .bool true]) = .returned (.tuple #[.slice A' n' c', .bool (H.both la lb).2]) ∧ Wins w1 A' n' (H.both la lb).1 := by
  rw [Nat.zero_add, List.nil_append] at h
  obtain ⟨A, c, rfl, hw⟩ := own_wins h hm
  exact ⟨A, m, c, by rw [hf], by rw [hf]; exact hw⟩

set_option maxRecDepth 100000 in
set_option maxHeartbeats 4000000 in
theorem rboth_copy (A B : Option Addr) (n m c d : Nat) (la lb : List (Int × Int)) (w : World) (hla : Wins w A n la) (hlb : Wins w B m lb) (hra : H.right la = true) (hrb : H.right lb = true) (h0 : n = 0 ∨ (¬ n = 0 ∧ m = 0)) :
    Calls Try.prog 34 #[.slice A n c, .slice B m d] w fun e w' => (∃ A' n' c', e = .returned (.tuple #[.slice A' n' c', .bool (H.both la lb).2]) ∧ Wins w' A' n' (H.both la lb).1) ∧ Below w.heap.size w w' := by
  have hn : n ≤ 6 := by have := (H.right_bd hra).1; rw [hla.1]; exact this
  have hm : m ≤ 6 := by have := (H.right_bd hrb).1; rw [hlb.1]; exact this
  have HR := Lib.hid hra; have HS := Lib.hid hrb
  obtain ⟨i0, hi, hz0, hz1, hz2⟩ := info_parts Try.info56
  rcases h0 with h0 | ⟨h0, h1⟩
  · have HFIN := Lib.hid (show H.both la lb = (lb, true) by
      rw [H.both_eq]; unfold H.rboth
      rw [if_pos (by simp [hra, hrb]), if_pos (by rw [← hla.1]; exact h0)])
    have z1 := beq0_yes n h0
    clear hra hrb h0
    go_enter Try.func34, Try.ntmps34
    go_wp2_with fail
    refine (rright_any A n c la _ hla (by omega)).mono ?_; rw [HR.out]; rintro e w1 ⟨rfl, hb1⟩
    go_wp2_with fail
    refine (rright_any B m d lb _ (hlb.below hb1) (by omega)).mono ?_; rw [HS.out]; rintro e w2 ⟨rfl, hb2⟩
    have hb := bel hb1 hb2
    have hb2' := hlb.below hb
    clear hb1 hb2
    have hlit := World.ownsRow_lit (base := w2.heap.size) (e := 56) (size := 2) w2 #[] 0 (Nat.le_refl _) (by simp [maxLen]) rfl
    go_wp2_with (at_builtin; refine wp_append_rd rfl (.tmp 21) (.tmp 22) 29 rfl w2.heap.size 56 i0 (.agg #[.int .i64 0, .int .i64 0]) 2 16 Try.underlying29 hi hz0 hz1 hz2 rfl (by decide) _ 0 [] rfl (World.ownsRow_lit w2 #[] 0 (Nat.le_refl _) (by simp [maxLen]) rfl) B m d (winCells lb) rfl (hb2'.below ((Below.refl _ _).alloc (Nat.le_refl _) _)).2 (winCells_one lb) (by simp only [maxLen]; omega) (by omega) (by simp) ?_; intro v' w4 hown4 hgrow4 hat4)
    go_ret2
    exact ⟨rboth_end HFIN.out hown4 hb2'.1, hb.trans ((below_own ((Below.refl _ _).alloc (Nat.le_refl _) _) (Nat.le_refl _) hgrow4 (fun g h => (hlit.lt g h).1)).mono hb.size)⟩
  · have HFIN := Lib.hid (show H.both la lb = (la, true) by
      rw [H.both_eq]; unfold H.rboth
      rw [if_pos (by simp [hra, hrb]), if_neg (by rw [← hla.1]; exact h0), if_pos (by rw [← hlb.1]; exact h1)])
    have z1 := beq0_no n h0
    have z2 := beq0_yes m h1
    clear hra hrb h0 h1
    go_enter Try.func34, Try.ntmps34
    go_wp2_with fail
    refine (rright_any A n c la _ hla (by omega)).mono ?_; rw [HR.out]; rintro e w1 ⟨rfl, hb1⟩
    go_wp2_with fail
    refine (rright_any B m d lb _ (hlb.below hb1) (by omega)).mono ?_; rw [HS.out]; rintro e w2 ⟨rfl, hb2⟩
    have hb := bel hb1 hb2
    have ha2' := hla.below hb
    clear hb1 hb2
    have hlit := World.ownsRow_lit (base := w2.heap.size) (e := 56) (size := 2) w2 #[] 0 (Nat.le_refl _) (by simp [maxLen]) rfl
    go_wp2_with (at_builtin; refine wp_append_rd rfl (.tmp 27) (.tmp 28) 29 rfl w2.heap.size 56 i0 (.agg #[.int .i64 0, .int .i64 0]) 2 16 Try.underlying29 hi hz0 hz1 hz2 rfl (by decide) _ 0 [] rfl (World.ownsRow_lit w2 #[] 0 (Nat.le_refl _) (by simp [maxLen]) rfl) A n c (winCells la) rfl (ha2'.below ((Below.refl _ _).alloc (Nat.le_refl _) _)).2 (winCells_one la) (by simp only [maxLen]; omega) (by omega) (by simp) ?_; intro v' w4 hown4 hgrow4 hat4)
    go_ret2
    exact ⟨rboth_end HFIN.out hown4 ha2'.1, hb.trans ((below_own ((Below.refl _ _).alloc (Nat.le_refl _) _) (Nat.le_refl _) hgrow4 (fun g h => (hlit.lt g h).1)).mono hb.size)⟩

set_option maxHeartbeats 2000000 in
theorem rboth_no (A B : Option Addr) (n m c d : Nat) (la lb : List (Int × Int)) (w : World) (hla : Wins w A n la) (hlb : Wins w B m lb) (hn : n ≤ 1000000000) (hm : m ≤ 1000000000) (h : ¬ (H.right la = true ∧ H.right lb = true)) :
    Calls Try.prog 34 #[.slice A n c, .slice B m d] w fun e w' => (∃ A' n' c', e = .returned (.tuple #[.slice A' n' c', .bool (H.both la lb).2]) ∧ Wins w' A' n' (H.both la lb).1) ∧ Below w.heap.size w w' := by
  cases ha : H.right la
  · have HF := Lib.hid (show H.both la lb = ([], false) by simp [H.both, ha])
    go_enter Try.func34, Try.ntmps34
    go_wp2_with fail
    refine (rright_any A n c la _ hla hn).mono ?_; rw [ha]; rintro e w1 ⟨rfl, hb1⟩
    go_wp2_with fail
    go_ret2
    exact ⟨⟨none, 0, 0, by rw [HF.out]; rfl, by rw [HF.out]; exact wins_nil _⟩, hb1⟩
  · have hb : H.right lb = false := by cases hb : H.right lb; rfl; exact absurd ⟨ha, hb⟩ h
    have HF := Lib.hid (show H.both la lb = ([], false) by simp [H.both, hb])
    clear h
    go_enter Try.func34, Try.ntmps34
    go_wp2_with fail
    refine (rright_any A n c la _ hla hn).mono ?_; rw [ha]; rintro e w1 ⟨rfl, hb1⟩
    go_wp2_with fail
    refine (rright_any B m d lb _ (hlb.below hb1) hm).mono ?_; rw [hb]; rintro e w2 ⟨rfl, hb2⟩
    go_wp2_with fail
    go_ret2
    exact ⟨⟨none, 0, 0, by rw [HF.out]; rfl, by rw [HF.out]; exact wins_nil _⟩, bel hb1 hb2⟩

theorem rboth_any (A B : Option Addr) (n m c d : Nat) (la lb : List (Int × Int)) (w : World) (hla : Wins w A n la) (hlb : Wins w B m lb) (hn : n ≤ 1000000000) (hm : m ≤ 1000000000) :
    Calls Try.prog 34 #[.slice A n c, .slice B m d] w fun e w' => (∃ A' n' c', e = .returned (.tuple #[.slice A' n' c', .bool (H.both la lb).2]) ∧ Wins w' A' n' (H.both la lb).1) ∧ Below w.heap.size w w' := by
  by_cases h : H.right la = true ∧ H.right lb = true
  · by_cases h0 : n = 0
    · exact rboth_copy A B n m c d la lb w hla hlb h.1 h.2 (.inl h0)
    · by_cases h1 : m = 0
      · exact rboth_copy A B n m c d la lb w hla hlb h.1 h.2 (.inr ⟨h0, h1⟩)
      · exact rboth_loops A B n m c d la lb w hla hlb h.1 h.2 h0 h1
  · exact rboth_no A B n m c d la lb w hla hlb hn hm h
end Go.Proofs.Ytdbllcphopecjaa
