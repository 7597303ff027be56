/-
The walks of hours.minute, hours.all, hours.Fit.
-/
import Derived.Test.YtdbllcphopecjaaH1
namespace Go.Proofs.Ytdbllcphopecjaa
open Go.RowKit

set_option maxHeartbeats 400000 in
theorem minute_any (t : Int) (w : World) : Calls Try.prog 46 #[.int .i64 t] w fun e w' => e = .returned (.bool (H.minute t)) ∧ w = w' := by
  go_enter Try.func46, Try.ntmps46
  go_wp2
  all_goals (go_ret; refine ⟨ret_b (Eq.symm ?_), rfl⟩; unfold H.minute; simp; try omega)

theorem ret_ib {a : Int} {x : Bool} {p : Int × Bool} (h : p = (a, x)) : Ending.returned (.tuple #[.int .i64 a, .bool x]) = .returned (.tuple #[.int .i64 p.1, .bool p.2]) := by rw [h]

theorem all_wins {w w' : World} {A : Option Addr} {n : Nat} {l : List (Int × Int)} (h : Wins w A n l) (hb : Below w.heap.size w w') (h0 : n ≠ 0) : Wins w' A n (H.all l) := by
  have : H.all l = l := by unfold H.all; rw [if_neg (by rw [← h.1]; exact h0)]
  rw [this]; exact h.below hb

set_option maxHeartbeats 400000 in
theorem all_any (A : Option Addr) (n c : Nat) (l : List (Int × Int)) (w : World) (hl : Wins w A n l) (hn : n ≤ 1000000000) :
    Calls Try.prog 47 #[.slice A n c] w fun e w' => ∃ A' n' c', e = .returned (.slice A' n' c') ∧ Wins w' A' n' (H.all l) ∧ Below w.heap.size w w' := by
  by_cases h0 : n = 0
  · subst h0
    have e : H.all l = [(0, 1000000)] := by unfold H.all; rw [if_pos hl.1.symm]
    rw [e]
    clear e
    go_enter Try.func47, Try.ntmps47
    go_wp2
    go_ret
    exact ⟨_, _, _, rfl, ⟨rfl, Rd.new w _ 56 2 1 rfl⟩, (Below.refl _ _).alloc (Nat.le_refl _) _⟩
  · have e0 : ((n : Int) == 0) = false := by simp; omega
    go_enter Try.func47, Try.ntmps47
    go_wp2
    go_ret
    exact ⟨A, n, c, rfl, all_wins hl (Below.refl _ _) h0, Below.refl _ _⟩

set_option maxHeartbeats 1000000 in
theorem fit_yes (A : Option Addr) (n c : Nat) (l : List (Int × Int)) (t s : Int) (w : World) (hl : Wins w A n l) (hr : H.right l = true) (ht : 0 ≤ t ∧ t ≤ 1000000) (hs : 0 ≤ s ∧ s ≤ 1000000) :
    Calls Try.prog 29 #[.slice A n c, .int .i64 t, .int .i64 s] w fun e w' => e = .returned (.tuple #[.int .i64 (H.fitGo t s (H.all l)).1, .bool (H.fitGo t s (H.all l)).2]) ∧ Below w.heap.size w w' := by
  have hn : n ≤ 6 := by have := (H.right_bd hr).1; rw [hl.1]; exact this
  have hm1 : H.minute t = true := by simp [H.minute]; omega
  have hm2 : H.minute s = true := by simp [H.minute]; omega
  have hbd := (H.all_bd hr).2
  have hlen := (H.all_bd hr).1
  obtain ⟨t0, t1⟩ := ht
  obtain ⟨s0, s1⟩ := hs
  have HBD := Lib.hid hbd
  clear hbd
  go_enter Try.func29, Try.ntmps29
  go_wp2_with (first
    | (go_at_call 15; refine (hright_any _ _ _ l _ hl (by omega)).mono ?_; rintro e w1 ⟨rfl, hb1⟩)
    | (go_at_call 46; refine (minute_any _ _).mono ?_; rintro e w2 ⟨rfl, rfl⟩)
    | (go_at_call 47; refine (all_any _ _ _ l _ (hl.below hb1) (by omega)).mono ?_; rintro e w2 ⟨A1, n1, c1, rfl, h1, hb2⟩))
  have hn1 : n1 ≤ 6 := by rw [h1.1]; exact hlen
  have hb := bel hb1 hb2
  clear hb1 hb2
  go_loopw [27] (fun vi wr => ∃ k : Nat, vi = .int .i64 k ∧ k ≤ n1 ∧ Hid (H.fitGo t s (H.all l) = H.fitGo t s ((H.all l).drop k)) ∧ Below w2.heap.size w2 wr) (fun vi _ => n1 - (intOf vi).toNat)
  case atStart => exact ⟨0, rfl, by omega, by show _ = _; rw [List.drop_zero], Below.refl _ _⟩
  case round =>
    obtain ⟨k, rfl, hk, hr, hbr⟩ := hrel
    by_cases hlt : k < n1
    · obtain ⟨ad, o, d, rfl, hg, c0, c1⟩ := (h1.below hbr).at_ hlt
      have HS := Lib.hid (H.fitGo_drop (t := t) (s := s) hg)
      obtain ⟨o0, od, d1⟩ := HBD.out _ (List.mem_of_getElem? hg)
      have o0' : 0 ≤ o := o0
      have od' : o ≤ d := od
      have d1' : d ≤ 1000000 := d1
      clear hg o0 od d1
      by_cases hto : t < o
      · have em : max t o = o := by omega
        rw [em] at HS
        clear em
        by_cases hfit : o + s ≤ d
        · go_wp2
          go_ret2
          exact ⟨ret_ib (by rw [hr.out, HS.out, if_pos hfit]), (bel hb hbr).alloc (bel hb hbr).size _⟩
        · go_wp2
          go_roundw
          case rel => exact ⟨k + 1, by go_num, by omega, by show _ = _; rw [hr.out, HS.out, if_neg hfit], hbr.alloc hbr.size _⟩
          case measure => simp [intOf]; omega
      · have em : max t o = t := by omega
        rw [em] at HS
        clear em
        by_cases hfit : t + s ≤ d
        · go_wp2
          go_ret2
          exact ⟨ret_ib (by rw [hr.out, HS.out, if_pos hfit]), (bel hb hbr).alloc (bel hb hbr).size _⟩
        · go_wp2
          go_roundw
          case rel => exact ⟨k + 1, by go_num, by omega, by show _ = _; rw [hr.out, HS.out, if_neg hfit], hbr.alloc hbr.size _⟩
          case measure => simp [intOf]; omega
    · have hd : (H.all l).drop k = [] := List.drop_eq_nil_of_le (by rw [← h1.1]; omega)
      have HD := Lib.hid hd
      clear hd
      go_wp2
      go_ret2
      exact ⟨ret_ib (by rw [hr.out, HD.out]; rfl), bel hb hbr⟩

set_option maxHeartbeats 1000000 in
theorem fit_no (A : Option Addr) (n c : Nat) (l : List (Int × Int)) (t s : Int) (w : World) (hl : Wins w A n l) (hn : n ≤ 1000000000) (h : ¬ (H.right l = true ∧ H.minute t = true ∧ H.minute s = true)) :
    Calls Try.prog 29 #[.slice A n c, .int .i64 t, .int .i64 s] w fun e w' => e = .returned (.tuple #[.int .i64 0, .bool false]) ∧ Below w.heap.size w w' := by
  cases hr : H.right l
  · go_enter Try.func29, Try.ntmps29
    go_wp2_with (first
      | (go_at_call 15; refine (hright_any _ _ _ l _ hl (by omega)).mono ?_; rintro e w1 ⟨rfl, hb1⟩)
      | (go_at_call 46; refine (minute_any _ _).mono ?_; rintro e w2 ⟨rfl, rfl⟩))
    go_ret2
    exact ⟨rfl, hb1⟩
  · cases hm1 : H.minute t
    · go_enter Try.func29, Try.ntmps29
      go_wp2_with (first
        | (go_at_call 15; refine (hright_any _ _ _ l _ hl (by omega)).mono ?_; rintro e w1 ⟨rfl, hb1⟩)
        | (go_at_call 46; refine (minute_any _ _).mono ?_; rintro e w2 ⟨rfl, rfl⟩))
      go_ret2
      exact ⟨rfl, hb1⟩
    · have hm2 : H.minute s = false := by cases hm2 : H.minute s; rfl; exact absurd ⟨hr, hm1, hm2⟩ h
      go_enter Try.func29, Try.ntmps29
      go_wp2_with (first
        | (go_at_call 15; refine (hright_any _ _ _ l _ hl (by omega)).mono ?_; rintro e w1 ⟨rfl, hb1⟩)
        | (go_at_call 46; refine (minute_any _ _).mono ?_; rintro e w2 ⟨rfl, rfl⟩))
      go_ret2
      exact ⟨rfl, hb1⟩

theorem fit_any (A : Option Addr) (n c : Nat) (l : List (Int × Int)) (t s : Int) (w : World) (hl : Wins w A n l) (hn : n ≤ 1000000000) :
    Calls Try.prog 29 #[.slice A n c, .int .i64 t, .int .i64 s] w fun e w' => e = .returned (.tuple #[.int .i64 (H.fit l t s).1, .bool (H.fit l t s).2]) ∧ Below w.heap.size w w' := by
  by_cases h : H.right l = true ∧ H.minute t = true ∧ H.minute s = true
  · have e : H.fit l t s = H.fitGo t s (H.all l) := by unfold H.fit; rw [if_pos (by simp [h])]
    rw [e]
    exact fit_yes A n c l t s w hl h.1 (by have := h.2.1; simp [H.minute] at this; omega) (by have := h.2.2; simp [H.minute] at this; omega)
  · have e : H.fit l t s = (0, false) := by unfold H.fit; rw [if_neg (by simpa [and_assoc] using h)]
    rw [e]
    exact fit_no A n c l t s w hl hn h
end Go.Proofs.Ytdbllcphopecjaa
