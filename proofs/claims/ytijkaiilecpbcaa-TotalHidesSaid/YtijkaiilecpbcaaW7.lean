/-
The walk of the reference's Same.
-/
import Derived.Test.YtijkaiilecpbcaaW6
namespace Go.Proofs.Ytijkaiilecpbcaa
open Go.RowKit

theorem It.ext_iff' {a b : It} : a = b ↔ a.val = b.val ∧ a.bl = b.bl ∧ a.lt = b.lt ∧ a.rt = b.rt := by
  cases a; cases b
  simp

instance : DecidableEq It := fun a b => if h : a.val = b.val ∧ a.bl = b.bl ∧ a.lt = b.lt ∧ a.rt = b.rt then isTrue (It.ext_iff'.2 h) else isFalse (fun e => h (It.ext_iff'.1 e))

theorem take_eq_item {la lb : List It} {k : Nat} {x y : It} (hx : la[k]? = some x) (hy : lb[k]? = some y) (h : la.take k = lb.take k) : la.take (k + 1) = lb.take (k + 1) ↔ x = y := by
  rw [take_snoc hx, take_snoc hy, h]
  simp

set_option maxRecDepth 100000 in
set_option maxHeartbeats 4000000 in
theorem same_any (A B : Option Addr) (n m c d : Nat) (la lb : List It) (w : World) (hla : Items w A n la) (hlb : Items w B m lb) (hn : n ≤ 1000000000) (_ : m ≤ 1000000000) :
    Calls Try.prog 15 #[.slice A n c, .slice B m d] w fun e w' => e = .returned (.bool (decide (la = lb))) ∧ Below w.heap.size w w' := by
  by_cases hnm : n = m
  · obtain rfl := hnm
    go_enter Try.func15, Try.ntmps15
    go_wp2_with fail
    go_loopw [5] (fun vi wr => ∃ k : Nat, vi = .int .i64 k ∧ k ≤ n ∧ Hid (la.take k = lb.take k) ∧ Below w.heap.size w wr) (fun vi _ => n - (intOf vi).toNat)
    case atStart => exact ⟨0, rfl, by omega, rfl, Below.refl _ _⟩
    case round =>
      obtain ⟨k, rfl, hk, hr, hb⟩ := hrel
      by_cases hlt : k < n
      · obtain ⟨ad, x, rfl, hg, c0, c1, c2, c3⟩ := Items.at_ (hla.below hb) hlt
        obtain ⟨ad2, y, rfl, hg2, d0, d1, d2, d3⟩ := Items.at_ (hlb.below hb) hlt
        have HN := Lib.hid (take_eq_item hg hg2 hr.out)
        clear hg hg2
        obtain ⟨xv, xb, xl, xr⟩ := x
        obtain ⟨yv, yb, yl, yr⟩ := y
        simp only at c0 c1 c2 c3 d0 d1 d2 d3
        rw [It.ext_iff'] at HN
        by_cases exv : xv = yv
        rotate_left
        · have HX := Lib.hid (fun h : la = lb => exv (by have := HN.out.1 (by rw [h]); simp only at this; omega))
          have q2 : (xv == yv) = false := by simpa using exv
          clear exv
          go_wp2_with fail
          go_quiet (fail)
          go_wp2_with fail
          go_ret
          exact ⟨ret_b (Eq.symm (decide_eq_false HX.out)), below_drewN hb _⟩
        subst exv
        by_cases exb : xb = yb
        rotate_left
        · have HX := Lib.hid (fun h : la = lb => exb (by have := HN.out.1 (by rw [h]); simp only at this; omega))
          have q2 : (xb == yb) = false := by simpa using exb
          clear exb
          go_wp2_with fail
          go_quiet (fail)
          go_wp2_with fail
          go_ret
          exact ⟨ret_b (Eq.symm (decide_eq_false HX.out)), below_drewN hb _⟩
        subst exb
        by_cases exl : xl = yl
        rotate_left
        · have HX := Lib.hid (fun h : la = lb => exl (by have := HN.out.1 (by rw [h]); simp only at this; omega))
          have q2 : (xl == yl) = false := by simpa using exl
          clear exl
          go_wp2_with fail
          go_quiet (fail)
          go_wp2_with fail
          go_ret
          exact ⟨ret_b (Eq.symm (decide_eq_false HX.out)), below_drewN hb _⟩
        subst exl
        by_cases exr : xr = yr
        rotate_left
        · have HX := Lib.hid (fun h : la = lb => exr (by have := HN.out.1 (by rw [h]); simp only at this; omega))
          have q2 : (xr == yr) = false := by simpa using exr
          clear exr
          go_wp2_with fail
          go_quiet (fail)
          go_wp2_with fail
          go_ret
          exact ⟨ret_b (Eq.symm (decide_eq_false HX.out)), below_drewN hb _⟩
        subst exr
        have HX := Lib.hid (HN.out.2 ⟨rfl, rfl, rfl, rfl⟩)
        go_wp2_with fail
        go_quiet (fail)
        go_wp2_with fail
        go_roundw
        case rel => exact ⟨k + 1, by go_num, by omega, HX.out, below_drewN hb _⟩
        case measure => simp [intOf]; omega
      · have HX := Lib.hid (show la = lb by
          have h := hr.out
          rw [List.take_of_length_le (by rw [← hla.1]; omega), List.take_of_length_le (by rw [← hlb.1]; omega)] at h
          exact h)
        go_wp2_with fail
        go_ret
        exact ⟨ret_b (Eq.symm (decide_eq_true HX.out)), hb⟩
  · have HX := Lib.hid (show ¬ la = lb from fun h => hnm (by rw [hla.1, hlb.1, h]))
    have q1 : (((n : Nat) : Int) != ((m : Nat) : Int)) = true := by simp; omega
    go_enter Try.func15, Try.ntmps15
    go_wp2_with fail
    go_ret
    exact ⟨ret_b (Eq.symm (decide_eq_false HX.out)), Below.refl _ _⟩
end Go.Proofs.Ytijkaiilecpbcaa
