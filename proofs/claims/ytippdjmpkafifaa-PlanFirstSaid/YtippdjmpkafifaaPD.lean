/-
Routes: lists of labels that are equal; and what route.Blocks does for each label.
-/
import Derived.Test.YtippdjmpkafifaaPC
namespace Go.Proofs.Ytippdjmpkafifaa
open Go.RowKit

theorem Lb.eq_iff {a b : Lb} : a = b ↔ a.set = b.set ∧ a.last = b.last ∧ a.time = b.time := by
  cases a; cases b; simp
instance : DecidableEq Lb := fun _ _ => decidable_of_iff _ Lb.eq_iff.symm
theorem take_eq_nextl {la lb : List Lb} {k : Nat} {x y : Lb} (hx : la[k]? = some x) (hy : lb[k]? = some y) (h : la.take k = lb.take k) : la.take (k + 1) = lb.take (k + 1) ↔ x = y := by
  rw [take_snoc hx, take_snoc hy, h]
  simp

set_option maxHeartbeats 4000000 in
theorem eqlab_any (A B : Option Addr) (n m c d : Nat) (la lb : List Lb) (w : World) (hla : Labs w A n la) (hlb : Labs w B m lb) (hn : n ≤ 1000000000) (hm : m ≤ 1000000000) :
    Calls Try.prog 67 #[.slice A n c, .slice B m d] w fun e w' => e = .returned (.bool (decide (la = lb))) ∧ Below w.heap.size w w' := by
  by_cases hnm : n = m
  · obtain rfl := hnm
    go_enter Try.func67, Try.ntmps67
    go_wp2_with fail
    go_loopw [13] (fun vi wr => ∃ k : Nat, vi = .int .i64 k ∧ k ≤ n ∧ Hid (la.take k = lb.take k) ∧ Below w.heap.size w wr) (fun vi _ => n - (intOf vi).toNat)
    case atStart => exact ⟨0, rfl, by omega, rfl, Below.refl _ _⟩
    case round =>
      obtain ⟨k, rfl, hk, hr, hb⟩ := hrel
      by_cases hlt : k < n
      · obtain ⟨ad, o, rfl, hg, c0, c1, c2⟩ := Labs.at_ (Lst.below hla hb) hlt
        obtain ⟨ad2, o2, rfl, hg2, d0, d1, d2⟩ := Labs.at_ (Lst.below hlb hb) hlt
        have HN := Lib.hid (take_eq_nextl hg hg2 hr.out)
        have k0 : (0 : Int) ≤ (k : Int) := by omega
        have k1 : (k : Int) < (n : Int) := by omega
        clear hg hg2
        cases e1 : (o.set == o2.set)
        · have HX := Lib.hid (fun h => (show ¬ o = o2 from fun e => by rw [e] at e1; simp at e1) (HN.out.1 h))
          go_wp2_with fail
          go_quiet (fail)
          go_wp2_with fail
          go_ret
          exact ⟨ret_b (Eq.symm (decide_eq_false (fun h => HX.out (by rw [h])))), below_drewN hb _⟩
        cases e2 : (o.last == o2.last)
        · have HX := Lib.hid (fun h => (show ¬ o = o2 from fun e => by rw [e] at e2; simp at e2) (HN.out.1 h))
          go_wp2_with fail
          go_quiet (fail)
          go_wp2_with fail
          go_ret
          exact ⟨ret_b (Eq.symm (decide_eq_false (fun h => HX.out (by rw [h])))), below_drewN hb _⟩
        cases e3 : (o.time == o2.time)
        · have HX := Lib.hid (fun h => (show ¬ o = o2 from fun e => by rw [e] at e3; simp at e3) (HN.out.1 h))
          go_wp2_with fail
          go_quiet (fail)
          go_wp2_with fail
          go_ret
          exact ⟨ret_b (Eq.symm (decide_eq_false (fun h => HX.out (by rw [h])))), below_drewN hb _⟩
        have HX := Lib.hid (HN.out.2 (Lb.eq_iff.2 ⟨by simpa using e1, by simpa using e2, by simpa using e3⟩))
        go_wp2_with fail
        go_quiet (fail)
        go_wp2_with fail
        go_roundw
        case rel => exact ⟨k + 1, by go_num, by omega, HX.out, below_drewN hb _⟩
        case measure => simp [intOf]; omega
      · have HX := Lib.hid (show la = lb by
          have h := hr.out
          rw [List.take_of_length_le (by rw [← hla.1]; omega), List.take_of_length_le (by rw [← hlb.1]; omega)] at h
          exact h)
        go_wp2_with fail
        go_ret
        exact ⟨ret_b (Eq.symm (decide_eq_true HX.out)), hb⟩
  · have HX := Lib.hid (show ¬ la = lb from fun h => hnm (by rw [hla.1, hlb.1, h]))
    have q1 : (((n : Nat) : Int) != ((m : Nat) : Int)) = true := by simp; omega
    go_enter Try.func67, Try.ntmps67
    go_wp2_with fail
    go_ret
    exact ⟨ret_b (Eq.symm (decide_eq_false HX.out)), Below.refl _ _⟩
end Go.Proofs.Ytippdjmpkafifaa
