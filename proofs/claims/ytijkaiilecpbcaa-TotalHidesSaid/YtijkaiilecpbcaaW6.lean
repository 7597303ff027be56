/-
The walk of the reference's SameInts.
-/
import Derived.Test.YtijkaiilecpbcaaW5
namespace Go.Proofs.Ytijkaiilecpbcaa
open Go.RowKit

theorem take_eq_nexti {la lb : List Int} {k : Nat} {x y : Int} (hx : la[k]? = some x) (hy : lb[k]? = some y) (h : la.take k = lb.take k) : la.take (k + 1) = lb.take (k + 1) ↔ x = y := by
  obtain ⟨h1, e1⟩ := List.getElem?_eq_some_iff.1 hx
  obtain ⟨h2, e2⟩ := List.getElem?_eq_some_iff.1 hy
  rw [List.take_succ_eq_append_getElem h1, List.take_succ_eq_append_getElem h2, e1, e2, h]
  simp

set_option maxHeartbeats 2000000 in
theorem sameInts_any (A B : Option Addr) (n m c d : Nat) (la lb : List Int) (w : World) (hla : Ints w A n la) (hlb : Ints w B m lb) (hn : n ≤ 1000000000) (hm : m ≤ 1000000000) :
    Calls Try.prog 16 #[.slice A n c, .slice B m d] w fun e w' => e = .returned (.bool (decide (la = lb))) ∧ Below w.heap.size w w' := by
  by_cases hnm : n = m
  · obtain rfl := hnm
    go_enter Try.func16, Try.ntmps16
    go_wp2_with fail
    go_loopw [5] (fun vi wr => ∃ k : Nat, vi = .int .i64 k ∧ k ≤ n ∧ Hid (la.take k = lb.take k) ∧ Below w.heap.size w wr) (fun vi _ => n - (intOf vi).toNat)
    case atStart => exact ⟨0, rfl, by omega, rfl, Below.refl _ _⟩
    case round =>
      obtain ⟨k, rfl, hk, hr, hb⟩ := hrel
      by_cases hlt : k < n
      · obtain ⟨ad, o, rfl, hg, c0⟩ := (hla.below hb).at_ hlt
        obtain ⟨ad2, o2, rfl, hg2, c02⟩ := (hlb.below hb).at_ hlt
        have HN := Lib.hid (take_eq_nexti hg hg2 hr.out)
        clear hg hg2
        by_cases ho : o = o2
        · have HX := Lib.hid (HN.out.2 ho)
          subst ho
          go_wp2_with fail
          go_quiet (fail)
          go_wp2_with fail
          go_roundw
          case rel => exact ⟨k + 1, by go_num, by omega, HX.out, below_drewN hb _⟩
          case measure => simp [intOf]; omega
        · have HX := Lib.hid (fun h => ho (HN.out.1 h))
          have q2 : (o == o2) = false := by simpa using ho
          go_wp2_with fail
          go_quiet (fail)
          go_wp2_with fail
          go_ret
          exact ⟨ret_b (Eq.symm (decide_eq_false (fun h => HX.out (by rw [h])))), below_drewN hb _⟩
      · have HX := Lib.hid (show la = lb by
          have h := hr.out
          rw [List.take_of_length_le (by rw [← hla.1]; omega), List.take_of_length_le (by rw [← hlb.1]; omega)] at h
          exact h)
        go_wp2_with fail
        go_ret
        exact ⟨ret_b (Eq.symm (decide_eq_true HX.out)), hb⟩
  · have HX := Lib.hid (show ¬ la = lb from fun h => hnm (by rw [hla.1, hlb.1, h]))
    have q1 : (((n : Nat) : Int) != ((m : Nat) : Int)) = true := by simp; omega
    go_enter Try.func16, Try.ntmps16
    go_wp2_with fail
    go_ret
    exact ⟨ret_b (Eq.symm (decide_eq_false HX.out)), Below.refl _ _⟩
end Go.Proofs.Ytijkaiilecpbcaa
