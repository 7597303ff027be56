/-
The walk of the reference's IsSet.
-/
import Derived.Test.YtdbllcphopecjaaT6
namespace Go.Proofs.Ytdbllcphopecjaa
open Go.RowKit

set_option maxHeartbeats 2000000 in
theorem isSet_any (A : Option Addr) (n c : Nat) (l : List Int) (m : Int) (w : World) (hl : Ints w A n l) (hn : n ≤ 1000000000) :
    Calls Try.prog 54 #[.slice A n c, .int .i64 m] w fun e w' => e = .returned (.bool (T.isSet m l)) ∧ Below w.heap.size w w' := by
  go_enter Try.func54, Try.ntmps54
  go_wp2_with fail
  go_loopw [5] (fun vi wr => ∃ k : Nat, vi = .int .i64 k ∧ k ≤ n ∧ Hid (T.isSet m l = T.isSetFrom m (l.take k) (l.drop k)) ∧ Below w.heap.size w wr) (fun vi _ => n - (intOf vi).toNat)
  case atStart => exact ⟨0, rfl, by omega, by show _ = _; rfl, Below.refl _ _⟩
  case round =>
    obtain ⟨k, rfl, hk, hr, hb⟩ := hrel
    by_cases hlt : k < n
    · obtain ⟨ad, x, rfl, hg, c0⟩ := (hl.below hb).at_ hlt
      have HS := Lib.hid (T.isSet_drop (n := m) hg)
      by_cases h1 : 0 ≤ x
      · by_cases h2 : x < m
        · have q1 : decide (x < 0) = false := by simpa using h1
          have q2 : decide (m ≤ x) = false := by simpa using h2
          go_wp2_with fail
          obtain ⟨wo, rfl⟩ : ∃ wo : World, wo = wr := ⟨_, rfl⟩
          go_loopw [6] (fun vj wj => ∃ j : Nat, vj = .int .i64 j ∧ j ≤ k ∧ Hid ((l.take k).any (· == x) = ((l.take k).drop j).any (· == x)) ∧ Below w.heap.size w wj) (fun vj _ => k - (intOf vj).toNat)
          case atStart => exact ⟨0, rfl, by omega, by show _ = _; rw [List.drop_zero], hb⟩
          case round =>
            obtain ⟨j, rfl, hj, hs, hbj⟩ := hrel
            by_cases hjt : j < k
            · obtain ⟨ad2, y, he2, hg2, c2⟩ := (hl.below hbj).at_ (show j < n by omega)
              injection he2 with he2; subst he2
              obtain ⟨ad3, x3, he3, hg3, c3⟩ := (hl.below hbj).at_ hlt
              injection he3 with he3; subst he3
              rw [hg] at hg3; injection hg3 with hg3; subst hg3
              have HS2 := Lib.hid (T.any_take (x := x) hjt hg2)
              clear hg2
              by_cases hxy : y = x
              · have q3 : (y == x) = true := by simpa using hxy
                have HX := Lib.hid (show T.isSet m l = false by
                  rw [hr.out, HS.out, hs.out, HS2.out, q3]; simp)
                clear hxy
                go_wp2_with fail
                go_quiet (fail)
                go_wp2_with fail
                go_ret
                exact ⟨ret_b HX.out.symm, below_drewN hbj _⟩
              · have q3 : (y == x) = false := by simpa using hxy
                clear hxy
                go_wp2_with fail
                go_quiet (fail)
                go_wp2_with fail
                go_roundw
                case rel => exact ⟨j + 1, by go_num, by omega, by show _ = _; rw [hs.out, HS2.out, q3]; rfl, below_drewN hbj _⟩
                case measure => simp [intOf]; omega
            · have hd2 : (l.take k).drop j = [] := List.drop_eq_nil_of_le (by rw [List.length_take]; omega)
              have HX := Lib.hid (show T.isSet m l = T.isSetFrom m (l.take (k + 1)) (l.drop (k + 1)) by
                rw [hr.out, HS.out, hs.out, hd2]; simp [h1, h2])
              clear hd2
              go_wp2_with fail
              go_roundw
              case rel => exact ⟨k + 1, by go_num, by omega, HX.out, hbj⟩
              case measure => simp [intOf]; omega
        · have q1 : decide (x < 0) = false := by simpa using h1
          have q2 : decide (m ≤ x) = true := by simpa using h2
          have HX := Lib.hid (show T.isSet m l = false by rw [hr.out, HS.out]; simp [h2])
          clear h1 h2 hg
          go_wp2_with fail
          go_ret
          exact ⟨ret_b HX.out.symm, hb⟩
      · have q1 : decide (x < 0) = true := by simpa using h1
        have HX := Lib.hid (show T.isSet m l = false by rw [hr.out, HS.out]; simp [h1])
        clear h1 hg
        go_wp2_with fail
        go_ret
        exact ⟨ret_b HX.out.symm, hb⟩
    · have hd : l.drop k = [] := List.drop_eq_nil_of_le (by rw [← hl.1]; omega)
      have HD := Lib.hid hd
      clear hd
      go_wp2_with fail
      go_ret
      exact ⟨ret_b (Eq.symm (by rw [hr.out, HD.out]; rfl)), hb⟩
end Go.Proofs.Ytdbllcphopecjaa
