/-
The walk of the reference's Few.
-/
import Derived.Test.YtdbllcphopecjaaT9
namespace Go.Proofs.Ytdbllcphopecjaa
open Go.RowKit

set_option maxHeartbeats 2000000 in
theorem few_any (s : S) (B : Option Addr) (m d : Nat) (r : List Q) (most : Nat) (w : World) (hq : Reqs w B m r) (hmo : most ≤ 1000) :
    Calls Try.prog 12 #[.agg #[.int .i64 s.day, .int .i64 s.depot, .int .i64 s.start, .int .i64 s.end_, .int .i64 s.tare, .slice s.A s.n s.c], .slice B m d, .int .i64 most] w fun e w' => e = .returned (.bool (T.few s r most)) ∧ Below w.heap.size w w' := by
  go_enter Try.func12, Try.ntmps12
  go_wp2_with fail
  go_loopw [7] (fun vi wr => ∃ k : Nat, vi = .int .i64 k ∧ k ≤ m ∧ k ≤ most + 1 ∧ Hid (T.few s r most = (!(((r.take (most + 1)).drop k).any fun q => decide (10 < q.n)) && (decide (s.n ≤ 6) && decide (r.length ≤ most)))) ∧ (w.alloc (.cells #[.int .i64 s.day, .int .i64 s.depot, .int .i64 s.start, .int .i64 s.end_, .int .i64 s.tare, .slice s.A s.n s.c] 24)) = wr) (fun vi _ => m - (intOf vi).toNat)
  case atStart => exact ⟨0, rfl, by omega, by omega, by show _ = _; rfl, rfl⟩
  case round =>
    obtain ⟨k, rfl, hk, hk2, hr, rfl⟩ := hrel
    have hbr : Below w.heap.size w (w.alloc (.cells #[.int .i64 s.day, .int .i64 s.depot, .int .i64 s.start, .int .i64 s.end_, .int .i64 s.tare, .slice s.A s.n s.c] 24)) := (Below.refl _ _).alloc (Nat.le_refl _) _
    by_cases hlt : k < m
    · by_cases hlm : k ≤ most
      · obtain ⟨ad, q, rfl, hg, hwq, c0, c1, c2, c3, c4, c5, c6⟩ := (hq.below hbr).at_ hlt
        have HS := Lib.hid (T.few_take (show k < most + 1 by omega) hg fun q => decide (10 < q.n))
        clear hg
        cases h10 : decide ((10 : Int) < q.n)
        · have HN := Lib.hid (show decide (10 < q.n) = false by simp at h10 ⊢; omega)
          go_wp2_with fail
          go_roundw
          case rel => exact ⟨k + 1, by go_num, by omega, by omega, by show _ = _; rw [hr.out, HS.out, HN.out]; rfl, trivial⟩
          case measure => simp [intOf]; omega
        · have HN := Lib.hid (show decide (10 < q.n) = true by simp at h10 ⊢; omega)
          go_wp2_with fail
          go_ret
          exact ⟨ret_b (Eq.symm (by rw [hr.out, HS.out, HN.out]; rfl)), hbr⟩
      · have hd : (r.take (most + 1)).drop k = [] := List.drop_eq_nil_of_le (by rw [List.length_take]; omega)
        have HD := Lib.hid (show T.few s r most = false by rw [hr.out, hd, ← hq.1]; simp; omega)
        clear hd
        have q1 : decide ((k : Int) ≤ most) = false := by simpa using hlm
        have q2 : decide ((m : Int) ≤ most) = false := by simp; omega
        cases h6 : decide ((s.n : Int) ≤ 6)
        · go_wp2_with fail
          go_ret
          exact ⟨ret_b HD.out.symm, hbr⟩
        · have HF := Lib.hid (show T.few s r most = decide (m ≤ most) by rw [HD.out]; simp; omega)
          go_wp2_with fail
          go_ret
          exact ⟨ret_b HF.out.symm, hbr⟩
    · have hd : (r.take (most + 1)).drop k = [] := List.drop_eq_nil_of_le (by rw [List.length_take, ← hq.1]; omega)
      have HD := Lib.hid (show T.few s r most = (decide (s.n ≤ 6) && decide (r.length ≤ most)) by rw [hr.out, hd]; rfl)
      clear hd
      cases h6 : decide ((s.n : Int) ≤ 6)
      · have HF := Lib.hid (show T.few s r most = false by rw [HD.out]; simp at h6 ⊢; omega)
        go_wp2_with fail
        go_ret
        exact ⟨ret_b HF.out.symm, hbr⟩
      · have HF := Lib.hid (show T.few s r most = decide (m ≤ most) by rw [HD.out, ← hq.1]; simp at h6 ⊢; omega)
        go_wp2_with fail
        go_ret
        exact ⟨ret_b HF.out.symm, hbr⟩
end Go.Proofs.Ytdbllcphopecjaa
