/-
The walk of hours.Right.
-/
import Derived.Test.YtdbllcphopecjaaRows
import Derived.Test.YtdbllcphopecjaaMem
import Derived.Test.YtdbllcphopecjaaHPlain
namespace Go.Proofs.Ytdbllcphopecjaa
open Go.RowKit

theorem ret_b {x y : Bool} (h : x = y) : Ending.returned (.bool x) = .returned (.bool y) := by rw [h]

set_option maxHeartbeats 1000000 in
theorem hright_any (A : Option Addr) (n c : Nat) (l : List (Int × Int)) (w : World) (hl : Wins w A n l) (hn : n ≤ 1000000000) :
    Calls Try.prog 15 #[.slice A n c] w fun e w' => e = .returned (.bool (H.right l)) ∧ Below w.heap.size w w' := by
  go_enter Try.func15, Try.ntmps15
  go_wp2
  go_loopw [3, 8] (fun vb vi wr => ∃ (b : Int) (k : Nat), vb = .int .i64 b ∧ vi = .int .i64 k ∧ k ≤ n ∧ Hid (H.rightFrom (-1) l = H.rightFrom b (l.drop k)) ∧ Below w.heap.size w wr) (fun _ vi _ => n - (intOf vi).toNat)
  case atStart => exact ⟨-1, 0, rfl, rfl, by omega, by show _ = _; rw [List.drop_zero], Below.refl _ _⟩
  case round =>
    obtain ⟨b, k, rfl, rfl, hk, hr, hb⟩ := hrel
    by_cases hlt : k < n
    · obtain ⟨ad, o, d, rfl, hg, c0, c1⟩ := (hl.below hb).at_ hlt
      have HS := Lib.hid (H.rightFrom_drop (b := b) hg)
      clear hg
      go_wp2
      all_goals first
        | (go_ret
           refine ⟨ret_b (Eq.symm ?_), hb.alloc hb.size _⟩
           unfold H.right
           rw [hr.out, HS.out]
           simp
           omega)
        | (go_roundw
           case rel => exact ⟨d, k + 1, rfl, by go_num, by omega, by show _ = _; rw [hr.out, HS.out]; simp; omega, hb.alloc hb.size _⟩
           case measure => simp [intOf]; omega)
    · obtain rfl : k = n := by omega
      have hd : l.drop k = [] := List.drop_eq_nil_of_le (by rw [← hl.1]; exact Nat.le_refl _)
      have HD := Lib.hid hd
      clear hd
      go_wp2
      go_ret
      refine ⟨ret_b (Eq.symm ?_), hb⟩
      unfold H.right
      rw [hr.out, HD.out, ← hl.1]
      simp [H.rightFrom]
      omega
end Go.Proofs.Ytdbllcphopecjaa
