/-
The walk of the reference's Right, Minute, Fits.
-/
import Derived.Test.YtdbllcphopecjaaH3
import Derived.Deep.QuietTactic
import Derived.BigQuiet
namespace Go.Proofs.Ytdbllcphopecjaa
open Go.RowKit

theorem below_drewN {B : Nat} {a w : World} (h : Below B a w) (n : Nat) : Below B a (w.drewN n) := ⟨h.os, h.tape, h.output, h.size, h.block⟩

theorem right_no {b o d : Int} {l r r' : List (Int × Int)} (h : H.rightFrom (-1) l = H.rightFrom b r) (h1 : H.rightFrom b r = (!(decide (o ≤ b) || decide (o < 0) || decide (d < o) || decide (1000000 < d)) && H.rightFrom d r')) (h2 : o ≤ b ∨ o < 0 ∨ d < o ∨ 1000000 < d) : H.right l = false := by
  unfold H.right
  rw [h, h1]
  have : (!(decide (o ≤ b) || decide (o < 0) || decide (d < o) || decide (1000000 < d))) = false := by simp; omega
  rw [this]
  simp

set_option maxHeartbeats 400000 in
theorem rminute_any (t : Int) (w : World) : Calls Try.prog 48 #[.int .i64 t] w fun e w' => e = .returned (.bool (H.minute t)) ∧ w = w' := by
  go_enter Try.func48, Try.ntmps48
  go_wp2
  all_goals (go_ret; refine ⟨ret_b (Eq.symm ?_), rfl⟩; unfold H.minute; simp; try omega)

set_option maxHeartbeats 2000000 in
theorem rright_any (A : Option Addr) (n c : Nat) (l : List (Int × Int)) (w : World) (hl : Wins w A n l) (hn : n ≤ 1000000000) :
    Calls Try.prog 36 #[.slice A n c] w fun e w' => e = .returned (.bool (H.right l)) ∧ Below w.heap.size w w' := by
  go_enter Try.func36, Try.ntmps36
  go_wp2
  go_loopw [3] (fun vi wr => ∃ (k : Nat) (b : Int), vi = .int .i64 k ∧ k ≤ n ∧ k ≤ 7 ∧ Hid (H.rightFrom (-1) l = H.rightFrom b (l.drop k)) ∧ Hid ((k = 0 ∧ b = -1) ∨ ∃ o, 0 < k ∧ l[k-1]? = some (o, b)) ∧ Below w.heap.size w wr) (fun vi _ => n - (intOf vi).toNat)
  case atStart => exact ⟨0, -1, rfl, by omega, by omega, by show _ = _; rw [List.drop_zero], .inl ⟨rfl, rfl⟩, Below.refl _ _⟩
  case round =>
    obtain ⟨k, b, rfl, hk, hk7, hr, hp, hb⟩ := hrel
    by_cases hlt : k < n
    · by_cases h6 : k ≤ 6
      · obtain ⟨ad, o, d, rfl, hg, c0, c1⟩ := (hl.below hb).at_ hlt
        have HS := Lib.hid (H.rightFrom_drop (b := b) hg)
        have HG := Lib.hid hg
        clear hg
        have hdec : (decide (o < 0) = true) ∨ (decide (o < 0) = false ∧ decide (d < o) = true) ∨ (decide (o < 0) = false ∧ decide (d < o) = false ∧ decide (1000000 < d) = true) ∨ (decide (o < 0) = false ∧ decide (d < o) = false ∧ decide (1000000 < d) = false) := by
          cases decide (o < 0) <;> cases decide (d < o) <;> cases decide (1000000 < d) <;> simp
        rcases hdec with q1 | ⟨q1, q2⟩ | ⟨q1, q2, q3⟩ | ⟨q1, q2, q3⟩
        · go_wp2
          go_quiet (fail)
          go_wp2
          go_ret
          exact ⟨ret_b (Eq.symm (right_no hr.out HS.out (by simp at q1; omega))), below_drewN hb _⟩
        · go_wp2
          go_quiet (fail)
          go_wp2
          go_ret
          exact ⟨ret_b (Eq.symm (right_no hr.out HS.out (by simp at q2; omega))), below_drewN hb _⟩
        · go_wp2
          go_quiet (fail)
          go_wp2
          go_ret
          exact ⟨ret_b (Eq.symm (right_no hr.out HS.out (by simp at q3; omega))), below_drewN hb _⟩
        · by_cases h0 : 0 < k
          · obtain ⟨ad', o', b', hA', hg', c0', c1'⟩ := (hl.below hb).at_ (k := k - 1) (by omega)
            injection hA' with hA'
            subst hA'
            have eb : b' = b := by
              rcases hp.out with ⟨e, _⟩ | ⟨o2, _, e⟩
              · omega
              · rw [hg'] at e; injection e with e; injection e
            subst eb
            by_cases hob : o ≤ b'
            · go_wp2
              go_quiet (fail)
              go_wp2
              go_quiet (fail)
              go_wp2
              go_ret
              exact ⟨ret_b (Eq.symm (right_no hr.out HS.out (.inl hob))), below_drewN (below_drewN hb _) _⟩
            · have hob' : decide (o ≤ b') = false := by simpa using hob
              go_wp2
              go_quiet (fail)
              go_wp2
              go_quiet (fail)
              go_wp2
              go_roundw
              case rel => exact ⟨k + 1, d, by go_num, by omega, by omega, by show _ = _; rw [hr.out, HS.out]; simp at q1 q2 q3; simp; omega, .inr ⟨o, by omega, HG.out⟩, below_drewN hb _⟩
              case measure => simp [intOf]; omega
          · have eb : b = -1 := by
              rcases hp.out with ⟨_, e⟩ | ⟨o2, e, _⟩
              · exact e
              · omega
            have EB := Lib.hid eb
            clear eb
            have h0' : decide ((0 : Int) < (k : Int)) = false := by simp; omega
            go_wp2
            go_quiet (fail)
            go_wp2
            go_roundw
            case rel => exact ⟨k + 1, d, by go_num, by omega, by omega, by show _ = _; rw [hr.out, HS.out, EB.out]; simp at q1 q2 q3; simp; omega, .inr ⟨o, by omega, HG.out⟩, below_drewN hb _⟩
            case measure => simp [intOf]; omega
      · have h6' : decide ((k : Int) ≤ 6) = false := by simp; omega
        go_wp2
        go_ret
        refine ⟨ret_b (Eq.symm ?_), hb⟩
        have : ¬ l.length ≤ 6 := by rw [← hl.1]; omega
        have hn6 : ¬ (n : Int) ≤ 6 := by omega
        simp [H.right, this, hn6]
    · obtain rfl : k = n := by omega
      have hd : l.drop k = [] := List.drop_eq_nil_of_le (by rw [← hl.1]; exact Nat.le_refl _)
      have HD := Lib.hid hd
      clear hd
      go_wp2
      go_ret
      refine ⟨ret_b (Eq.symm ?_), hb⟩
      unfold H.right
      rw [hr.out, HD.out, ← hl.1]
      simp [H.rightFrom]
      omega
end Go.Proofs.Ytdbllcphopecjaa
