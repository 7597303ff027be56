/-
The walks of slices.IndexFunc and slices.ContainsFunc at lines with Build's predicate.
-/
import Derived.Test.YtijkaiilecpbcaaW12
namespace Go.Proofs.Ytijkaiilecpbcaa
open Go.RowKit

set_option maxHeartbeats 400000 in
theorem build1_any (x : Ln) (w : World) : Calls Try.prog 20 #[.agg #[.int .i64 x.hh, .int .i64 x.cents, .int .i64 x.bl]] w fun e w' => e = .returned (.bool (!K.right x)) ∧ Below w.heap.size w w' := by
  go_enter Try.func20, Try.ntmps20
  go_wp2_with fail
  refine (right_any x _).mono ?_
  rintro e w1 ⟨rfl, hb1⟩
  go_wp2_with fail
  go_ret
  exact ⟨rfl, bel ((Below.refl _ _).alloc (Nat.le_refl _) _) hb1⟩

set_option maxHeartbeats 1000000 in
theorem index_any (A : Option Addr) (n c : Nat) (l : List Ln) (w : World) (hl : Lines w A n l) (hn : n ≤ 1000000000) :
    Calls Try.prog 29 #[.slice A n c, .func (.func 20) #[] #[]] w fun e w' => (∃ i : Int, e = .returned (.int .i64 i) ∧ (decide (0 ≤ i)) = l.any fun q => !K.right q) ∧ Below w.heap.size w w' := by
  go_enter Try.func29, Try.ntmps29
  go_wp2_with fail
  go_loopw [8] (fun vi wr => ∃ k : Nat, vi = .int .i64 k ∧ k ≤ n ∧ Hid ((l.any fun q => !K.right q) = (l.drop k).any fun q => !K.right q) ∧ Below w.heap.size w wr) (fun vi _ => n - (intOf vi).toNat)
  case atStart => exact ⟨0, rfl, by omega, by show _ = _; rw [List.drop_zero], Below.refl _ _⟩
  case round =>
    obtain ⟨k, rfl, hk, hr, hbr⟩ := hrel
    by_cases hlt : k < n
    · obtain ⟨ad, q, rfl, hg, c0, c1, c2⟩ := Lines.at_ (hl.below hbr) hlt
      have HS := Lib.hid (drop_any (p := fun q => !K.right q) hg)
      clear hg
      go_wp2_with fail
      refine (build1_any q _).mono ?_
      rintro e w1 ⟨rfl, hb1⟩
      cases hpx : K.right q
      · go_wp2_with fail
        go_ret
        exact ⟨⟨k, rfl, by rw [hr.out, HS.out, hpx]; simp⟩, bel hbr hb1⟩
      · go_wp2_with fail
        go_roundw
        case rel => exact ⟨k + 1, by go_num, by omega, by show _ = _; rw [hr.out, HS.out, hpx]; rfl, bel hbr hb1⟩
        case measure => simp [intOf]; omega
    · have hd : l.drop k = [] := List.drop_eq_nil_of_le (by rw [← hl.1]; omega)
      have HD := Lib.hid hd
      clear hd
      go_wp2_with fail
      go_ret
      exact ⟨⟨-1, rfl, by rw [hr.out, HD.out]; rfl⟩, hbr⟩

set_option maxHeartbeats 400000 in
theorem contains_any (A : Option Addr) (n c : Nat) (l : List Ln) (w : World) (hl : Lines w A n l) (hn : n ≤ 1000000000) :
    Calls Try.prog 19 #[.slice A n c, .func (.func 20) #[] #[]] w fun e w' => e = .returned (.bool (l.any fun q => !K.right q)) ∧ Below w.heap.size w w' := by
  go_enter Try.func19, Try.ntmps19
  go_wp2_with fail
  refine (index_any A n c l _ hl hn).mono ?_
  rintro e w1 ⟨⟨i, rfl, hi⟩, hb1⟩
  go_wp2_with fail
  go_ret
  exact ⟨rfl, hb1⟩
end Go.Proofs.Ytijkaiilecpbcaa
