/-
The walks of slices.IndexFunc and slices.ContainsFunc at requests with truck.Loads' predicate.
-/
import Derived.Test.YtdbllcphopecjaaT1
import Derived.Test.YtdbllcphopecjaaH3
namespace Go.Proofs.Ytdbllcphopecjaa
open Go.RowKit

set_option maxHeartbeats 400000 in
theorem loads1_any (q : Q) (w : World) (hl : Wins w q.A q.n q.l) (hn : q.n ≤ 1000000000) :
    Calls Try.prog 43 #[.agg #[.int .i64 q.node, .int .i64 q.room, .int .i64 q.kilos, .int .i64 q.service, .int .i64 q.frm, .int .i64 q.by_, .slice q.A q.n q.c]] w fun e w' => e = .returned (.bool (!T.right q)) ∧ Below w.heap.size w w' := by
  go_enter Try.func43, Try.ntmps43
  go_wp2_with fail
  refine (tright_any q _ (hl.below ?_) hn).mono ?_
  · exact (Below.refl _ _).alloc (Nat.le_refl _) _
  rintro e w1 ⟨rfl, hb1⟩
  go_wp2_with fail
  go_ret
  exact ⟨rfl, bel ((Below.refl _ _).alloc (Nat.le_refl _) _) hb1⟩

set_option maxHeartbeats 1000000 in
theorem indexQ (A : Option Addr) (n c : Nat) (l : List Q) (w : World) (hl : Reqs w A n l) (hn : n ≤ 1000000000) (hq : ∀ q ∈ l, q.n ≤ 1000000000) :
    Calls Try.prog 53 #[.slice A n c, .func (.func 43) #[] #[]] w fun e w' => (∃ i : Int, e = .returned (.int .i64 i) ∧ (decide (0 ≤ i)) = l.any fun q => !T.right q) ∧ Below w.heap.size w w' := by
  go_enter Try.func53, Try.ntmps53
  go_wp2_with fail
  go_loopw [8] (fun vi wr => ∃ k : Nat, vi = .int .i64 k ∧ k ≤ n ∧ Hid ((l.any fun q => !T.right q) = (l.drop k).any fun q => !T.right q) ∧ Below w.heap.size w wr) (fun vi _ => n - (intOf vi).toNat)
  case atStart => exact ⟨0, rfl, by omega, by show _ = _; rw [List.drop_zero], Below.refl _ _⟩
  case round =>
    obtain ⟨k, rfl, hk, hr, hbr⟩ := hrel
    by_cases hlt : k < n
    · obtain ⟨ad, q, rfl, hg, hwq, c0, c1, c2, c3, c4, c5, c6⟩ := (hl.below hbr).at_ hlt
      have hqn := hq q (List.mem_of_getElem? hg)
      have HS := Lib.hid (drop_any (p := fun q => !T.right q) hg)
      clear hg
      go_wp2_with fail
      refine (loads1_any q _ hwq hqn).mono ?_
      rintro e w1 ⟨rfl, hb1⟩
      cases hpx : T.right q
      · go_wp2_with fail
        go_ret
        exact ⟨⟨k, rfl, by rw [hr.out, HS.out, hpx]; simp⟩, bel hbr hb1⟩
      · go_wp2_with fail
        go_roundw
        case rel => exact ⟨k + 1, by go_num, by omega, by show _ = _; rw [hr.out, HS.out, hpx]; rfl, bel hbr hb1⟩
        case measure => simp [intOf]; omega
    · have hd : l.drop k = [] := List.drop_eq_nil_of_le (by rw [← hl.1]; omega)
      have HD := Lib.hid hd
      clear hd
      go_wp2_with fail
      go_ret
      exact ⟨⟨-1, rfl, by rw [hr.out, HD.out]; rfl⟩, hbr⟩

set_option maxHeartbeats 400000 in
theorem containsQ (A : Option Addr) (n c : Nat) (l : List Q) (w : World) (hl : Reqs w A n l) (hn : n ≤ 1000000000) (hq : ∀ q ∈ l, q.n ≤ 1000000000) :
    Calls Try.prog 42 #[.slice A n c, .func (.func 43) #[] #[]] w fun e w' => e = .returned (.bool (l.any fun q => !T.right q)) ∧ Below w.heap.size w w' := by
  go_enter Try.func42, Try.ntmps42
  go_wp2_with fail
  refine (indexQ A n c l _ hl hn hq).mono ?_
  rintro e w1 ⟨⟨i, rfl, hi⟩, hb1⟩
  go_wp2_with fail
  go_ret
  exact ⟨rfl, hb1⟩
end Go.Proofs.Ytdbllcphopecjaa
