/-
The walk of the reference's Load.
-/
import Derived.Test.YtdbllcphopecjaaT3
import Derived.Test.YtdbllcphopecjaaT4
import Derived.Test.YtdbllcphopecjaaT7
namespace Go.Proofs.Ytdbllcphopecjaa
open Go.RowKit
namespace T
def load (s : S) (r : List Q) (l : List Int) : Bool := (check s == 0) && (isSet r.length l && !(r.any fun q => !right q))
end T

set_option maxHeartbeats 2000000 in
theorem load_any (s : S) (B : Option Addr) (m d : Nat) (r : List Q) (A : Option Addr) (n c : Nat) (l : List Int) (w : World) (hs : Ints w s.A s.n s.l) (hsn : s.n ≤ 1000000000) (hq : Reqs w B m r) (hm : m ≤ 1000000000) (hqn : ∀ q ∈ r, q.n ≤ 1000000000) (hl : Ints w A n l) (hn : n ≤ 1000000000) :
    Calls Try.prog 44 #[.agg #[.int .i64 s.day, .int .i64 s.depot, .int .i64 s.start, .int .i64 s.end_, .int .i64 s.tare, .slice s.A s.n s.c], .slice B m d, .slice A n c] w fun e w' => e = .returned (.bool (T.load s r l)) ∧ Below w.heap.size w w' := by
  cases h1 : (T.check s == 0)
  · have HF := Lib.hid (show T.load s r l = false by simp [T.load, h1])
    have q1 : (T.check s != 0) = true := by simp [bne, h1]
    clear h1
    go_enter Try.func44, Try.ntmps44
    go_wp2_with fail
    refine (rcheck_any s _ (hs.below ((Below.refl _ _).alloc (Nat.le_refl _) _)) hsn).mono ?_; rintro e w1 ⟨rfl, hb1'⟩; have hb1 := bel ((Below.refl _ _).alloc (Nat.le_refl _) _) hb1'; clear hb1'
    go_wp2_with fail
    go_ret
    exact ⟨ret_b HF.out.symm, hb1⟩
  · have q1 : (T.check s != 0) = false := by simp [bne, h1]
    cases h2 : T.isSet m l
    · have HF := Lib.hid (show T.load s r l = false by simp only [T.load]; rw [← hq.1, h2]; simp)
      have H2 := Lib.hid h2
      clear h2
      go_enter Try.func44, Try.ntmps44
      go_wp2_with fail
      refine (rcheck_any s _ (hs.below ((Below.refl _ _).alloc (Nat.le_refl _) _)) hsn).mono ?_; rintro e w1 ⟨rfl, hb1'⟩; have hb1 := bel ((Below.refl _ _).alloc (Nat.le_refl _) _) hb1'; clear hb1'
      go_wp2_with fail
      refine (isSet_any A n c l m _ (hl.below hb1) hn).mono ?_; rw [H2.out]; rintro e w2 ⟨rfl, hb2⟩
      go_wp2_with fail
      go_ret
      exact ⟨ret_b HF.out.symm, bel hb1 hb2⟩
    · have HF := Lib.hid (show T.load s r l = !(r.any fun q => !T.right q) by simp only [T.load]; rw [h1, ← hq.1, h2]; simp)
      have H2 := Lib.hid h2
      clear h2
      go_enter Try.func44, Try.ntmps44
      go_wp2_with fail
      refine (rcheck_any s _ (hs.below ((Below.refl _ _).alloc (Nat.le_refl _) _)) hsn).mono ?_; rintro e w1 ⟨rfl, hb1'⟩; have hb1 := bel ((Below.refl _ _).alloc (Nat.le_refl _) _) hb1'; clear hb1'
      go_wp2_with fail
      refine (isSet_any A n c l m _ (hl.below hb1) hn).mono ?_; rw [H2.out]; rintro e w2 ⟨rfl, hb2⟩
      have hb := bel hb1 hb2
      clear hb1 hb2
      go_wp2_with fail
      go_loopw [7] (fun vi wr => ∃ k : Nat, vi = .int .i64 k ∧ k ≤ m ∧ Hid ((r.any fun q => !T.right q) = (r.drop k).any fun q => !T.right q) ∧ Below w.heap.size w wr) (fun vi _ => m - (intOf vi).toNat)
      case atStart => exact ⟨0, rfl, by omega, by show _ = _; rw [List.drop_zero], hb⟩
      case round =>
        obtain ⟨k, rfl, hk, hr, hbr⟩ := hrel
        by_cases hlt : k < m
        · obtain ⟨ad, q, rfl, hg, hwq, c0, c1, c2, c3, c4, c5, c6⟩ := (hq.below hbr).at_ hlt
          have hqq := hqn q (List.mem_of_getElem? hg)
          have HS := Lib.hid (drop_any (p := fun q => !T.right q) hg)
          clear hg
          go_wp2_with fail
          refine (rright29_any q _ hwq hqq).mono ?_
          rintro e w3 ⟨rfl, hb3⟩
          cases hpx : T.right q
          · go_wp2_with fail
            go_ret
            exact ⟨ret_b (Eq.symm (by rw [HF.out, hr.out, HS.out, hpx]; simp)), bel hbr hb3⟩
          · go_wp2_with fail
            go_roundw
            case rel => exact ⟨k + 1, by go_num, by omega, by show _ = _; rw [hr.out, HS.out, hpx]; rfl, bel hbr hb3⟩
            case measure => simp [intOf]; omega
        · have hd : r.drop k = [] := List.drop_eq_nil_of_le (by rw [← hq.1]; omega)
          have HD := Lib.hid hd
          clear hd
          go_wp2_with fail
          go_ret
          exact ⟨ret_b (Eq.symm (by rw [HF.out, hr.out, HD.out]; rfl)), hbr⟩
end Go.Proofs.Ytdbllcphopecjaa
