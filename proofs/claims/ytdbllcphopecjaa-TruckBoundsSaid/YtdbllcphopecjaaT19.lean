/-
The walk of the reference's Weight.
-/
import Derived.Test.YtdbllcphopecjaaT18
namespace Go.Proofs.Ytdbllcphopecjaa
open Go.RowKit Go.Maps

set_option maxHeartbeats 4000000 in
theorem rweight_any (s : S) (B : Option Addr) (m d : Nat) (r : List Q) (A : Option Addr) (n c : Nat) (l : List Int) (w : World) (hs : Ints w s.A s.n s.l) (hsn : s.n ≤ 1000000000) (hq : Reqs w B m r) (hm : m ≤ 1000000000) (hqn : ∀ q ∈ r, q.n ≤ 1000000000) (hl : Ints w A n l) (hn : n ≤ 1000000000) :
    Calls Try.prog 24 #[.agg #[.int .i64 s.day, .int .i64 s.depot, .int .i64 s.start, .int .i64 s.end_, .int .i64 s.tare, .slice s.A s.n s.c], .slice B m d, .slice A n c] w fun e w' => e = .returned (.int .i64 (T.weight s r l)) ∧ Below w.heap.size w w' := by
  obtain ⟨dy, dp, st, en, ta, SA, sn, sc, sl⟩ := s
  simp only at hs hsn ⊢
  have b0 := (Below.refl w.heap.size w).alloc (Nat.le_refl _) (.cells #[.int .i64 dy, .int .i64 dp, .int .i64 st, .int .i64 en, .int .i64 ta, .slice SA sn sc] 24)
  go_enter Try.func24, Try.ntmps24
  go_wp2_with fail
  refine (rloads_any ⟨dy, dp, st, en, ta, SA, sn, sc, sl⟩ B m d r A n c l _ (hs.below b0) hsn (hq.below b0) hm hqn (hl.below b0) hn).mono ?_
  rintro e w1 ⟨hb1, hok⟩
  have hP := (Shf.new w ⟨dy, dp, st, en, ta, SA, sn, sc, sl⟩).below hb1
  have hb := bel b0 hb1
  clear hb1
  rcases hok with ⟨hok, g, rfl, hg, hT⟩ | ⟨hno, rfl⟩
  · have HF := Lib.hid (T.weight_take hok)
    obtain ⟨hch, _, hri⟩ := T.load_parts hok
    have HB := Lib.hid (fun k (hk : k ≤ 3) => T.take_bound (k := k) hri hl.1 hn hk)
    have HC := (T.check_rooms hch).2.1
    simp only at HC
    have p4 := hP.c4
    simp only at p4
    have hI : Ints w1 (some ⟨g, 0, none⟩) 3 (T.loads r l) := hT.ints
    obtain ⟨G, hG⟩ : ∃ G : Addr, G = ⟨g, 0, none⟩ := ⟨_, rfl⟩
    rw [← hG] at hI ⊢
    clear hok hch hri b0 hg hG hT
    go_wp2_with fail
    go_loopw [8, 9] (fun so vi wr => ∃ k : Nat, vi = .int .i64 k ∧ k ≤ 3 ∧ so = .int .i64 (ta + T.sum ((T.loads r l).take k)) ∧ w1 = wr) (fun _ vi _ => 3 - (intOf vi).toNat)
    case atStart => exact ⟨0, rfl, by omega, by simp [T.sum], rfl⟩
    case round =>
      obtain ⟨k, rfl, hk, rfl, rfl⟩ := hrel
      obtain ⟨tk, htk⟩ : ∃ x, x = T.sum ((T.loads r l).take k) := ⟨_, rfl⟩
      have B0 := HB.out k hk
      rw [← htk] at B0 ⊢
      by_cases hlt : k < 3
      · obtain ⟨ad, x, he, hx, c0⟩ := hI.at_ hlt
        injection he with he; subst he
        have HS := Lib.hid (T.sum_next hx)
        have B1 := HB.out (k + 1) hlt
        rw [HS.out, ← htk] at B1
        rw [← htk] at HS
        clear hx htk
        go_wp2_with fail
        go_roundw
        case rel => exact ⟨k + 1, by go_num, by omega, by rw [HS.out, Int.add_assoc], trivial⟩
        case measure => simp [intOf]; omega
      · have hk3 : k = 3 := by omega
        have HX := Lib.hid (show T.weight ⟨dy, dp, st, en, ta, SA, sn, sc, sl⟩ r l = ta + tk by rw [HF.out, htk, hk3])
        clear htk HF
        go_wp2_with fail
        go_ret
        exact ⟨ret_i HX.out.symm, hb⟩
  · have HF := Lib.hid (show T.weight ⟨dy, dp, st, en, ta, SA, sn, sc, sl⟩ r l = -1 by simp [T.weight, hno])
    clear hno
    go_wp2_with fail
    go_ret
    exact ⟨ret_i HF.out.symm, hb⟩
end Go.Proofs.Ytdbllcphopecjaa
