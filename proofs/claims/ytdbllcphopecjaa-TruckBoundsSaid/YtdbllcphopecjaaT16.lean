/-
The walk of truck.Fits.
-/
import Derived.Test.YtdbllcphopecjaaT15
namespace Go.Proofs.Ytdbllcphopecjaa
open Go.RowKit Go.Maps

set_option maxHeartbeats 4000000 in
theorem fits_any (s : S) (B : Option Addr) (m d : Nat) (r : List Q) (A : Option Addr) (n c : Nat) (l : List Int) (w : World) (hs : Ints w s.A s.n s.l) (hsn : s.n ≤ 1000000000) (hq : Reqs w B m r) (hm : m ≤ 1000000000) (hqn : ∀ q ∈ r, q.n ≤ 1000000000) (hl : Ints w A n l) (hn : n ≤ 1000000000) :
    Calls Try.prog 21 #[.agg #[.int .i64 s.day, .int .i64 s.depot, .int .i64 s.start, .int .i64 s.end_, .int .i64 s.tare, .slice s.A s.n s.c], .slice B m d, .slice A n c] w fun e w' => e = .returned (.bool (T.fits s r l)) ∧ Below w.heap.size w w' := by
  obtain ⟨dy, dp, st, en, ta, SA, sn, sc, sl⟩ := s
  simp only at hs hsn ⊢
  have b0 := (Below.refl w.heap.size w).alloc (Nat.le_refl _) (.cells #[.int .i64 dy, .int .i64 dp, .int .i64 st, .int .i64 en, .int .i64 ta, .slice SA sn sc] 24)
  go_enter Try.func21, Try.ntmps21
  go_wp2_with fail
  refine (loads_any ⟨dy, dp, st, en, ta, SA, sn, sc, sl⟩ B m d r A n c l _ (hs.below b0) hsn (hq.below b0) hm hqn (hl.below b0) hn).mono ?_
  rintro e w1 ⟨hb1, hok⟩
  have hP := (Shf.new w ⟨dy, dp, st, en, ta, SA, sn, sc, sl⟩).below hb1
  have hb := bel b0 hb1
  clear hb1
  rcases hok with ⟨hok, g, rfl, hg, hT⟩ | ⟨hno, rfl⟩
  · have HF := Lib.hid (show T.fits ⟨dy, dp, st, en, ta, SA, sn, sc, sl⟩ r l = T.fitFrom sl 0 (T.loads r l) by simp [T.fits, hok])
    obtain ⟨hch, _, hri⟩ := T.load_parts hok
    have HB := Lib.hid (fun k x => T.loads_bound (k := k) (x := x) hri (l := l))
    have HC := Lib.hid (T.check_rooms hch)
    have hI : Ints w1 (some ⟨g, 0, none⟩) 3 (T.loads r l) := hT.ints
    have hs1 := hs.below hb
    obtain ⟨G, hG⟩ : ∃ G : Addr, G = ⟨g, 0, none⟩ := ⟨_, rfl⟩
    rw [← hG] at hI ⊢
    clear hG
    clear hok hch hri hT b0
    have p5 := hP.c5
    go_wp2_with fail
    go_loopw [16] (fun vi wr => ∃ k : Nat, vi = .int .i64 k ∧ k ≤ 3 ∧ Hid (T.fits ⟨dy, dp, st, en, ta, SA, sn, sc, sl⟩ r l = T.fitFrom sl k ((T.loads r l).drop k)) ∧ w1 = wr) (fun vi _ => 3 - (intOf vi).toNat)
    case atStart => exact ⟨0, rfl, by omega, HF.out, rfl⟩
    case round =>
      obtain ⟨k, rfl, hk, hr, rfl⟩ := hrel
      by_cases hlt : k < 3
      · obtain ⟨ad, x, he, hx, c0⟩ := hI.at_ hlt
        injection he with he; subst he
        have HS := Lib.hid (T.fit_drop (rooms := sl) hx)
        obtain ⟨hx0, hx1⟩ := HB.out k x hx
        have hx2 : x ≤ 1000000 * 1000000000 := by rw [← hl.1] at hx1; omega
        clear hx hx1
        by_cases hx : 0 < x
        · by_cases hks : k < sn
          · obtain ⟨ad2, y, rfl, hy, c1⟩ := hs1.at_ hks
            have hyb := HC.out.2.2 y (List.mem_of_getElem? hy)
            have HY := Lib.hid (show (sl[k]?).getD 0 = y by rw [hy]; rfl)
            clear hy
            by_cases hxy : y < x
            · have HX := Lib.hid (show T.fits ⟨dy, dp, st, en, ta, some ad2, sn, sc, sl⟩ r l = false by
                rw [hr.out, HS.out, HY.out]; simp; omega)
              clear HS hr HF
              go_wp2_with fail
              go_ret
              exact ⟨ret_b HX.out.symm, hb⟩
            · have HX := Lib.hid (show T.fits ⟨dy, dp, st, en, ta, some ad2, sn, sc, sl⟩ r l = T.fitFrom sl (k + 1) ((T.loads r l).drop (k + 1)) by
                rw [hr.out, HS.out, HY.out]; simp; omega)
              clear HS hr HF
              go_wp2_with fail
              go_roundw
              case rel => exact ⟨k + 1, by go_num, by omega, HX.out, trivial⟩
              case measure => simp [intOf]; omega
          · have HX := Lib.hid (show T.fits ⟨dy, dp, st, en, ta, SA, sn, sc, sl⟩ r l = false by
              rw [hr.out, HS.out, List.getElem?_eq_none (by rw [← hs.1]; omega)]; simp; omega)
            clear HS hr HF
            go_wp2_with fail
            go_ret
            exact ⟨ret_b HX.out.symm, hb⟩
        · have HX := Lib.hid (show T.fits ⟨dy, dp, st, en, ta, SA, sn, sc, sl⟩ r l = T.fitFrom sl (k + 1) ((T.loads r l).drop (k + 1)) by
            rw [hr.out, HS.out]
            have h9 : x ≤ (sl[k]?).getD 0 := by
              cases hy : sl[k]? with
              | none => simp; omega
              | some y => have := (HC.out.2.2 y (List.mem_of_getElem? hy)).1; simp; omega
            simp [h9])
          clear HS hr HF
          go_wp2_with fail
          go_roundw
          case rel => exact ⟨k + 1, by go_num, by omega, HX.out, trivial⟩
          case measure => simp [intOf]; omega
      · have hd : (T.loads r l).drop k = [] := List.drop_eq_nil_of_le (by simp [T.loads]; omega)
        have HX := Lib.hid (show T.fits ⟨dy, dp, st, en, ta, SA, sn, sc, sl⟩ r l = true by rw [hr.out, hd]; rfl)
        clear hd hr HF
        go_wp2_with fail
        go_ret
        exact ⟨ret_b HX.out.symm, hb⟩
  · have HF := Lib.hid (show T.fits ⟨dy, dp, st, en, ta, SA, sn, sc, sl⟩ r l = false by simp [T.fits, hno])
    clear hno
    go_wp2_with fail
    refine wp_loop_rounds 1 ?_
    rw [rounds_succ]
    go_wp2_with fail
    go_ret
    exact ⟨ret_b HF.out.symm, hb⟩
end Go.Proofs.Ytdbllcphopecjaa
