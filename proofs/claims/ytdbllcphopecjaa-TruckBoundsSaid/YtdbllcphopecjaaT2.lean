/-
The walk of truck.Check.
-/
import Derived.Test.YtdbllcphopecjaaT1
import Derived.Test.YtdbllcphopecjaaHR5
namespace Go.Proofs.Ytdbllcphopecjaa
open Go.RowKit
namespace T
def dated (s : S) : Bool := btw s.depot 0 99 && (decide (0 ≤ s.start) && (decide (s.start ≤ s.end_) && decide (s.end_ ≤ 1000000)))
def heavy (l : List Int) : Bool := l.any fun x => !btw x 0 1000000
def check (s : S) : Int := if btw s.day 0 100000 = false then 17 else if dated s = false then 1 else if 3 < s.l.length then 6 else if heavy (s.tare :: s.l) then 20 else 0
end T

theorem T.check_day {s : S} (h : btw s.day 0 100000 = false) : T.check s = 17 := by simp [T.check, h]
theorem T.check_arg {s : S} (h : btw s.day 0 100000 = true) (h2 : T.dated s = false) : T.check s = 1 := by simp [T.check, h, h2]
theorem T.check_full {s : S} (h : btw s.day 0 100000 = true) (h2 : T.dated s = true) (h3 : 3 < s.l.length) : T.check s = 6 := by simp [T.check, h, h2, h3]
theorem T.check_heavy {s : S} (h : btw s.day 0 100000 = true) (h2 : T.dated s = true) (h3 : ¬ 3 < s.l.length) : T.check s = if T.heavy (s.tare :: s.l) then 20 else 0 := by simp [T.check, h, h2]; omega

theorem T.heavy_drop {l : List Int} {k : Nat} {x : Int} (h : l[k]? = some x) : T.heavy (l.drop k) = (!T.btw x 0 1000000 || T.heavy (l.drop (k + 1))) := by
  obtain ⟨hk, e⟩ := List.getElem?_eq_some_iff.1 h
  rw [List.drop_eq_getElem_cons hk, e]
  rfl

theorem ret_i {x y : Int} (h : x = y) : Ending.returned (.int .i64 x) = .returned (.int .i64 y) := by rw [h]

theorem Try.info3 : (Try.prog.info? 3).map (fun i => (i.zero, i.size, i.bytes)) = some (some (.int .i64 0), 1, 8) := by kernel_rfl

theorem intCells_one (l : List Int) : ∀ u ∈ intCells l, u.oneCell' = true := by
  intro u hu
  obtain ⟨x, _, rfl⟩ := List.mem_map.1 hu
  rfl

theorem own_ints {w : World} {base : Nat} {v : Value} {n : Nat} {l : List Int} (h : w.ownsRow base 3 1 v n (intCells l)) (hn : n = l.length) : ∃ A c, v = .slice A n c ∧ Ints w A n l := by
  obtain ⟨A, c, e, hr, _⟩ := own_form h
  exact ⟨A, c, e, hn, hr⟩

set_option maxRecDepth 100000 in
set_option maxHeartbeats 4000000 in
theorem check_any (s : S) (w : World) (hl : Ints w s.A s.n s.l) (hn : s.n ≤ 1000000000) :
    Calls Try.prog 16 #[.agg #[.int .i64 s.day, .int .i64 s.depot, .int .i64 s.start, .int .i64 s.end_, .int .i64 s.tare, .slice s.A s.n s.c]] w fun e w' => e = .returned (.int .i64 (T.check s)) ∧ Below w.heap.size w w' := by
  obtain ⟨dy, dp, st, en, ta, A, n, c, l⟩ := s
  simp only at hl hn ⊢
  have b1 : Below w.heap.size w (w.alloc (.cells #[.int .i64 dy, .int .i64 dp, .int .i64 st, .int .i64 en, .int .i64 ta, .slice A n c] 24)) := (Below.refl _ _).alloc (Nat.le_refl _) _
  cases h1 : T.btw dy 0 100000
  · go_enter Try.func16, Try.ntmps16
    go_wp2_with fail
    refine (between_any _ _ _ _).mono ?_; rw [h1]; rintro e w1 ⟨rfl, rfl⟩
    go_wp2_with fail
    go_ret
    exact ⟨ret_i (T.check_day h1).symm, b1⟩
  · have H1 := Lib.hid h1
    clear h1
    cases h2 : T.btw dp 0 99
    · have HD := Lib.hid (show T.dated ⟨dy, dp, st, en, ta, A, n, c, l⟩ = false by simp [T.dated, h2])
      have H2 := Lib.hid h2
      clear h2
      go_enter Try.func16, Try.ntmps16
      go_wp2_with fail
      refine (between_any _ _ _ _).mono ?_; rw [H1.out]; rintro e w1 ⟨rfl, rfl⟩
      go_wp2_with fail
      refine (between_any _ _ _ _).mono ?_; rw [H2.out]; rintro e w1 ⟨rfl, rfl⟩
      go_wp2_with fail
      go_ret
      exact ⟨ret_i (T.check_arg H1.out HD.out).symm, b1⟩
    · have H2 := Lib.hid h2
      by_cases h0 : 0 ≤ st ∧ st ≤ en ∧ en ≤ 1000000
      · have HD := Lib.hid (show T.dated ⟨dy, dp, st, en, ta, A, n, c, l⟩ = true by simp [T.dated, h2, h0])
        obtain ⟨h3, h4, h5⟩ := h0
        have q3 : decide (st < 0) = false := by simpa using h3
        have q4 : decide (en < st) = false := by simpa using h4
        have q5 : decide (1000000 < en) = false := by simpa using h5
        clear h2 h3 h4 h5
        by_cases h6 : 3 < n
        · have q6 : decide ((3 : Int) < (n : Int)) = true := by simp; omega
          have HF := Lib.hid (T.check_full (s := ⟨dy, dp, st, en, ta, A, n, c, l⟩) H1.out HD.out (by rw [← hl.1]; exact h6))
          go_enter Try.func16, Try.ntmps16
          go_wp2_with fail
          refine (between_any _ _ _ _).mono ?_; rw [H1.out]; rintro e w1 ⟨rfl, rfl⟩
          go_wp2_with fail
          refine (between_any _ _ _ _).mono ?_; rw [H2.out]; rintro e w1 ⟨rfl, rfl⟩
          go_wp2_with fail
          go_ret
          exact ⟨ret_i HF.out.symm, b1⟩
        · have q6 : decide ((3 : Int) < (n : Int)) = false := by simp; omega
          have HF := Lib.hid (T.check_heavy (s := ⟨dy, dp, st, en, ta, A, n, c, l⟩) H1.out HD.out (by rw [← hl.1]; exact h6))
          obtain ⟨i0, hi, hz0, hz1, hz2⟩ := info_parts Try.info3
          have hl1 := (hl.below b1).2.below (((Below.refl _ _).alloc (Nat.le_refl _) (.cells #[.int .i64 ta] 3)))
          have hlit := World.ownsRow_lit (base := w.heap.size) (e := 3) (size := 1) (w.alloc (.cells #[.int .i64 dy, .int .i64 dp, .int .i64 st, .int .i64 en, .int .i64 ta, .slice A n c] 24)) #[.int .i64 ta] 1 b1.size (by simp [maxLen]) rfl
          have hsz : (w.alloc (.cells #[.int .i64 dy, .int .i64 dp, .int .i64 st, .int .i64 en, .int .i64 ta, .slice A n c] 24)).heap.size = w.heap.size + 1 := World.size_alloc ..
          rw [hsz] at hlit
          clear hsz
          go_enter Try.func16, Try.ntmps16
          go_wp2_with fail
          refine (between_any _ _ _ _).mono ?_; rw [H1.out]; rintro e w1 ⟨rfl, rfl⟩
          go_wp2_with fail
          refine (between_any _ _ _ _).mono ?_; rw [H2.out]; rintro e w1 ⟨rfl, rfl⟩
          go_wp2_with (at_builtin; refine wp_append_rd rfl (.tmp 39) (.tmp 41) 22 rfl w.heap.size 3 i0 (.int .i64 0) 1 8 Try.underlying22 hi hz0 hz1 hz2 rfl (by decide) _ 1 _ rfl hlit A n c (intCells l) rfl hl1 (intCells_one l) (by simp only [maxLen]; omega) (by omega) (by first | (simp; done) | (simp; omega)) ?_; intro v' w4 hown4 hgrow4 hat4; obtain ⟨A', c', rfl, hI⟩ := own_ints (l := ta :: l) hown4 (by rw [List.length_cons, ← hl.1]; omega))
          have b4 : Below w.heap.size w w4 := below_own (b1.alloc b1.size _) (Nat.le_refl _) hgrow4 (fun g h => (hlit.lt g h).1)
          clear hown4 hgrow4 hat4 hlit hl1 hi hz0 hz1 hz2
          go_loopw [44] (fun vi wr => ∃ k : Nat, vi = .int .i64 k ∧ k ≤ 1 + n ∧ Hid (T.heavy (ta :: l) = T.heavy ((ta :: l).drop k)) ∧ w4 = wr) (fun vi _ => 1 + n - (intOf vi).toNat)
          case atStart => exact ⟨0, rfl, by omega, rfl, rfl⟩
          case round =>
            obtain ⟨k, rfl, hk, hr, rfl⟩ := hrel
            by_cases hlt : k < 1 + n
            · obtain ⟨ad, x, rfl, hg, c0⟩ := hI.at_ hlt
              have HS := Lib.hid (T.heavy_drop hg)
              clear hg
              go_wp2_with fail
              refine (between_any _ _ _ _).mono ?_; rintro e w1 ⟨rfl, rfl⟩
              cases hx : T.btw x 0 1000000
              · go_wp2_with fail
                go_ret
                exact ⟨ret_i (Eq.symm (by rw [HF.out, hr.out, HS.out, hx]; rfl)), b4⟩
              · go_wp2_with fail
                go_roundw
                case rel => exact ⟨k + 1, by go_num, by omega, by show _ = _; rw [hr.out, HS.out, hx]; rfl, trivial⟩
                case measure => simp [intOf]; omega
            · have hd : (ta :: l).drop k = [] := List.drop_eq_nil_of_le (by rw [List.length_cons, ← hl.1]; omega)
              have HN := Lib.hid hd
              clear hd
              go_wp2_with fail
              go_ret
              exact ⟨ret_i (Eq.symm (by rw [HF.out, hr.out, HN.out]; rfl)), b4⟩
      · have HD := Lib.hid (show T.dated ⟨dy, dp, st, en, ta, A, n, c, l⟩ = false by simp [T.dated, h2]; omega)
        clear h2
        have hc : (decide (st < 0) = true) ∨ (decide (st < 0) = false ∧ decide (en < st) = true) ∨ (decide (st < 0) = false ∧ decide (en < st) = false ∧ decide (1000000 < en) = true) := by simp; omega
        clear h0
        rcases hc with q3 | ⟨q3, q4⟩ | ⟨q3, q4, q5⟩
        all_goals
          go_enter Try.func16, Try.ntmps16
          go_wp2_with fail
          refine (between_any _ _ _ _).mono ?_; rw [H1.out]; rintro e w1 ⟨rfl, rfl⟩
          go_wp2_with fail
          refine (between_any _ _ _ _).mono ?_; rw [H2.out]; rintro e w1 ⟨rfl, rfl⟩
          go_wp2_with fail
          go_ret
          exact ⟨ret_i (T.check_arg H1.out HD.out).symm, b1⟩
end Go.Proofs.Ytdbllcphopecjaa
