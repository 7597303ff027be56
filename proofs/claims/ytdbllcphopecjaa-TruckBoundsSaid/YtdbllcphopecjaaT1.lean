/-
The walks of truck.between, truck.Right and of their references.
-/
import Derived.Test.YtdbllcphopecjaaH1
import Derived.Test.YtdbllcphopecjaaHR1
import Derived.Test.YtdbllcphopecjaaMem3
namespace Go.Proofs.Ytdbllcphopecjaa
open Go.RowKit
namespace T
def btw (n lo hi : Int) : Bool := decide (lo ≤ n) && decide (n ≤ hi)
def right (q : Q) : Bool := btw q.node 0 99 && (btw q.room 0 2 && (btw q.kilos 1 1000000 && (btw q.service 0 1000000 && (decide (0 ≤ q.frm) && (btw q.by_ q.frm 100000 && H.right q.l)))))
end T

set_option maxHeartbeats 400000 in
theorem between_any (n lo hi : Int) (w : World) : Calls Try.prog 40 #[.int .i64 n, .int .i64 lo, .int .i64 hi] w fun e w' => e = .returned (.bool (T.btw n lo hi)) ∧ w = w' := by
  by_cases h : lo ≤ n
  · go_enter Try.func40, Try.ntmps40
    go_wp2
    all_goals (go_ret; exact ⟨ret_b (by simp [T.btw, h]), rfl⟩)
  · have h' : decide (lo ≤ n) = false := by simpa using h
    have hh := Lib.hid h
    clear h
    go_enter Try.func40, Try.ntmps40
    go_wp2
    all_goals (go_ret; exact ⟨ret_b (by have := hh.out; simp [T.btw]; omega), rfl⟩)

set_option maxHeartbeats 400000 in
theorem rin_any (n lo hi : Int) (w : World) : Calls Try.prog 41 #[.int .i64 n, .int .i64 lo, .int .i64 hi] w fun e w' => e = .returned (.bool (T.btw n lo hi)) ∧ w = w' := by
  by_cases h : lo ≤ n
  · go_enter Try.func41, Try.ntmps41
    go_wp2
    all_goals (go_ret; exact ⟨ret_b (by simp [T.btw, h]), rfl⟩)
  · have h' : decide (lo ≤ n) = false := by simpa using h
    have hh := Lib.hid h
    clear h
    go_enter Try.func41, Try.ntmps41
    go_wp2
    all_goals (go_ret; exact ⟨ret_b (by have := hh.out; simp [T.btw]; omega), rfl⟩)

theorem T.days_no {q : Q} (h : (decide (0 ≤ q.frm) && T.btw q.by_ q.frm 100000) = false) : T.right q = false := by
  unfold T.right
  cases h1 : decide (0 ≤ q.frm)
  · simp
  · rw [h1, Bool.true_and] at h
    simp [h]

set_option maxRecDepth 100000 in
set_option maxHeartbeats 4000000 in
theorem tright_any (q : Q) (w : World) (hl : Wins w q.A q.n q.l) (hn : q.n ≤ 1000000000) :
    Calls Try.prog 13 #[.agg #[.int .i64 q.node, .int .i64 q.room, .int .i64 q.kilos, .int .i64 q.service, .int .i64 q.frm, .int .i64 q.by_, .slice q.A q.n q.c]] w fun e w' => e = .returned (.bool (T.right q)) ∧ Below w.heap.size w w' := by
  obtain ⟨nd, rm, kl, sv, fr, b, A, n, c, l⟩ := q
  simp only at hl hn ⊢
  have b1 : Below w.heap.size w (w.alloc (.cells #[.int .i64 nd, .int .i64 rm, .int .i64 kl, .int .i64 sv, .int .i64 fr, .int .i64 b, .slice A n c] 31)) := (Below.refl _ _).alloc (Nat.le_refl _) _
  have hl1 := hl.below b1
  cases h0 : T.btw nd 0 99
  · have H0 := Lib.hid h0
    clear h0
    go_enter Try.func13, Try.ntmps13
    go_wp2_with fail
    refine (between_any _ _ _ _).mono ?_; rw [H0.out]; rintro e w1 ⟨rfl, rfl⟩
    go_wp2_with fail
    go_ret
    exact ⟨ret_b (by simp [T.right, H0.out]), b1⟩
  · have H0 := Lib.hid h0
    clear h0
    cases h1 : T.btw rm 0 2
    · have H1 := Lib.hid h1
      clear h1
      go_enter Try.func13, Try.ntmps13
      go_wp2_with fail
      refine (between_any _ _ _ _).mono ?_; rw [H0.out]; rintro e w1 ⟨rfl, rfl⟩
      go_wp2_with fail
      refine (between_any _ _ _ _).mono ?_; rw [H1.out]; rintro e w1 ⟨rfl, rfl⟩
      go_wp2_with fail
      go_ret
      exact ⟨ret_b (by simp [T.right, H0.out, H1.out]), b1⟩
    · have H1 := Lib.hid h1
      clear h1
      cases h2 : T.btw kl 1 1000000
      · have H2 := Lib.hid h2
        clear h2
        go_enter Try.func13, Try.ntmps13
        go_wp2_with fail
        refine (between_any _ _ _ _).mono ?_; rw [H0.out]; rintro e w1 ⟨rfl, rfl⟩
        go_wp2_with fail
        refine (between_any _ _ _ _).mono ?_; rw [H1.out]; rintro e w1 ⟨rfl, rfl⟩
        go_wp2_with fail
        refine (between_any _ _ _ _).mono ?_; rw [H2.out]; rintro e w1 ⟨rfl, rfl⟩
        go_wp2_with fail
        go_ret
        exact ⟨ret_b (by simp [T.right, H0.out, H1.out, H2.out]), b1⟩
      · have H2 := Lib.hid h2
        clear h2
        by_cases g0 : 0 ≤ fr ∧ fr ≤ b ∧ b ≤ 100000
        · obtain ⟨g1, g2, g3⟩ := g0
          have e1 : T.btw b fr 100000 = true := by simp [T.btw, g2, g3]
          have G := Lib.hid (And.intro g1 (And.intro g2 g3))
          have E1 := Lib.hid e1
          clear e1
          cases h4 : T.btw sv 0 1000000
          · have H4 := Lib.hid h4
            clear h4
            go_enter Try.func13, Try.ntmps13
            go_wp2_with fail
            refine (between_any _ _ _ _).mono ?_; rw [H0.out]; rintro e w1 ⟨rfl, rfl⟩
            go_wp2_with fail
            refine (between_any _ _ _ _).mono ?_; rw [H1.out]; rintro e w1 ⟨rfl, rfl⟩
            go_wp2_with fail
            refine (between_any _ _ _ _).mono ?_; rw [H2.out]; rintro e w1 ⟨rfl, rfl⟩
            go_wp2_with fail
            refine (between_any _ _ _ _).mono ?_; rw [H4.out]; rintro e w1 ⟨rfl, rfl⟩
            go_wp2_with fail
            go_ret
            exact ⟨ret_b (by simp [T.right, H0.out, H1.out, H2.out, E1.out, G.out, H4.out]), b1⟩
          · have H4 := Lib.hid h4
            clear h4
            cases h5 : H.right l
            · have H5 := Lib.hid h5
              clear h5
              go_enter Try.func13, Try.ntmps13
              go_wp2_with fail
              refine (between_any _ _ _ _).mono ?_; rw [H0.out]; rintro e w1 ⟨rfl, rfl⟩
              go_wp2_with fail
              refine (between_any _ _ _ _).mono ?_; rw [H1.out]; rintro e w1 ⟨rfl, rfl⟩
              go_wp2_with fail
              refine (between_any _ _ _ _).mono ?_; rw [H2.out]; rintro e w1 ⟨rfl, rfl⟩
              go_wp2_with fail
              refine (between_any _ _ _ _).mono ?_; rw [H4.out]; rintro e w1 ⟨rfl, rfl⟩
              go_wp2_with fail
              refine (hright_any A n c l _ (hl.below b1) hn).mono ?_; rw [H5.out]; rintro e w1 ⟨rfl, hb1⟩
              go_wp2_with fail
              go_ret
              exact ⟨ret_b (by simp [T.right, H0.out, H1.out, H2.out, E1.out, G.out, H4.out, H5.out]), (bel b1 hb1)⟩
            · have H5 := Lib.hid h5
              clear h5
              go_enter Try.func13, Try.ntmps13
              go_wp2_with fail
              refine (between_any _ _ _ _).mono ?_; rw [H0.out]; rintro e w1 ⟨rfl, rfl⟩
              go_wp2_with fail
              refine (between_any _ _ _ _).mono ?_; rw [H1.out]; rintro e w1 ⟨rfl, rfl⟩
              go_wp2_with fail
              refine (between_any _ _ _ _).mono ?_; rw [H2.out]; rintro e w1 ⟨rfl, rfl⟩
              go_wp2_with fail
              refine (between_any _ _ _ _).mono ?_; rw [H4.out]; rintro e w1 ⟨rfl, rfl⟩
              go_wp2_with fail
              refine (hright_any A n c l _ (hl.below b1) hn).mono ?_; rw [H5.out]; rintro e w1 ⟨rfl, hb1⟩
              go_wp2_with fail
              go_ret
              exact ⟨ret_b (by simp [T.right, H0.out, H1.out, H2.out, E1.out, G.out, H4.out, H5.out]), (bel b1 hb1)⟩
        · have e1 : (decide (0 ≤ fr) && T.btw b fr 100000) = false := by simp [T.btw]; omega
          have E1 := Lib.hid e1
          clear e1
          by_cases g1 : 0 ≤ fr
          · by_cases g2 : fr ≤ b
            · have g3 : decide (b ≤ 100000) = false := by simp; omega
              clear g0
              go_enter Try.func13, Try.ntmps13
              go_wp2_with fail
              refine (between_any _ _ _ _).mono ?_; rw [H0.out]; rintro e w1 ⟨rfl, rfl⟩
              go_wp2_with fail
              refine (between_any _ _ _ _).mono ?_; rw [H1.out]; rintro e w1 ⟨rfl, rfl⟩
              go_wp2_with fail
              refine (between_any _ _ _ _).mono ?_; rw [H2.out]; rintro e w1 ⟨rfl, rfl⟩
              go_wp2_with fail
              go_ret
              exact ⟨ret_b (Eq.symm (T.days_no E1.out)), b1⟩
            · have g3 : decide (fr ≤ b) = false := by simp; omega
              clear g0 g2
              go_enter Try.func13, Try.ntmps13
              go_wp2_with fail
              refine (between_any _ _ _ _).mono ?_; rw [H0.out]; rintro e w1 ⟨rfl, rfl⟩
              go_wp2_with fail
              refine (between_any _ _ _ _).mono ?_; rw [H1.out]; rintro e w1 ⟨rfl, rfl⟩
              go_wp2_with fail
              refine (between_any _ _ _ _).mono ?_; rw [H2.out]; rintro e w1 ⟨rfl, rfl⟩
              go_wp2_with fail
              go_ret
              exact ⟨ret_b (Eq.symm (T.days_no E1.out)), b1⟩
          · have g3 : decide (0 ≤ fr) = false := by simp; omega
            clear g0 g1
            go_enter Try.func13, Try.ntmps13
            go_wp2_with fail
            refine (between_any _ _ _ _).mono ?_; rw [H0.out]; rintro e w1 ⟨rfl, rfl⟩
            go_wp2_with fail
            refine (between_any _ _ _ _).mono ?_; rw [H1.out]; rintro e w1 ⟨rfl, rfl⟩
            go_wp2_with fail
            refine (between_any _ _ _ _).mono ?_; rw [H2.out]; rintro e w1 ⟨rfl, rfl⟩
            go_wp2_with fail
            go_ret
            exact ⟨ret_b (Eq.symm (T.days_no E1.out)), b1⟩

set_option maxRecDepth 100000 in
set_option maxHeartbeats 4000000 in
theorem rright29_any (q : Q) (w : World) (hl : Wins w q.A q.n q.l) (hn : q.n ≤ 1000000000) :
    Calls Try.prog 14 #[.agg #[.int .i64 q.node, .int .i64 q.room, .int .i64 q.kilos, .int .i64 q.service, .int .i64 q.frm, .int .i64 q.by_, .slice q.A q.n q.c]] w fun e w' => e = .returned (.bool (T.right q)) ∧ Below w.heap.size w w' := by
  obtain ⟨nd, rm, kl, sv, fr, b, A, n, c, l⟩ := q
  simp only at hl hn ⊢
  have b1 : Below w.heap.size w (w.alloc (.cells #[.int .i64 nd, .int .i64 rm, .int .i64 kl, .int .i64 sv, .int .i64 fr, .int .i64 b, .slice A n c] 31)) := (Below.refl _ _).alloc (Nat.le_refl _) _
  have hl1 := hl.below b1
  cases h0 : T.btw nd 0 99
  · have H0 := Lib.hid h0
    clear h0
    go_enter Try.func14, Try.ntmps14
    go_wp2_with fail
    refine (rin_any _ _ _ _).mono ?_; rw [H0.out]; rintro e w1 ⟨rfl, rfl⟩
    go_wp2_with fail
    go_ret
    exact ⟨ret_b (by simp [T.right, H0.out]), b1⟩
  · have H0 := Lib.hid h0
    clear h0
    cases h1 : T.btw rm 0 2
    · have H1 := Lib.hid h1
      clear h1
      go_enter Try.func14, Try.ntmps14
      go_wp2_with fail
      refine (rin_any _ _ _ _).mono ?_; rw [H0.out]; rintro e w1 ⟨rfl, rfl⟩
      go_wp2_with fail
      refine (rin_any _ _ _ _).mono ?_; rw [H1.out]; rintro e w1 ⟨rfl, rfl⟩
      go_wp2_with fail
      go_ret
      exact ⟨ret_b (by simp [T.right, H0.out, H1.out]), b1⟩
    · have H1 := Lib.hid h1
      clear h1
      cases h2 : T.btw kl 1 1000000
      · have H2 := Lib.hid h2
        clear h2
        go_enter Try.func14, Try.ntmps14
        go_wp2_with fail
        refine (rin_any _ _ _ _).mono ?_; rw [H0.out]; rintro e w1 ⟨rfl, rfl⟩
        go_wp2_with fail
        refine (rin_any _ _ _ _).mono ?_; rw [H1.out]; rintro e w1 ⟨rfl, rfl⟩
        go_wp2_with fail
        refine (rin_any _ _ _ _).mono ?_; rw [H2.out]; rintro e w1 ⟨rfl, rfl⟩
        go_wp2_with fail
        go_ret
        exact ⟨ret_b (by simp [T.right, H0.out, H1.out, H2.out]), b1⟩
      · have H2 := Lib.hid h2
        clear h2
        cases h3 : T.btw sv 0 1000000
        · have H3 := Lib.hid h3
          clear h3
          go_enter Try.func14, Try.ntmps14
          go_wp2_with fail
          refine (rin_any _ _ _ _).mono ?_; rw [H0.out]; rintro e w1 ⟨rfl, rfl⟩
          go_wp2_with fail
          refine (rin_any _ _ _ _).mono ?_; rw [H1.out]; rintro e w1 ⟨rfl, rfl⟩
          go_wp2_with fail
          refine (rin_any _ _ _ _).mono ?_; rw [H2.out]; rintro e w1 ⟨rfl, rfl⟩
          go_wp2_with fail
          refine (rin_any _ _ _ _).mono ?_; rw [H3.out]; rintro e w1 ⟨rfl, rfl⟩
          go_wp2_with fail
          go_ret
          exact ⟨ret_b (by simp [T.right, H0.out, H1.out, H2.out, H3.out]), b1⟩
        · have H3 := Lib.hid h3
          clear h3
          cases h4 : decide (0 ≤ fr)
          · have H4 := Lib.hid h4
            go_enter Try.func14, Try.ntmps14
            go_wp2_with fail
            refine (rin_any _ _ _ _).mono ?_; rw [H0.out]; rintro e w1 ⟨rfl, rfl⟩
            go_wp2_with fail
            refine (rin_any _ _ _ _).mono ?_; rw [H1.out]; rintro e w1 ⟨rfl, rfl⟩
            go_wp2_with fail
            refine (rin_any _ _ _ _).mono ?_; rw [H2.out]; rintro e w1 ⟨rfl, rfl⟩
            go_wp2_with fail
            refine (rin_any _ _ _ _).mono ?_; rw [H3.out]; rintro e w1 ⟨rfl, rfl⟩
            go_wp2_with fail
            go_ret
            exact ⟨ret_b (by simp [T.right, H0.out, H1.out, H2.out, H3.out, H4.out]), b1⟩
          · have H4 := Lib.hid h4
            cases h5 : T.btw b fr 100000
            · have H5 := Lib.hid h5
              clear h5
              go_enter Try.func14, Try.ntmps14
              go_wp2_with fail
              refine (rin_any _ _ _ _).mono ?_; rw [H0.out]; rintro e w1 ⟨rfl, rfl⟩
              go_wp2_with fail
              refine (rin_any _ _ _ _).mono ?_; rw [H1.out]; rintro e w1 ⟨rfl, rfl⟩
              go_wp2_with fail
              refine (rin_any _ _ _ _).mono ?_; rw [H2.out]; rintro e w1 ⟨rfl, rfl⟩
              go_wp2_with fail
              refine (rin_any _ _ _ _).mono ?_; rw [H3.out]; rintro e w1 ⟨rfl, rfl⟩
              go_wp2_with fail
              refine (rin_any _ _ _ _).mono ?_; rw [H5.out]; rintro e w1 ⟨rfl, rfl⟩
              go_wp2_with fail
              go_ret
              exact ⟨ret_b (by simp [T.right, H0.out, H1.out, H2.out, H3.out, H4.out, H5.out]), b1⟩
            · have H5 := Lib.hid h5
              clear h5
              cases h6 : H.right l
              · have H6 := Lib.hid h6
                clear h6
                go_enter Try.func14, Try.ntmps14
                go_wp2_with fail
                refine (rin_any _ _ _ _).mono ?_; rw [H0.out]; rintro e w1 ⟨rfl, rfl⟩
                go_wp2_with fail
                refine (rin_any _ _ _ _).mono ?_; rw [H1.out]; rintro e w1 ⟨rfl, rfl⟩
                go_wp2_with fail
                refine (rin_any _ _ _ _).mono ?_; rw [H2.out]; rintro e w1 ⟨rfl, rfl⟩
                go_wp2_with fail
                refine (rin_any _ _ _ _).mono ?_; rw [H3.out]; rintro e w1 ⟨rfl, rfl⟩
                go_wp2_with fail
                refine (rin_any _ _ _ _).mono ?_; rw [H5.out]; rintro e w1 ⟨rfl, rfl⟩
                go_wp2_with fail
                refine (rright_any A n c l _ (hl.below b1) hn).mono ?_; rw [H6.out]; rintro e w1 ⟨rfl, hb1⟩
                go_wp2_with fail
                go_ret
                exact ⟨ret_b (by simp [T.right, H0.out, H1.out, H2.out, H3.out, H4.out, H5.out, H6.out]), (bel b1 hb1)⟩
              · have H6 := Lib.hid h6
                clear h6
                go_enter Try.func14, Try.ntmps14
                go_wp2_with fail
                refine (rin_any _ _ _ _).mono ?_; rw [H0.out]; rintro e w1 ⟨rfl, rfl⟩
                go_wp2_with fail
                refine (rin_any _ _ _ _).mono ?_; rw [H1.out]; rintro e w1 ⟨rfl, rfl⟩
                go_wp2_with fail
                refine (rin_any _ _ _ _).mono ?_; rw [H2.out]; rintro e w1 ⟨rfl, rfl⟩
                go_wp2_with fail
                refine (rin_any _ _ _ _).mono ?_; rw [H3.out]; rintro e w1 ⟨rfl, rfl⟩
                go_wp2_with fail
                refine (rin_any _ _ _ _).mono ?_; rw [H5.out]; rintro e w1 ⟨rfl, rfl⟩
                go_wp2_with fail
                refine (rright_any A n c l _ (hl.below b1) hn).mono ?_; rw [H6.out]; rintro e w1 ⟨rfl, hb1⟩
                go_wp2_with fail
                go_ret
                exact ⟨ret_b (by simp [T.right, H0.out, H1.out, H2.out, H3.out, H4.out, H5.out, H6.out]), (bel b1 hb1)⟩
end Go.Proofs.Ytdbllcphopecjaa
