/-
The walk of truck.Loads.
-/
import Derived.Test.YtdbllcphopecjaaT13
namespace Go.Proofs.Ytdbllcphopecjaa
open Go.RowKit Go.Maps

set_option maxHeartbeats 4000000 in
theorem loads_any (s : S) (B : Option Addr) (m d : Nat) (r : List Q) (A : Option Addr) (n c : Nat) (l : List Int) (w : World) (hs : Ints w s.A s.n s.l) (hsn : s.n ≤ 1000000000) (hq : Reqs w B m r) (hm : m ≤ 1000000000) (hqn : ∀ q ∈ r, q.n ≤ 1000000000) (hl : Ints w A n l) (hn : n ≤ 1000000000) :
    Calls Try.prog 19 #[.agg #[.int .i64 s.day, .int .i64 s.depot, .int .i64 s.start, .int .i64 s.end_, .int .i64 s.tare, .slice s.A s.n s.c], .slice B m d, .slice A n c] w fun e w' => Below w.heap.size w w' ∧ ((T.load s r l = true ∧ ∃ g, e = .returned (.slice (some ⟨g, 0, none⟩) 3 3) ∧ w.heap.size ≤ g ∧ Three w' g (T.room r 0 l) (T.room r 1 l) (T.room r 2 l)) ∨ (T.load s r l = false ∧ e = .returned (.slice none 0 0))) := by
  have hmk := make_three
  have hmm := @run_makeMap Try.prog
  have b0 := (Below.refl w.heap.size w).alloc (Nat.le_refl _) (.cells #[.int .i64 s.day, .int .i64 s.depot, .int .i64 s.start, .int .i64 s.end_, .int .i64 s.tare, .slice s.A s.n s.c] 24)
  cases h1 : (T.check s == 0)
  · have HF := Lib.hid (show T.load s r l = false by simp [T.load, h1])
    have q1 : (T.check s != 0) = true := by simp [bne, h1]
    clear h1
    go_enter Try.func19, Try.ntmps19
    go_wp2_with fail
    refine (check_any s _ (hs.below b0) hsn).mono ?_; rintro e w1 ⟨rfl, hb1'⟩; have hb1 := bel b0 hb1'; clear hb1'
    go_wp2_with fail
    go_ret
    exact ⟨hb1, .inr ⟨HF.out, rfl⟩⟩
  · have q1 : (T.check s != 0) = false := by simp [bne, h1]
    cases h2 : (r.any fun q => !T.right q)
    · have HF := Lib.hid (show T.load s r l = T.isSet r.length l by simp only [T.load]; rw [h1, h2]; simp)
      have HR := Lib.hid (show T.allRight r from fun q hq => by
        have := List.any_eq_false.1 h2 q hq
        simpa using this)
      have H2 := Lib.hid h2
      clear h2
      go_enter Try.func19, Try.ntmps19
      go_wp2_with fail
      refine (check_any s _ (hs.below b0) hsn).mono ?_; rintro e w1 ⟨rfl, hb1'⟩; have hb1 := bel b0 hb1'; clear hb1' b0
      go_wp2_with fail
      refine (containsQ B m d r _ (hq.below hb1) hm hqn).mono ?_; rw [H2.out]; rintro e w2 ⟨rfl, hb2'⟩; have hb2 := bel hb1 hb2'; clear hb2' hb1
      go_wp2_with fail
      have SL := World.size_alloc w2 (.cells #[.int .i64 0, .int .i64 0, .int .i64 0] 3)
      go_loopw [22] (fun vi wr => ∃ k : Nat, vi = .int .i64 k ∧ k ≤ n ∧ Hid (T.isSet r.length l = T.isSetFrom r.length (l.take k) (l.drop k)) ∧ Three wr w2.heap.size (T.room r 0 (l.take k)) (T.room r 1 (l.take k)) (T.room r 2 (l.take k)) ∧ Seen wr (w2.heap.size + 1) k (l.take k) ∧ Below w.heap.size w wr) (fun vi _ => n - (intOf vi).toNat)
      case atStart =>
        refine ⟨0, rfl, by omega, by show _ = _; rfl, ?_, ?_, ?_⟩
        · exact Three.below (w := w2.alloc _) (MapKept.heap_alloc w2 _).1 ((Below.refl _ _).alloc (Nat.le_refl _) _)
        · have hm0 := World.ownsMap_made (w2.alloc (.cells #[.int .i64 0, .int .i64 0, .int .i64 0] 3)) Try.prog 3 (plainElem (H := Unit) Try.prog 4)
          rw [SL] at hm0
          exact hm0
        · exact (hb2.alloc hb2.size _).alloc (by rw [SL]; have := hb2.size; omega) _
      case round =>
        obtain ⟨k, rfl, hk, hr, hT, hS, hbr⟩ := hrel
        by_cases hlt : k < n
        · obtain ⟨adl, x, rfl, hg, c0⟩ := (hl.below hbr).at_ hlt
          have HS := Lib.hid (T.isSet_drop (n := r.length) hg)
          cases hbt : T.btw x 0 (m - 1)
          · have HX := Lib.hid (show T.load s r l = false by
              have e1 : (m : Int) - 1 < r.length := by rw [hq.1]; omega
              rw [HF.out, hr.out, HS.out]
              simp [T.btw] at hbt
              by_cases h0 : 0 ≤ x
              · have := hbt h0
                have h9 : ¬ x < (r.length : Int) := by rw [← hq.1]; omega
                simp [h9]
              · simp [h0])
            go_wp2_with fail
            refine (between_any _ _ _ _).mono ?_; rw [hbt]; rintro e w3 ⟨rfl, rfl⟩
            go_wp2_with fail
            go_ret
            exact ⟨hbr, .inr ⟨HX.out, rfl⟩⟩
          · obtain ⟨hx0, hxm⟩ := T.btw_iff.1 hbt
            obtain ⟨i, rfl⟩ : ∃ i : Nat, x = i := ⟨x.toNat, by omega⟩
            have him : i < m := by omega
            have hwf : (Lit.int .i64 (i : Int)).wf = true := WalkArith.wf_i64 (by omega)
            have LK := hS.look i hwf
            cases hany : (l.take k).any (· == (i : Int))
            · rw [hany] at LK
              have HX := Lib.hid (show T.isSet r.length l = T.isSetFrom r.length (l.take (k + 1)) (l.drop (k + 1)) by
                have h9 : (i : Int) < r.length := by rw [← hq.1]; omega
                rw [hr.out, HS.out, hany]; simp [h9])
              have HG := Lib.hid hg
              clear hg hany hr HS
              go_wp2_with fail
              refine (between_any _ _ _ _).mono ?_; rw [hbt]; rintro e w3 ⟨rfl, rfl⟩
              go_wp2_with (first
                | (at_mapUpdate; refine wpList_mapUpdate_own _ rfl _ _ _ 58 rfl 3 4 law3 Try.underlying58 _ (w2.heap.size + 1) k _ rfl hS (by unfold maxLen; omega) _ _ _ rfl rfl (keyOf_int_mk Try.underlying3 hwf) _ [] (plainElem_bool Try.underlying4 true) ?_; intro w5 hown5 hgrow5)
                | fail)
              have hb5 : Below w.heap.size w w5 := hbr.grown hgrow5 hbr.size (fun j e => by injection e with e; have := hb2.size; omega)
              have hT5 : Three w5 w2.heap.size (T.room r 0 (l.take k)) (T.room r 1 (l.take k)) (T.room r 2 (l.take k)) := grow_blk hgrow5 hT (by simp)
              have hS5 : Seen w5 (w2.heap.size + 1) (k + 1) (l.take (k + 1)) := by
                obtain ⟨hk', e⟩ := List.getElem?_eq_some_iff.1 HG.out
                rw [Seen, List.take_succ_eq_append_getElem hk', e, seen_snoc]
                exact hown5
              obtain ⟨ad, q, rfl, hgq, hwq, e0, e1, e2, e3, e4, e5, e6⟩ := (hq.below hb5).at_ him
              have R0 := Lib.hid (T.room_next (r := r) (j := 0) HG.out)
              have R1 := Lib.hid (T.room_next (r := r) (j := 1) HG.out)
              have R2 := Lib.hid (T.room_next (r := r) (j := 2) HG.out)
              obtain ⟨hroom, hk1, hk2⟩ := T.right_room (HR.out q (List.mem_of_getElem? hgq))
              have K0 := Lib.hid (T.kilo_self (r := r) (i := i) (q := q) (by simpa using hgq))
              have bd := fun j => T.room_bound HR.out j (l.take k)
              obtain ⟨bx, bX⟩ := bd 0
              obtain ⟨by_, bY⟩ := bd 1
              obtain ⟨bz, bZ⟩ := bd 2
              clear bd hgrow5 hown5 LK hT hS hbt hx0 hxm c0
              rw [List.length_take, ← hl.1, Nat.min_eq_left hk] at bX bY bZ
              obtain ⟨x, hX⟩ : ∃ x, x = T.room r 0 (l.take k) := ⟨_, rfl⟩
              obtain ⟨y, hY⟩ : ∃ x, x = T.room r 1 (l.take k) := ⟨_, rfl⟩
              obtain ⟨z, hZ⟩ : ∃ x, x = T.room r 2 (l.take k) := ⟨_, rfl⟩
              rw [← hX, ← hY, ← hZ] at hT5
              rw [← hX] at R0 bx bX
              rw [← hY] at R1 by_ bY
              rw [← hZ] at R2 bz bZ
              clear hX hY hZ hgq
              obtain ⟨no, ro, ki, se, fr, by2, QA, qn, qc, ql⟩ := q
              simp only at hroom hk1 hk2 e0 e1 e2 e3 e4 e5 e6 K0
              have d0 := hT5.c0
              have d1 := hT5.c1
              have d2 := hT5.c2
              have f0 := hT5.free
              rcases hroom with rfl | rfl | rfl
              · go_region
                all_goals
                  go_wp2_with fail
                  go_roundw
                  case rel =>
                    refine ⟨k + 1, by go_num, by omega, HX.out, ?_, ?_, ?_⟩
                    · rw [R0.out, R1.out, R2.out, K0.out, K0.out, K0.out]
                      have hn := hT5.set0 (x + ki)
                      simp only [reduceIte, Int.add_zero, Int.reduceEq]
                      exact hn
                    · exact hS5.set (by simp) _
                    · exact ((hb5.setCell (by exact hb2.size) _).drew)
                  case measure => simp [intOf]; omega
              · go_region
                all_goals
                  go_wp2_with fail
                  go_roundw
                  case rel =>
                    refine ⟨k + 1, by go_num, by omega, HX.out, ?_, ?_, ?_⟩
                    · rw [R0.out, R1.out, R2.out, K0.out, K0.out, K0.out]
                      have hn := hT5.set1 (y + ki)
                      simp only [reduceIte, Int.add_zero, Int.reduceEq]
                      exact hn
                    · exact hS5.set (by simp) _
                    · exact ((hb5.setCell (by exact hb2.size) _).drew)
                  case measure => simp [intOf]; omega
              · go_region
                all_goals
                  go_wp2_with fail
                  go_roundw
                  case rel =>
                    refine ⟨k + 1, by go_num, by omega, HX.out, ?_, ?_, ?_⟩
                    · rw [R0.out, R1.out, R2.out, K0.out, K0.out, K0.out]
                      have hn := hT5.set2 (z + ki)
                      simp only [reduceIte, Int.add_zero, Int.reduceEq]
                      exact hn
                    · exact hS5.set (by simp) _
                    · exact ((hb5.setCell (by exact hb2.size) _).drew)
                  case measure => simp [intOf]; omega
            · rw [hany] at LK
              have HX := Lib.hid (show T.load s r l = false by
                rw [HF.out, hr.out, HS.out, hany]; simp)
              clear hg hany hr HS
              go_wp2_with fail
              refine (between_any _ _ _ _).mono ?_; rw [hbt]; rintro e w3 ⟨rfl, rfl⟩
              go_wp2_with fail
              go_ret
              exact ⟨hbr, .inr ⟨HX.out, rfl⟩⟩
        · have e : l.take k = l := List.take_of_length_le (by rw [← hl.1]; omega)
          have hd : l.drop k = [] := List.drop_eq_nil_of_le (by rw [← hl.1]; omega)
          have HX := Lib.hid (show T.load s r l = true by rw [HF.out, hr.out, hd]; rfl)
          rw [e] at hT
          clear e hd
          go_wp2_with fail
          go_ret
          exact ⟨hbr, .inl ⟨HX.out, _, rfl, hb2.size, hT⟩⟩
    · have HF := Lib.hid (show T.load s r l = false by simp only [T.load]; rw [h2]; simp)
      have H2 := Lib.hid h2
      clear h2
      go_enter Try.func19, Try.ntmps19
      go_wp2_with fail
      refine (check_any s _ (hs.below b0) hsn).mono ?_; rintro e w1 ⟨rfl, hb1'⟩; have hb1 := bel b0 hb1'; clear hb1'
      go_wp2_with fail
      refine (containsQ B m d r _ (hq.below hb1) hm hqn).mono ?_; rw [H2.out]; rintro e w2 ⟨rfl, hb2⟩
      go_wp2_with fail
      go_ret
      exact ⟨bel hb1 hb2, .inr ⟨HF.out, rfl⟩⟩
end Go.Proofs.Ytdbllcphopecjaa
