/-
The walk of the reference's Loads.
-/
import Derived.Test.YtdbllcphopecjaaT11
import Derived.Deep.OwnRows
namespace Go.Proofs.Ytdbllcphopecjaa
open Go.RowKit

theorem make_three (w : World) : (Instr.makeSlice 22 (.int .i64 3) (.int .i64 3)).run Try.prog w = .ok (.slice (some ⟨w.heap.size, 0, none⟩) 3 3) (w.alloc (.cells #[.int .i64 0, .int .i64 0, .int .i64 0] 3)) :=
  by
  have h := run_make_row' (P := Try.prog) 22 3 (.int .i64 0) 8 Try.underlying22 Try.info3 rfl .i64 .i64 3 (by omega) (by omega) w
  rw [show madeCells #[Value.int .i64 0] 3 = #[.int .i64 0, .int .i64 0, .int .i64 0] from Array.ext (by simp [madeCells]) (fun i h1 h2 => by simp [madeCells] at h1 ⊢; rcases i with _ | _ | _ | i <;> first | rfl | omega)] at h
  exact h

set_option maxHeartbeats 4000000 in
theorem rloads_ok (s : S) (B : Option Addr) (m d : Nat) (r : List Q) (A : Option Addr) (n c : Nat) (l : List Int) (w : World) (hs : Ints w s.A s.n s.l) (hsn : s.n ≤ 1000000000) (hq : Reqs w B m r) (hm : m ≤ 1000000000) (hqn : ∀ q ∈ r, q.n ≤ 1000000000) (hl : Ints w A n l) (hn : n ≤ 1000000000) (hok : T.load s r l = true) :
    Calls Try.prog 20 #[.agg #[.int .i64 s.day, .int .i64 s.depot, .int .i64 s.start, .int .i64 s.end_, .int .i64 s.tare, .slice s.A s.n s.c], .slice B m d, .slice A n c] w fun e w' => ∃ g, e = .returned (.slice (some ⟨g, 0, none⟩) 3 3) ∧ w.heap.size ≤ g ∧ Three w' g (T.room r 0 l) (T.room r 1 l) (T.room r 2 l) ∧ Below w.heap.size w w' := by
  have hmk := make_three
  obtain ⟨_, hset, hright⟩ := T.load_parts hok
  have b0 := (Below.refl w.heap.size w).alloc (Nat.le_refl _) (.cells #[.int .i64 s.day, .int .i64 s.depot, .int .i64 s.start, .int .i64 s.end_, .int .i64 s.tare, .slice s.A s.n s.c] 24)
  go_enter Try.func20, Try.ntmps20
  go_wp2_with fail
  refine (load_any s B m d r A n c l _ (hs.below b0) hsn (hq.below b0) hm hqn (hl.below b0) hn).mono ?_; rw [hok]; rintro e w1 ⟨rfl, hb1'⟩; have hb1 := bel b0 hb1'; clear hb1' b0
  go_wp2_with fail
  go_loopw [8] (fun vi wr => ∃ k : Nat, vi = .int .i64 k ∧ k ≤ n ∧ Three wr w1.heap.size (T.room r 0 (l.take k)) (T.room r 1 (l.take k)) (T.room r 2 (l.take k)) ∧ Below w.heap.size w wr) (fun vi _ => n - (intOf vi).toNat)
  case atStart => exact ⟨0, rfl, by omega, (MapKept.heap_alloc w1 _).1, hb1.alloc hb1.size _⟩
  case round =>
    obtain ⟨k, rfl, hk, hT, hbr⟩ := hrel
    by_cases hlt : k < n
    · obtain ⟨adl, x, rfl, hg, c0⟩ := (hl.below hbr).at_ hlt
      obtain ⟨hx0, hxm⟩ := T.isSetFrom_mem hset x (List.mem_of_getElem? hg)
      obtain ⟨i, rfl⟩ : ∃ i : Nat, x = i := ⟨x.toNat, by omega⟩
      have him : i < m := by rw [hq.1]; omega
      obtain ⟨ad, q, rfl, hgq, hwq, e0, e1, e2, e3, e4, e5, e6⟩ := (hq.below hbr).at_ him
      have R0 := Lib.hid (T.room_next (r := r) (j := 0) hg)
      have R1 := Lib.hid (T.room_next (r := r) (j := 1) hg)
      have R2 := Lib.hid (T.room_next (r := r) (j := 2) hg)
      obtain ⟨hroom, hk1, hk2⟩ := T.right_room (hright q (List.mem_of_getElem? hgq))
      have K0 := Lib.hid (T.kilo_self (r := r) (i := i) (q := q) (by simpa using hgq))
      have bd := fun j => T.room_bound hright j (l.take k)
      obtain ⟨bx, bX⟩ := bd 0
      obtain ⟨by_, bY⟩ := bd 1
      obtain ⟨bz, bZ⟩ := bd 2
      clear bd
      rw [List.length_take, ← hl.1, Nat.min_eq_left hk] at bX bY bZ
      obtain ⟨x, hX⟩ : ∃ x, x = T.room r 0 (l.take k) := ⟨_, rfl⟩
      obtain ⟨y, hY⟩ : ∃ x, x = T.room r 1 (l.take k) := ⟨_, rfl⟩
      obtain ⟨z, hZ⟩ : ∃ x, x = T.room r 2 (l.take k) := ⟨_, rfl⟩
      rw [← hX, ← hY, ← hZ] at hT
      rw [← hX] at R0 bx bX
      rw [← hY] at R1 by_ bY
      rw [← hZ] at R2 bz bZ
      clear hX hY hZ hg hgq hx0 hxm hset hright
      obtain ⟨no, ro, ki, se, fr, by2, QA, qn, qc, ql⟩ := q
      simp only at *
      have hT' := hT.below ((Below.refl _ _).alloc (Nat.le_refl _) (.cells #[.int .i64 no, .int .i64 ro, .int .i64 ki, .int .i64 se, .int .i64 fr, .int .i64 by2, .slice QA qn qc] 31))
      have d0 := hT'.c0
      have d1 := hT'.c1
      have d2 := hT'.c2
      have f0 := hT'.free
      rcases hroom with rfl | rfl | rfl
      · go_wp2_with fail
        go_region
        go_wp2_with fail
        go_roundw
        case rel =>
          refine ⟨k + 1, by go_num, by omega, ?_, ?_⟩
          · rw [R0.out, R1.out, R2.out, K0.out, K0.out, K0.out]
            have hn := hT'.set0 (x + ki)
            simp only [reduceIte, Int.add_zero, Int.reduceEq]
            exact hn
          · exact (((hbr.alloc hbr.size _).setCell (by exact hb1.size) _).drew)
        case measure => simp [intOf]; omega
      · go_wp2_with fail
        go_region
        go_wp2_with fail
        go_roundw
        case rel =>
          refine ⟨k + 1, by go_num, by omega, ?_, ?_⟩
          · rw [R0.out, R1.out, R2.out, K0.out, K0.out, K0.out]
            have hn := hT'.set1 (y + ki)
            simp only [reduceIte, Int.add_zero, Int.reduceEq]
            exact hn
          · exact (((hbr.alloc hbr.size _).setCell (by exact hb1.size) _).drew)
        case measure => simp [intOf]; omega
      · go_wp2_with fail
        go_region
        go_wp2_with fail
        go_roundw
        case rel =>
          refine ⟨k + 1, by go_num, by omega, ?_, ?_⟩
          · rw [R0.out, R1.out, R2.out, K0.out, K0.out, K0.out]
            have hn := hT'.set2 (z + ki)
            simp only [reduceIte, Int.add_zero, Int.reduceEq]
            exact hn
          · exact (((hbr.alloc hbr.size _).setCell (by exact hb1.size) _).drew)
        case measure => simp [intOf]; omega
    · have e : l.take k = l := List.take_of_length_le (by rw [← hl.1]; omega)
      rw [e] at hT
      clear e
      go_wp2_with fail
      go_ret
      exact ⟨_, rfl, hb1.size, hT, hbr⟩

set_option maxHeartbeats 4000000 in
theorem rloads_no (s : S) (B : Option Addr) (m d : Nat) (r : List Q) (A : Option Addr) (n c : Nat) (l : List Int) (w : World) (hs : Ints w s.A s.n s.l) (hsn : s.n ≤ 1000000000) (hq : Reqs w B m r) (hm : m ≤ 1000000000) (hqn : ∀ q ∈ r, q.n ≤ 1000000000) (hl : Ints w A n l) (hn : n ≤ 1000000000) (hok : T.load s r l = false) :
    Calls Try.prog 20 #[.agg #[.int .i64 s.day, .int .i64 s.depot, .int .i64 s.start, .int .i64 s.end_, .int .i64 s.tare, .slice s.A s.n s.c], .slice B m d, .slice A n c] w fun e w' => e = .returned (.slice none 0 0) ∧ Below w.heap.size w w' := by
  have b0 := (Below.refl w.heap.size w).alloc (Nat.le_refl _) (.cells #[.int .i64 s.day, .int .i64 s.depot, .int .i64 s.start, .int .i64 s.end_, .int .i64 s.tare, .slice s.A s.n s.c] 24)
  go_enter Try.func20, Try.ntmps20
  go_wp2_with fail
  refine (load_any s B m d r A n c l _ (hs.below b0) hsn (hq.below b0) hm hqn (hl.below b0) hn).mono ?_; rw [hok]; rintro e w1 ⟨rfl, hb1⟩
  go_wp2_with fail
  go_ret
  exact ⟨rfl, bel b0 hb1⟩
end Go.Proofs.Ytdbllcphopecjaa
