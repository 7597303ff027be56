/-
Routes: the contract of route.Blocks.
-/
import Derived.Test.YtippdjmpkafifaaPF
namespace Go.Proofs.Ytippdjmpkafifaa
open Go.RowKit

namespace K
theorem mem_rowLabs {m : Nat} {row : List Int} {x : Lb} : ∀ {i : Nat}, x ∈ rowLabs m row i → ∃ k, k < i ∧ m.testBit k = true ∧ x = ⟨m, k, (row[k]?).getD (-1)⟩
  | 0, h => by simp [rowLabs] at h
  | i + 1, h => by
    rw [rowLabs] at h
    rcases List.mem_append.1 h with h | h
    · obtain ⟨k, hk, h2⟩ := mem_rowLabs h
      exact ⟨k, by omega, h2⟩
    · by_cases hb : m.testBit i = true
      · rw [if_pos hb] at h
        exact ⟨i, by omega, hb, List.mem_singleton.1 h⟩
      · rw [if_neg hb] at h; cases h
theorem mem_tabLabs {n : Nat} {t : List (List Int)} {x : Lb} : ∀ {M : Nat}, x ∈ tabLabs n t M → ∃ m, m < M ∧ x ∈ rowLabs m ((t[m]?).getD []) n
  | 0, h => by simp [tabLabs] at h
  | M + 1, h => by
    rw [tabLabs] at h
    rcases List.mem_append.1 h with h | h
    · obtain ⟨m, hm, h2⟩ := mem_tabLabs h
      exact ⟨m, by omega, h2⟩
    · exact ⟨M, by omega, h⟩
end K

theorem PAt.labs {w : World} {b mb : Nat} {p : PS} {X : Nat → Prop} (h : PAt w b mb p X) : ∀ x ∈ K.labs p.x.nd p.x.l p.x.s p.x.r p.l, LabOk p x := by
  intro x hx
  unfold K.labs at hx
  rw [if_pos h.ok] at hx
  obtain ⟨m, hm, hx⟩ := K.mem_tabLabs hx
  obtain ⟨k, hk, -, rfl⟩ := K.mem_rowLabs hx
  obtain ⟨j, q, hel, hno, hse, -⟩ := h.elem (k := k) (by rw [h.set.1]; exact hk)
  refine ⟨k, j, q, hel, rfl, hno, ?_⟩
  rw [K.table_at hm, Option.getD_some]
  have hsrv : ∀ i ∈ p.l, 0 ≤ (K.req p.x.r i).service := fun i hi => by
    obtain ⟨k2, hk2⟩ := List.mem_iff_getElem?.1 hi
    obtain ⟨j2, q2, hel2, -, hse2, -⟩ := h.elem (k := k2) (by rw [h.set.1]; exact (List.getElem?_eq_some_iff.1 hk2).1)
    have h1 := hel2.set
    rw [hk2] at h1
    injection h1 with h1
    rw [h1, K.req_get hel2.req]
    exact hse2.1
  have hb := K.rowOf_bd (nd := p.x.nd) (l := p.x.l) (s := p.x.s) (r := p.x.r) (v := p.l) (t := K.table p.x.nd p.x.l p.x.s p.x.r p.l m) (m := m) hsrv
  have hkl : k < (K.rowOf p.x.nd p.x.l p.x.s p.x.r p.l (K.table p.x.nd p.x.l p.x.s p.x.r p.l m) m).length := by rw [K.rowOf_len]; exact hk
  rw [List.getElem?_eq_getElem hkl, Option.getD_some]
  exact hb _ (List.getElem_mem hkl)

theorem K.labs_len (nd : Int) (l : List Ro) (s : S) (r : List Q) (v : List Int) : (K.labs nd l s r v).length ≤ 1000 := by
  unfold K.labs
  split
  · rename_i h
    have hl := (K.ok31_parts h).2.2.2.2.1
    have h1 := K.tabLabs_len v.length (K.table nd l s r v (2 ^ v.length)) (2 ^ v.length)
    have h2 : 2 ^ v.length ≤ 64 := Nat.pow_le_pow_right (n := 2) (by omega) hl
    have h3 : 2 ^ v.length * v.length ≤ 64 * 6 := Nat.mul_le_mul h2 hl
    omega
  · simp

set_option maxRecDepth 100000 in
set_option maxHeartbeats 16000000 in
theorem blocks_any (x : C) (sh : Int) (V : Option Addr) (vn vc : Nat) (v : List Int) (LA : Option Addr) (ln lc : Nat) (l : List Lb) (w : World) (hx : At w x) (hV : Ints w V vn v) (hvc : vn ≤ vc) (hvn : vn ≤ 1000000000) (hL : Labs w LA ln l) (hln : ln ≤ 1000000000) :
    Calls Try.prog 42 #[.agg #[.int .i64 x.nd, .slice x.A x.n x.c], .agg #[.int .i64 x.s.day, .int .i64 x.s.depot, .int .i64 x.s.start, .int .i64 x.s.end_, .int .i64 x.s.tare, .slice x.s.A x.s.n x.s.c], .slice x.B x.m x.d, .agg #[.int .i64 sh, .slice V vn vc, .slice LA ln lc]] w fun e w' => e = .returned (.bool (K.blocks x.nd x.l x.s x.r v l)) ∧ Below w.heap.size w w' := by
  obtain ⟨w1, hw1⟩ : ∃ w1 : World, w1 = w.alloc (.cells #[.int .i64 x.nd, .slice x.A x.n x.c] 24) := ⟨_, rfl⟩
  obtain ⟨w2, hw2⟩ : ∃ w2 : World, w2 = w1.alloc (.cells #[.int .i64 x.s.day, .int .i64 x.s.depot, .int .i64 x.s.start, .int .i64 x.s.end_, .int .i64 x.s.tare, .slice x.s.A x.s.n x.s.c] 43) := ⟨_, rfl⟩
  obtain ⟨w3, hw3⟩ : ∃ w3 : World, w3 = w2.alloc (.cells #[.int .i64 sh, .slice V vn vc, .slice LA ln lc] 72) := ⟨_, rfl⟩
  have z1 : w1.heap.size = w.heap.size + 1 := by rw [hw1]; exact World.size_alloc _ _
  have z2 : w2.heap.size = w.heap.size + 1 + 1 := by rw [hw2, World.size_alloc, z1]
  have b01 : Below w.heap.size w w1 := by rw [hw1]; exact (Below.refl _ _).alloc (Nat.le_refl _) _
  have b12 : Below w1.heap.size w1 w2 := by rw [hw2]; exact (Below.refl _ _).alloc (Nat.le_refl _) _
  have b23 : Below w2.heap.size w2 w3 := by rw [hw3]; exact (Below.refl _ _).alloc (Nat.le_refl _) _
  have hP : Net w3 w.heap.size x.nd x.A x.n x.c := by
    have h1 : Net w1 w.heap.size x.nd x.A x.n x.c := by rw [hw1]; exact Net.new _ _ _ _ _
    exact (h1.below b12).below b23
  have hS : Shf w3 (w.heap.size + 1) x.s := by
    have h1 : Shf w2 (w.heap.size + 1) x.s := by rw [← z1, hw2]; exact Shf.new _ _
    exact h1.below b23
  have hB : w3.heap[w.heap.size + 1 + 1]? = some (.cells #[.int .i64 sh, .slice V vn vc, .slice LA ln lc] 72 (0, 0)) := by rw [← z2, hw3]; exact heap_alloc_new _ _
  have b3 := bel (bel b01 b12) b23
  go_enter Try.func42, Try.ntmps42
  go_wp2_with fail
  rw [← hw1, ← hw2, ← hw3]
  clear hw1 hw2 hw3 z1 z2 b01 b12 b23
  refine (planned_any x V vn vc v _ (hx.below b3) (hV.below b3) hvc hvn).mono ?_
  rintro e w4 ⟨hret, b34⟩
  have hP := hP.below b34
  have hS := hS.below b34
  have hB := blk_below b34 hB
  have hb := bel b3 b34
  have hsz := b3.size
  clear b3 b34
  rcases hret with ⟨hok, rfl⟩ | ⟨b, mb, rfl, hbb, hbm, hPl⟩
  · have HX := Lib.hid (show K.blocks x.nd x.l x.s x.r v l = false by simp [K.blocks, hok])
    clear hok
    go_wp2_with fail
    go_quiet (fail)
    go_wp2_with fail
    go_ret
    exact ⟨ret_b HX.out.symm, below_drewN (bel hb ((Below.refl _ _).alloc (Nat.le_refl _) _)) _⟩
  have hp := hPl (fun _ => False)
  clear hPl
  have HOK := Lib.hid (show K.ok31 x.nd x.l x.s x.r v = true from hp.ok)
  have HLN := Lib.hid hV.1
  have hv6 : vn ≤ 6 := by have := (K.ok31_parts hp.ok).2.2.2.2.1; have := hV.1; dsimp only at *; omega
  obtain ⟨w5, hw5⟩ : ∃ w5, w5 = w4.alloc (.cells #[.pointer (some ⟨b, 0, none⟩)] 101) := ⟨_, rfl⟩
  have b45 : Below w4.heap.size w4 w5 := by rw [hw5]; exact (Below.refl _ _).alloc (Nat.le_refl _) _
  have hG : w5.heap[w4.heap.size]? = some (.cells #[.pointer (some ⟨b, 0, none⟩)] 101 (0, 0)) := by rw [hw5]; exact heap_alloc_new _ _
  have hP5 := hP.below b45
  have hS5 := hS.below b45
  have hB5 := blk_below b45 hB
  cases hv0 : ((vn : Int) == 0)
  rotate_left
  · have HX := Lib.hid (show K.blocks x.nd x.l x.s x.r v l = false by
      have h0 : vn = 0 := by simpa using hv0
      have h1 : v.length = 0 := by rw [← HLN.out]; exact h0
      simp [K.blocks, h1])
    have c1 := blk_cell hB5 1 _ rfl
    rw [hw5] at c1
    go_wp2_with fail
    rw [← hw5]
    have c1 := blk_cell hB5 1 _ rfl
    go_quiet (fail)
    go_wp2_with fail
    go_ret
    exact ⟨ret_b HX.out.symm, below_drewN (bel hb b45) _⟩
  have hb5 := bel hb b45
  have HV0 := Lib.hid (show ¬ vn = 0 by simpa using hv0)
  have hp5 := hp.below b45
  have hmk : ∀ w', Below w5.heap.size w5 w' → (fun w' => Below w5.heap.size w5 w' ∧ w'.cell? ⟨w.heap.size, 0, none⟩ = some (.int .i64 x.nd) ∧ w'.cell? ⟨w.heap.size, 1, none⟩ = some (.slice x.A x.n x.c) ∧ w'.cell? ⟨w.heap.size + 1, 0, none⟩ = some (.int .i64 x.s.day) ∧ w'.cell? ⟨w.heap.size + 1, 1, none⟩ = some (.int .i64 x.s.depot) ∧ w'.cell? ⟨w.heap.size + 1, 2, none⟩ = some (.int .i64 x.s.start) ∧ w'.cell? ⟨w.heap.size + 1, 3, none⟩ = some (.int .i64 x.s.end_) ∧ w'.cell? ⟨w.heap.size + 1, 4, none⟩ = some (.int .i64 x.s.tare) ∧ w'.cell? ⟨w.heap.size + 1, 5, none⟩ = some (.slice x.s.A x.s.n x.s.c) ∧ w'.cell? ⟨w.heap.size + 1 + 1, 0, none⟩ = some (.int .i64 sh) ∧ w'.cell? ⟨w.heap.size + 1 + 1, 1, none⟩ = some (.slice V vn vc) ∧ w'.cell? ⟨w.heap.size + 1 + 1, 2, none⟩ = some (.slice LA ln lc)) w' := fun w' h => by
    have h1 := hP5.below h
    obtain ⟨s0, s1, s2, s3, s4, s5⟩ := (hS5.below h).cells
    have h3 := blk_below h hB5
    exact ⟨h, h1.c0, h1.c1, s0, s1, s2, s3, s4, s5, blk_cell h3 0 _ rfl, blk_cell h3 1 _ rfl, blk_cell h3 2 _ rfl⟩
  have S0 := hmk _ (Below.refl _ _)
  have S0d := hmk w5.drew (Below.refl w5.heap.size w5).drew
  have h5d := bel hb5 (w2 := w5.drew) (Below.refl w5.heap.size w5).drew
  go_wp2_with fail
  rw [← hw5]
  clear hw5 hP hS hB hP5 b45
  go_region_held3 (fun w' => Below w5.heap.size w5 w' ∧ w'.cell? ⟨w.heap.size, 0, none⟩ = some (.int .i64 x.nd) ∧ w'.cell? ⟨w.heap.size, 1, none⟩ = some (.slice x.A x.n x.c) ∧ w'.cell? ⟨w.heap.size + 1, 0, none⟩ = some (.int .i64 x.s.day) ∧ w'.cell? ⟨w.heap.size + 1, 1, none⟩ = some (.int .i64 x.s.depot) ∧ w'.cell? ⟨w.heap.size + 1, 2, none⟩ = some (.int .i64 x.s.start) ∧ w'.cell? ⟨w.heap.size + 1, 3, none⟩ = some (.int .i64 x.s.end_) ∧ w'.cell? ⟨w.heap.size + 1, 4, none⟩ = some (.int .i64 x.s.tare) ∧ w'.cell? ⟨w.heap.size + 1, 5, none⟩ = some (.slice x.s.A x.s.n x.s.c) ∧ w'.cell? ⟨w.heap.size + 1 + 1, 0, none⟩ = some (.int .i64 sh) ∧ w'.cell? ⟨w.heap.size + 1 + 1, 1, none⟩ = some (.slice V vn vc) ∧ w'.cell? ⟨w.heap.size + 1 + 1, 2, none⟩ = some (.slice LA ln lc))
    (first | assumption | exact S0 | exact S0d)
    (first
      | (go_at_call 39; refine (labels30_any x V vn vc v w5.drew (hx.below h5d) (hV.below h5d) hvc hvn).mono ?_; rintro e w6 ⟨⟨A6, n6, c6, rfl, hI6⟩, b6⟩; have h56 : Below w5.heap.size w5 w6 := bel (w1 := w5.drew) (Below.refl _ _).drew b6; have S6 := hmk _ h56)
      | (go_at_call 67; refine (eqlab_any LA A6 ln n6 lc c6 l (K.labs x.nd x.l x.s x.r v) w6 (Lst.below hL (bel hb5 h56)) hI6 hln (by rw [hI6.1]; exact Nat.le_trans (K.labs_len _ _ _ _ _) (by omega))).mono ?_; rintro e w7 ⟨rfl, b7⟩; have h57 := bel h56 b7; have S7 := hmk _ h57)
      | fail)
  obtain ⟨z, hz⟩ : ∃ z, z = decide (l = K.labs x.nd x.l x.s x.r v) := ⟨_, rfl⟩
  rw [← hz]
  have HZ := Lib.hid hz
  have hb7 := bel hb5 h57
  clear S0 S0d S6 h56 hI6 b6 b7 hmk hz
  cases z
  · have HX := Lib.hid (show K.blocks x.nd x.l x.s x.r v l = false by unfold K.blocks; rw [← HZ.out]; simp)
    clear S7
    go_wp2_with fail
    go_ret
    exact ⟨ret_b HX.out.symm, hb7⟩
  · have hll : l = K.labs x.nd x.l x.s x.r v := of_decide_eq_true HZ.out.symm
    obtain ⟨N, hN⟩ : ∃ N, N = 2 ^ vn := ⟨_, rfl⟩
    have hN1 : 1 ≤ N := by rw [hN]; exact Nat.two_pow_pos vn
    have hN64 : N ≤ 64 := by rw [hN]; exact Nat.pow_le_pow_right (by omega) hv6
    have hw1 : IntKind.i64.wrap ((2 : Int) ^ vn) = (N : Int) := by rw [wrap_pow (by omega), hN]; simp
    have hw2 : wrap64 ((2 : Int) ^ vn) = (N : Int) := by rw [← IntWalk.i64_left]; exact hw1
    have HNN := Lib.hid hN
    clear hN
    obtain ⟨al, hal⟩ : ∃ al, al = N - 1 := ⟨_, rfl⟩
    have hw3 : IntKind.i64.wrap ((N : Int) - 1) = (al : Int) := by rw [IntWalk.i64_in _ (by omega)]; omega
    have hw4 : wrap64 ((N : Int) - 1) = (al : Int) := by rw [← IntWalk.i64_left]; exact hw3
    have HX := Lib.hid (show K.blocks x.nd x.l x.s x.r v l = !(l.any (K.opensAt x.nd x.l x.s x.r v al)) by
      unfold K.blocks
      rw [← HZ.out, HOK.out, hal, HNN.out, HLN.out]
      have h0 : (v.length == 0) = false := by have := HV0.out; rw [HLN.out] at this; simpa using this
      rw [h0]
      simp)
    have hokl : ∀ y ∈ l, LabOk ⟨x, V, vn, vc, v⟩ y := by rw [hll]; exact hp.labs
    have hal2 : al < 256 := by omega
    obtain ⟨w8, hw8⟩ : ∃ w8, w8 = w7.alloc (.cells #[.int .i64 (al : Int)] 3) := ⟨_, rfl⟩
    have b78 : Below w7.heap.size w7 w8 := by rw [hw8]; exact (Below.refl _ _).alloc (Nat.le_refl _) _
    have h58 := bel h57 b78
    have hA : w8.heap[w7.heap.size]? = some (.cells #[.int .i64 (al : Int)] 3 (0, 0)) := by rw [hw8]; exact heap_alloc_new _ _
    have e2 := blk_cell (blk_below h58 hB5) 2 _ rfl
    have e1 := blk_cell (blk_below h57 hB5) 1 _ rfl
    rw [hw8] at e2
    have hp8 := hp5.below h58
    have CC := containsL b mb ⟨x, V, vn, vc, v⟩ al w7.heap.size w4.heap.size (w.heap.size + 1) LA ln lc l w8 hp8 (fun g hg => hg.elim) hA (blk_below h58 hG) (hS5.below h58) hal2 (Lst.below hL (bel hb7 b78)) hln hokl
    obtain ⟨r9, hr9⟩ : ∃ r9, r9 = l.any (K.opensAt x.nd x.l x.s x.r v al) := ⟨_, rfl⟩
    simp only [← hr9] at CC
    rw [← hr9] at HX
    clear S7 hal hr9 hll hokl
    go_wp2_with fail
    rw [← hw8]
    clear e1 e2 hw8
    refine CC.mono ?_
    rintro e w9 ⟨rfl, hW⟩
    go_wp2_with fail
    go_ret
    exact ⟨ret_b HX.out.symm, below_own2 (bel hb7 b78) hW.1 (fun g e => by injection e with e; omega)⟩
end Go.Proofs.Ytippdjmpkafifaa
