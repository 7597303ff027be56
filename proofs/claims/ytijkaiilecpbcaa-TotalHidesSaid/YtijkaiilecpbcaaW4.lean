/-
The walk of walks.
-/
import Derived.Test.YtijkaiilecpbcaaW3
import Derived.Deep.RegionHeld3
namespace Go.Proofs.Ytijkaiilecpbcaa
open Go.RowKit

theorem K.prev_has {l : List It} {p : List Int} {k : Nat} {a : Int} (ha : p[k]? = some a) (hh : K.has l.length a = true) : ∀ q, K.prev p (k + 1) = some q → K.has l.length q = true := by
  intro q hq
  unfold K.prev at hq
  rw [if_neg (by omega), Nat.add_sub_cancel, ha] at hq
  injection hq with hq
  subst hq; exact hh

set_option maxRecDepth 100000 in
set_option maxHeartbeats 4000000 in
theorem walks_any (A : Option Addr) (n c : Nat) (l : List It) (B : Option Addr) (m d : Nat) (p : List Int) (w : World) (hl : Items w A n l) (hn : n ≤ 1000000000000) (hp : Ints w B m p) (hm : m ≤ 1000000000000) :
    Calls Try.prog 28 #[.agg #[.slice A n c], .slice B m d] w fun e w' => e = .returned (.bool (K.walks l p)) ∧ Below w.heap.size w w' := by
  have b0 := (Below.refl w.heap.size w).alloc (Nat.le_refl _) (.cells #[.slice A n c] 24)
  have hP0 := vbox w A n c
  cases h1 : K.sound l
  · have HX := Lib.hid (show K.walks l p = false by simp [K.walks, h1])
    have H1 := Lib.hid h1
    clear h1
    go_enter Try.func28, Try.ntmps28
    go_wp2_with fail
    refine (sound_any A n c l _ (hl.below b0) hn).mono ?_; rw [H1.out]; rintro e w1 ⟨rfl, b1⟩
    go_wp2_with fail
    go_ret
    exact ⟨ret_b HX.out.symm, bel b0 b1⟩
  · have H1 := Lib.hid h1
    clear h1
    by_cases hm0 : m = 0
    · have HX := Lib.hid (show K.walks l p = false by
        have : p = [] := List.length_eq_zero_iff.1 (by rw [← hp.1]; exact hm0)
        subst this; simp [K.walks])
      have e0 : ((m : Int) == 0) = true := by simp [hm0]
      clear hm0
      go_enter Try.func28, Try.ntmps28
      go_wp2_with fail
      refine (sound_any A n c l _ (hl.below b0) hn).mono ?_; rw [H1.out]; rintro e w1 ⟨rfl, b1⟩
      go_wp2_with fail
      go_ret
      exact ⟨ret_b HX.out.symm, bel b0 b1⟩
    · have HW := Lib.hid (show K.walks l p = K.walkFrom l none p by
        have hne : p.isEmpty = false := by
          cases p with
          | nil => exact absurd hp.1 hm0
          | cons a p => rfl
        simp [K.walks, H1.out, hne])
      have e0 : ((m : Int) == 0) = false := by simp; omega
      clear hm0
      go_enter Try.func28, Try.ntmps28
      go_wp2_with fail
      refine (sound_any A n c l _ (hl.below b0) hn).mono ?_; rw [H1.out]; rintro e w1 ⟨rfl, b1⟩
      have hP1 := blk_below b1 hP0
      have hb1 := bel b0 b1
      clear b0 b1 hP0
      go_wp2_with fail
      go_loopw [18] (fun vi wr => ∃ k : Nat, vi = .int .i64 k ∧ k ≤ m ∧ Hid (K.walkFrom l none p = K.walkFrom l (K.prev p k) (p.drop k)) ∧ Hid (∀ q, K.prev p k = some q → K.has l.length q = true) ∧ Below w1.heap.size w1 wr) (fun vi _ => m - (intOf vi).toNat)
      case atStart => exact ⟨0, rfl, by omega, by show _ = _; rfl, fun q h => by simp [K.prev] at h, Below.refl _ _⟩
      case round =>
        obtain ⟨k, rfl, hk, hr, hpr, hbr⟩ := hrel
        have hb := bel hb1 hbr
        have hP := blk_below hbr hP1
        have p0 := blk_cell hP 0 _ rfl
        by_cases hlt : k < m
        · obtain ⟨adp, a, rfl, ha, c0⟩ := (hp.below hb).at_ hlt
          have HS := Lib.hid (K.walk_drop (l := l) ha)
          have HA := Lib.hid ha
          clear ha
          cases hh : K.has n a
          · have HX := Lib.hid (show K.walks l p = false by rw [HW.out, hr.out, HS.out, ← hl.1, hh]; rfl)
            have HH := Lib.hid hh
            clear hh
            go_wp2_with fail
            refine (has_any A n c a _).mono ?_; rw [HH.out]; rintro e w2 ⟨rfl, b2⟩
            go_wp2_with fail
            go_ret
            exact ⟨ret_b HX.out.symm, bel hb b2⟩
          · have HH := Lib.hid hh
            clear hh
            have HP := Lib.hid (K.prev_has HA.out (by rw [← hl.1]; exact HH.out))
            go_wp2_with fail
            refine (has_any A n c a _).mono ?_; rw [HH.out]; rintro e w2 ⟨rfl, b2⟩
            have hP := blk_below b2 hP
            have hb := bel hb b2
            have hbr := bel hbr b2
            clear p0 c0 b2
            have p0 := blk_cell hP 0 _ rfl
            by_cases hk0 : k = 0
            · have HX := Lib.hid (show K.walkFrom l none p = K.walkFrom l (K.prev p (k + 1)) (p.drop (k + 1)) by
                rw [hr.out, HS.out, ← hl.1, HH.out, show K.prev p k = none by simp [K.prev, hk0]]; rfl)
              have hk9 : decide (0 < k) = false := by simp; omega
              clear hk0
              go_wp2_with fail
              go_roundw
              case rel => exact ⟨k + 1, by go_num, by omega, HX.out, HP.out, hbr⟩
              case measure => simp [intOf]; omega
            · obtain ⟨k', rfl⟩ : ∃ k', k = k' + 1 := ⟨k - 1, by omega⟩
              obtain ⟨adp', q, he, hq, cq⟩ := (hp.below hb).at_ (show k' < m by omega)
              injection he with he; subst he
              have hpq : K.prev p (k' + 1) = some q := by unfold K.prev; rw [if_neg (by omega)]; exact hq
              have hhq := hpr.out q hpq
              rw [← hl.1] at hhq
              obtain ⟨q0, q1⟩ := K.has_iff.1 hhq
              obtain ⟨j, rfl⟩ : ∃ j : Nat, q = j := ⟨q.toNat, by omega⟩
              have hjn : j < n := by omega
              obtain ⟨ad, x, rfl, hx, x0, x1, x2, x3⟩ := Items.at_ (hl.below hb) hjn
              have HF := Lib.hid (show K.from_ l (K.prev p (k' + 1)) a = ((x.lt == a) || (x.rt == a)) by
                rw [hpq]; simp only [K.from_, K.stepOk, Int.toNat_natCast, hx])
              clear hx hq hpq hhq q0 q1 hk0
              have i0 : (0 : Int) ≤ (k' : Int) := by omega
              have i1 : (k' : Int) < (m : Int) := by omega
              have j0 : (0 : Int) ≤ (j : Int) := by omega
              have j1 : (j : Int) < (n : Int) := by omega
              have SS : ∀ w', Below w2.heap.size w2 w' → (Below w2.heap.size w2 w' ∧ w'.cell? ⟨w.heap.size, 0, none⟩ = some (.slice (some ad) n c) ∧ w'.cell? (adp.add k') = some (.int .i64 j) ∧
                  w'.cell? (ad.add (j * 4)) = some (.int .i64 x.val) ∧ w'.cell? ⟨(ad.add (j * 4)).block, (ad.add (j * 4)).off + 1, none⟩ = some (.int .i64 x.bl) ∧ w'.cell? ⟨(ad.add (j * 4)).block, (ad.add (j * 4)).off + 2, none⟩ = some (.int .i64 x.lt) ∧ w'.cell? ⟨(ad.add (j * 4)).block, (ad.add (j * 4)).off + 3, none⟩ = some (.int .i64 x.rt)) := fun w' h =>
                ⟨h, (h.cell (cell_lt p0)).trans p0, (h.cell (cell_lt cq)).trans cq, (h.cell (cell_lt x0)).trans x0, (h.cell (cell_lt x1)).trans x1, (h.cell (cell_lt x2)).trans x2, (h.cell (cell_lt x3)).trans x3⟩
              go_wp2_with fail
              have hw1 : IntKind.i64.wrap ((k' : Int) + 1 - 1) = k' := by rw [IntWalk.i64_in _ (by omega)]; omega
              have hw2 : IntKind.i64.wrap (((k' + 1 : Nat) : Int) - 1) = k' := by rw [IntWalk.i64_in _ (by omega)]; omega
              have hw3 : IntKind.i64.wrap (k' : Int) = k' := IntWalk.i64_in _ (by omega)
              clear p0 cq x0 x1 x2 x3
              go_region_held3 (fun w' => Below w2.heap.size w2 w' ∧ w'.cell? ⟨w.heap.size, 0, none⟩ = some (.slice (some ad) n c) ∧ w'.cell? (adp.add k') = some (.int .i64 j) ∧
                  w'.cell? (ad.add (j * 4)) = some (.int .i64 x.val) ∧ w'.cell? ⟨(ad.add (j * 4)).block, (ad.add (j * 4)).off + 1, none⟩ = some (.int .i64 x.bl) ∧ w'.cell? ⟨(ad.add (j * 4)).block, (ad.add (j * 4)).off + 2, none⟩ = some (.int .i64 x.lt) ∧ w'.cell? ⟨(ad.add (j * 4)).block, (ad.add (j * 4)).off + 3, none⟩ = some (.int .i64 x.rt))
                (first | assumption | exact SS _ (Below.refl _ _).drew | exact SS _ ((Below.refl _ _).alloc (Nat.le_refl _) _).drew)
                (first | fail)
              all_goals
                have hbe : ∀ o : Obj, Below w2.heap.size w2 (w2.alloc o).drew := fun o => ((Below.refl _ _).alloc (Nat.le_refl _) _).drew
                clear SS
                cases t1 : (x.lt == a)
                · have t2 : (x.lt != a) = true := by simp [bne, t1]
                  cases t3 : (x.rt == a)
                  · have t4 : (x.rt != a) = true := by simp [bne, t3]
                    have HX := Lib.hid (show K.walks l p = false by rw [HW.out, hr.out, HS.out, HF.out, t1, t3, ← hl.1, HH.out]; rfl)
                    clear t1 t3
                    go_wp2_with fail
                    go_ret
                    exact ⟨ret_b HX.out.symm, bel hb (hbe _)⟩
                  · have t4 : (x.rt != a) = false := by simp [bne, t3]
                    have HX := Lib.hid (show K.walkFrom l none p = K.walkFrom l (K.prev p (k' + 1 + 1)) (p.drop (k' + 1 + 1)) by rw [hr.out, HS.out, HF.out, t1, t3, ← hl.1, HH.out]; rfl)
                    clear t1 t3
                    go_wp2_with fail
                    go_roundw
                    case rel => exact ⟨k' + 1 + 1, by go_num, by omega, HX.out, HP.out, bel hbr (hbe _)⟩
                    case measure => simp [intOf]; omega
                · have t2 : (x.lt != a) = false := by simp [bne, t1]
                  have HX := Lib.hid (show K.walkFrom l none p = K.walkFrom l (K.prev p (k' + 1 + 1)) (p.drop (k' + 1 + 1)) by rw [hr.out, HS.out, HF.out, t1, ← hl.1, HH.out]; rfl)
                  clear t1
                  go_wp2_with fail
                  go_roundw
                  case rel => exact ⟨k' + 1 + 1, by go_num, by omega, HX.out, HP.out, bel hbr (hbe _)⟩
                  case measure => simp [intOf]; omega
        · have hd : p.drop k = [] := List.drop_eq_nil_of_le (by rw [← hp.1]; omega)
          have HX := Lib.hid (show K.walks l p = true by rw [HW.out, hr.out, hd]; cases K.prev p k <;> rfl)
          clear hd
          go_wp2_with fail
          go_ret
          exact ⟨ret_b HX.out.symm, hb⟩
end Go.Proofs.Ytijkaiilecpbcaa
